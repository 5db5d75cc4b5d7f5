/-
  Texts joined by a program (shake.py), without what the claim does not use; printed walks among them (print.sh), and own ones.
-/
import Derived.Test.YtejjedooecephaaSleep8
import Derived.Laws.AppendOwn
import Derived.Maps.AppendAt
section
namespace Go.Beat
open Go
structure SL where
 b:Nat
 off:Nat
 cap:Nat
 nil:Bool
 wrd:Option Addr -- where nothing is held: what the address says
def SL.addr (s:SL):Option Addr:=if s.nil then s.wrd else some ⟨s.b,s.off,none⟩
def SL.val (s:SL)(n:Nat):Value:=.slice s.addr n s.cap
def SL.none:SL:=⟨0,0,0,true,.none⟩
structure Sto (τ:Type) where
  own:Nat→Option τ
  loc:τ→SL
def Sto.sv {τ:Type}(S:Sto τ)(t:τ)(n:Nat):Value:=(S.loc t).val n
structure Meta (τ:Type) where
  ty:τ→TypeId
  sz:τ→Nat
  fix:τ→Bool
abbrev Heap:=Array Obj
abbrev Cont (τ:Type):=τ→Option (List Value)
structure HoldsAt {τ:Type} (M:Meta τ) (S:Sto τ) (h:Heap) (t:τ) (cs:List Value):Prop where
  len:∃n,cs.length=n*M.sz t∧n≤(S.loc t).cap
  cap:(S.loc t).cap≤9223372036854775807
  pos:0<M.sz t
  fix:M.fix t=true→(S.loc t).nil=false∧(S.loc t).off=0
  nil:(S.loc t).nil=true→(S.loc t).cap=0∧(S.loc t).wrd=none
  blk:(S.loc t).nil=false→S.own (S.loc t).b=some t∧∃pre post:List Value,h[(S.loc t).b]?=some (.cells (pre++cs++post).toArray (M.ty t) (0,0))∧pre.length=(S.loc t).off∧(S.loc t).cap*M.sz t≤(cs++post).length
def Holds {τ:Type}(M:Meta τ)(S:Sto τ)(h:Heap)(c:Cont τ):Prop:=∀t cs,c t=some cs→HoldsAt M S h t cs
def Fresh {τ:Type}(S:Sto τ)(w:World):Prop:=∀b,w.heap.size≤b→S.own b=none
structure Kp {τ:Type} (S:Sto τ) (w:World) (S':Sto τ) (w':World):Prop where
 os:w'.os=w.os
 tape:w'.tape=w.tape
 output:w'.output=w.output
 size:w.heap.size≤w'.heap.size
 own:∀b,b<w.heap.size→(S'.own b=none↔S.own b=none)
 keep:∀b,b<w.heap.size→S.own b=none→w'.heap[b]?=w.heap[b]?
def MapsStay (w w':World):Prop:=∀(b:Nat) (es:Array MapEntry) (cl:Nat),w.heap[b]?=some (Obj.map es cl)→w'.heap[b]?=some (Obj.map es cl)
structure Evn {τ:Type} (S:Sto τ) (w:World) (S':Sto τ) (w':World):Prop extends Kp S w S' w' where
 nc:∀(b:Nat) (es:Array MapEntry) (cl:Nat),w.heap[b]?=some (Obj.map es cl)→w'.heap[b]?=some (Obj.map es cl)
section
variable {τ:Type} {M:Meta τ} {S S' S'':Sto τ} {h h':Heap} {c c':Cont τ} {t:τ} {cs:List Value} {w w' w'':World}
theorem Kp.refl (S:Sto τ)(w:World):Kp S w S w:=⟨rfl,rfl,rfl,Nat.le_refl _,fun _ _=>Iff.rfl,fun _ _ _=>rfl⟩
theorem Kp.trans (h:Kp S w S' w')(k:Kp S' w' S'' w''):Kp S w S'' w'':=
 ⟨k.os.trans h.os,k.tape.trans h.tape,k.output.trans h.output,Nat.le_trans h.size k.size,fun b hb=>(k.own b (Nat.lt_of_lt_of_le hb h.size)).trans (h.own b hb),
  fun b hb hn=>(k.keep b (Nat.lt_of_lt_of_le hb h.size) ((h.own b hb).2 hn)).trans (h.keep b hb hn)⟩
theorem Kp.same (k:Kp S w S' w')(hs:SameH w' w''):Kp S w S' w'':=
 k.trans ⟨hs.os,hs.tape,hs.output,by rw[hs.heap];exact Nat.le_refl _,fun _ _=>Iff.rfl,fun _ _ _=>by rw[hs.heap]⟩
theorem Evn.refl (S:Sto τ)(w:World):Evn S w S w:=⟨Kp.refl S w,fun _ _ _ h=>h⟩
theorem Evn.trans (h:Evn S w S' w')(k:Evn S' w' S'' w''):Evn S w S'' w'':=⟨h.toKp.trans k.toKp,fun b es cl hb=>k.nc b es cl (h.nc b es cl hb)⟩
theorem Holds.congr (H:Holds M S h c)(e:∀t cs,c' t=some cs→c t=some cs):Holds M S h c':=fun t cs ht=>H t cs (e t cs ht)
theorem Holds.eq (H:Holds M S h c)(e:c'=c):Holds M S h c':=e ▸ H
theorem HoldsAt.cell (H:HoldsAt M S h t cs){j:Nat}{v:Value}(hv:cs[j]?=some v)(hw:w.heap=h):w.cell? ⟨(S.loc t).b,(S.loc t).off+j,none⟩=some v:=by
 have hj:j<cs.length:=(List.getElem?_eq_some_iff.1 hv).1
 have hn:(S.loc t).nil=false:=by
  cases hn:(S.loc t).nil with
  |false=>rfl
  |true=>
   have h1:=(H.nil hn).1;obtain⟨n,h2,h3⟩:=H.len;rw[h1] at h3
   have:n=0:=by omega
   subst this;omega
 obtain⟨_,pre,post,hb,hp,_⟩:=H.blk hn;unfold World.cell?;rw[hw];simp only[hb];simp only[Option.isSome_none,Bool.false_eq_true,if_false];simp only[List.getElem?_toArray];rw[List.append_assoc,List.getElem?_append_right (by omega),show (S.loc t).off+j - pre.length=j from by omega,List.getElem?_append_left hj];exact hv
theorem HoldsAt.frozen (H:HoldsAt M S h t cs)(hn:(S.loc t).nil=false)(j:Nat)(hw:w.heap=h):w.frozen? ⟨(S.loc t).b,j,none⟩=false:=by
 obtain⟨_,pre,post,hb,_⟩:=H.blk hn;unfold World.frozen?;rw[hw];simp[hb]
theorem HoldsAt.notNil (H:HoldsAt M S h t cs){j:Nat}(hj:j<cs.length):(S.loc t).nil=false:=by
 cases hn:(S.loc t).nil with
 |false=>rfl
 |true=>
  have h1:=(H.nil hn).1;obtain⟨n,h2,h3⟩:=H.len;rw[h1] at h3
  have:n=0:=by omega
  subst this;omega
theorem HoldsAt.lt (H:HoldsAt M S h t cs)(hn:(S.loc t).nil=false):(S.loc t).b<h.size:=by
 obtain⟨_,pre,post,hb,_⟩:=H.blk hn;exact (Array.getElem?_eq_some_iff.1 hb).1
theorem HoldsAt.other (H:HoldsAt M S h t cs)(hloc:S'.loc t=S.loc t)(hown:∀b,b<h.size→S.own b=some t→S'.own b=some t)(hk:∀b,b<h.size→S.own b=some t→h'[b]?=h[b]?):HoldsAt M S' h' t cs:=by
 refine⟨by rw[hloc];exact H.len,by rw[hloc];exact H.cap,H.pos,by rw[hloc];exact H.fix,by rw[hloc];exact H.nil,fun hn=>?_⟩;rw[hloc] at hn;obtain⟨ho,pre,post,hb,r⟩:=H.blk hn;have hlt:=H.lt hn;rw[hloc];exact⟨hown _ hlt ho,pre,post,(hk _ hlt ho).trans hb,r⟩
open Classical in
/-- The thing of tag t holds something else now. -/
noncomputable def upd (c:Cont τ) (t:τ) (cs:List Value):Cont τ:=fun t'=>if t'=t then some cs else c t'
open Classical in
theorem upd_apply (c:Cont τ) (t:τ) (cs:List Value) (t':τ):upd c t cs t'=if t'=t then some cs else c t':=by simp[upd]
theorem upd_same (c:Cont τ)(t:τ)(cs:List Value):upd c t cs t=some cs:=by simp[upd]
theorem upd_other (c:Cont τ){t t':τ}(cs:List Value)(h:t'≠t):upd c t cs t'=c t':=by simp[upd,h]
theorem heap_setCell (w:World)(b o:Nat)(v:Value){cells:Array Value}{e:TypeId}{f:Nat×Nat}(hb:w.heap[b]?=some (.cells cells e f)):
  (w.setCell ⟨b,o,none⟩ v).heap[b]?=some (.cells (cells.setIfInBounds o v) e f):=by
 simp[World.setCell,Array.getElem?_modify,hb]
theorem heap_setCell_ne (w:World)(b o:Nat)(v:Value){b':Nat}(hne:b'≠b):(w.setCell ⟨b,o,none⟩ v).heap[b']?=w.heap[b']?:=by
 simp only[World.setCell,Array.getElem?_modify];rw[if_neg (by omega)]
theorem Holds.store (H:Holds M S w.heap c)(hc:c t=some cs){j:Nat}(hj:j<cs.length)(v:Value):
  Holds M S (w.setCell ⟨(S.loc t).b,(S.loc t).off+j,none⟩ v).heap (upd c t (cs.set j v)):=by
 have Ht:=H t cs hc;have hn:=Ht.notNil hj;obtain⟨ho,pre,post,hb,hp,hl⟩:=Ht.blk hn;intro t' cs' ht'
 by_cases he:t'=t
 ·subst he
  rw[upd_same] at ht'
  injection ht' with ht'
  subst ht';refine⟨by simpa using Ht.len,Ht.cap,Ht.pos,Ht.fix,Ht.nil,fun _=>⟨ho,pre,post,?_,hp,by simpa using hl⟩⟩;rw[heap_setCell w _ _ v hb]
  congr 2
  rw[List.setIfInBounds_toArray,List.append_assoc,List.set_append_right _ _ (by omega),show (S.loc t').off+j - pre.length=j from by omega,List.set_append_left _ _ hj,List.append_assoc]
 ·rw[upd_other _ _ he] at ht'
  refine (H t' cs' ht').other rfl (fun _ _ h=>h) fun b _ hb'=>heap_setCell_ne w _ _ v ?_
  intro e;subst e;rw[ho] at hb'
  injection hb' with hb'
  exact he hb'.symm
theorem Kp.store (H:Holds M S w.heap c)(hc:c t=some cs){j:Nat}(hj:j<cs.length)(v:Value)(o:Nat):Evn S w S (w.setCell ⟨(S.loc t).b,o,none⟩ v):=by
 have Ht:=H t cs hc;obtain⟨ho,pre,post,hbl,_⟩:=Ht.blk (Ht.notNil hj);refine⟨⟨rfl,rfl,rfl,by simp,fun _ _=>Iff.rfl,fun b _ hb=>heap_setCell_ne w _ _ v ?_⟩,fun b es cl hb=>(heap_setCell_ne w _ _ v ?_).trans hb⟩
 ·intro e
  subst e;rw[ho] at hb
  cases hb
 ·intro e
  subst e;rw[hbl] at hb
  cases hb
theorem Holds.alloc (H:Holds M S w.heap c)(o:Obj):Holds M S (w.alloc o).heap c:=fun t cs ht=>
 (H t cs ht).other rfl (fun _ _ h=>h) fun b hb _=>heap_alloc_old w o b hb
theorem lt_of_some {b:Nat}{o:Obj}(hb:w.heap[b]?=some o):b<w.heap.size:=(Array.getElem?_eq_some_iff.1 hb).1
theorem Kp.alloc (S:Sto τ)(w:World)(o:Obj):Evn S w S (w.alloc o):=⟨⟨rfl,rfl,rfl,by simp,fun _ _=>Iff.rfl,fun b hb _=>heap_alloc_old w o b hb⟩,fun b _ _ hb=>(heap_alloc_old w o b (lt_of_some hb)).trans hb⟩
open Classical in
/-- A new owner for a block; a new place for a thing. -/
noncomputable def Sto.put (S:Sto τ) (t:τ) (s:SL):Sto τ:={own:=fun b=>if b=s.b∧s.nil=false then some t else S.own b,loc:=fun t'=>if t'=t then s else S.loc t'}
theorem Sto.put_loc (S:Sto τ)(t:τ)(s:SL):(S.put t s).loc t=s:=by simp[Sto.put]
theorem Sto.put_loc_ne (S:Sto τ){t t':τ}(s:SL)(h:t'≠t):(S.put t s).loc t'=S.loc t':=by simp[Sto.put,h]
theorem Sto.put_own (S:Sto τ)(t:τ)(s:SL){b:Nat}(h:b≠s.b):(S.put t s).own b=S.own b:=by simp[Sto.put,h]
theorem Holds.made (H:Holds M S w.heap c)(t:τ)(cs:List Value)(n:Nat)(hn:cs.length=n*M.sz t)(hcap:n≤9223372036854775807)(hpos:0<M.sz t):
  Holds M (S.put t ⟨w.heap.size,0,n,false,.none⟩) (w.alloc (.cells cs.toArray (M.ty t))).heap (upd c t cs):=by
 intro t' cs' ht'
 by_cases he:t'=t
 ·subst he
  rw[upd_same] at ht'
  injection ht' with ht'
  subst ht';refine⟨⟨n,hn,by simp[Sto.put_loc]⟩,by simpa [Sto.put_loc] using hcap,hpos,fun _=>by simp[Sto.put_loc],fun h=>by simp[Sto.put_loc] at h,fun _=>?_⟩;rw[Sto.put_loc];refine⟨by simp[Sto.put],[],[],?_,rfl,by simp[hn]⟩;simp only[List.nil_append,List.append_nil];exact heap_alloc_new w _
 ·rw[upd_other _ _ he] at ht'
  exact (H t' cs' ht').other (Sto.put_loc_ne S _ he) (fun b hb h=>by rw[Sto.put_own S t _ (Nat.ne_of_lt hb)];exact h) fun b hb _=>heap_alloc_old w _ b hb
theorem Kp.made (S:Sto τ)(w:World)(t:τ)(o:Obj)(n off:Nat):Evn S w (S.put t ⟨w.heap.size,off,n,false,none⟩) (w.alloc o):=
 ⟨⟨rfl,rfl,rfl,by simp,fun b hb=>by rw[Sto.put_own S t _ (Nat.ne_of_lt hb)],fun b hb _=>heap_alloc_old w o b hb⟩,fun b _ _ hb=>(heap_alloc_old w o b (lt_of_some hb)).trans hb⟩
theorem Holds.nilled (H:Holds M S h c)(t:τ)(hpos:0<M.sz t)(hfix:M.fix t=false):Holds M (S.put t SL.none) h (upd c t []):=by
 intro t' cs' ht'
 by_cases he:t'=t
 ·subst he
  rw[upd_same] at ht'
  injection ht' with ht'
  subst ht';exact⟨⟨0,by simp,Nat.zero_le _⟩,by simp[Sto.put_loc,SL.none],hpos,fun h=>(by rw[hfix] at h;cases h),fun _=>by simp[Sto.put_loc,SL.none],fun h=>by simp[Sto.put_loc,SL.none] at h⟩
 ·rw[upd_other _ _ he] at ht'
  exact (H t' cs' ht').other (Sto.put_loc_ne S _ he) (fun b _ h=>by simp[Sto.put,SL.none,h]) fun b _ _=>rfl
theorem Kp.nilled (S:Sto τ)(w:World)(t:τ):Evn S w (S.put t SL.none) w:=⟨⟨rfl,rfl,rfl,Nat.le_refl _,fun b _=>by simp[Sto.put,SL.none],fun _ _ _=>rfl⟩,fun _ _ _ h=>h⟩
theorem Holds.shorter (H:Holds M S h c)(hc:c t=some cs)(k:Nat):Holds M S h (upd c t (cs.take (k*M.sz t))):=by
 intro t' cs' ht'
 by_cases he:t'=t
 ·subst he
  rw[upd_same] at ht'
  injection ht' with ht'
  subst ht';have Ht:=H t' cs hc;obtain⟨n,hn,hnc⟩:=Ht.len;refine⟨⟨min k n,by rw[List.length_take,hn,←Nat.mul_min_mul_right],by omega⟩,Ht.cap,Ht.pos,Ht.fix,Ht.nil,fun h=>?_⟩;obtain⟨ho,pre,post,hb,hp,hl⟩:=Ht.blk h;refine⟨ho,pre,cs.drop (k*M.sz t')++post,?_,hp,?_⟩
  ·rw[hb]
   congr 3
   rw[List.append_assoc,List.append_assoc,←List.append_assoc (cs.take _),List.take_append_drop]
  ·rw[←List.append_assoc,List.take_append_drop]
   exact hl
 ·rw[upd_other _ _ he] at ht'
  exact H t' cs' ht'
open Classical in
/-- A later place in its own block. -/
noncomputable def Sto.move (S:Sto τ) (t:τ) (s:SL):Sto τ:={own:=S.own,loc:=fun t'=>if t'=t then s else S.loc t'}
theorem Sto.move_loc (S:Sto τ)(t:τ)(s:SL):(S.move t s).loc t=s:=by simp[Sto.move]
theorem Sto.move_loc_ne (S:Sto τ){t t':τ}(s:SL)(h:t'≠t):(S.move t s).loc t'=S.loc t':=by simp[Sto.move,h]
def SL.later (s:SL)(k size:Nat):SL:=if s.cap=k then {s with cap:=0} else ⟨s.b,s.off+k*size,s.cap - k,s.nil,s.wrd⟩
theorem Holds.later (H:Holds M S h c)(hc:c t=some cs)(k:Nat)(hk:k*M.sz t≤cs.length)(hfix:M.fix t=false):
  Holds M (S.move t ((S.loc t).later k (M.sz t))) h (upd c t (cs.drop (k*M.sz t))):=by
 intro t' cs' ht'
 by_cases he:t'=t
 ·subst he
  rw[upd_same] at ht'
  injection ht' with ht'
  subst ht';have Ht:=H t' cs hc;obtain⟨n,hn,hnc⟩:=Ht.len
  have hkn:k≤n:=by
   rw[hn] at hk;exact Nat.le_of_mul_le_mul_right hk Ht.pos
  have hlen:(cs.drop (k*M.sz t')).length=(n - k)*M.sz t':=by rw[List.length_drop,hn,Nat.sub_mul]
  by_cases hcap:(S.loc t').cap=k
  ·have hnk:n - k=0:=by omega
   have hd:cs.drop (k*M.sz t')=[]:=List.eq_nil_of_length_eq_zero (by rw[hlen,hnk,Nat.zero_mul]);refine⟨⟨0,by rw[hd];simp,Nat.zero_le _⟩,by rw[Sto.move_loc];simp[SL.later,hcap],Ht.pos,fun h=>(by rw[hfix] at h;cases h),fun h=>by rw[Sto.move_loc] at h ⊢;simp only[SL.later,hcap,if_true] at h ⊢;exact⟨trivial,(Ht.nil h).2⟩,fun h=>?_⟩;rw[Sto.move_loc] at h ⊢;simp only[SL.later,hcap,if_true] at h ⊢;obtain⟨ho,pre,post,hb,hp,hl⟩:=Ht.blk h;exact⟨ho,pre,cs++post,by rw[hd,List.append_nil,←List.append_assoc];exact hb,hp,by simp⟩
  ·have hloc:(S.loc t').later k (M.sz t')=⟨(S.loc t').b,(S.loc t').off+k*M.sz t',(S.loc t').cap - k,(S.loc t').nil,(S.loc t').wrd⟩:=by simp[SL.later,hcap]
   refine⟨⟨n - k,hlen,by rw[Sto.move_loc,hloc];show n - k≤(S.loc t').cap - k;omega⟩,by rw[Sto.move_loc,hloc];have:=Ht.cap;show (S.loc t').cap - k≤_;omega,Ht.pos,fun h=>(by rw[hfix] at h;cases h),fun h=>?_,fun h=>?_⟩
   ·rw[Sto.move_loc,hloc] at h ⊢
    have:=Ht.nil h
    show (S.loc t').cap - k=0∧(S.loc t').wrd=none
    exact⟨by omega,this.2⟩
   ·rw[Sto.move_loc,hloc] at h ⊢
    obtain⟨ho,pre,post,hb,hp,hl⟩:=Ht.blk h;refine⟨ho,pre++cs.take (k*M.sz t'),post,?_,?_,?_⟩
    ·rw[List.append_assoc pre,List.take_append_drop]
     exact hb
    ·rw[List.length_append,hp,List.length_take,Nat.min_eq_left hk]
    ·show ((S.loc t').cap - k)*M.sz t'≤_
     rw[List.length_append] at hl ⊢;rw[hlen,Nat.sub_mul,Nat.sub_mul];rw[hn] at hl hk;omega
 ·rw[upd_other _ _ he] at ht'
  exact (H t' cs' ht').other (Sto.move_loc_ne S _ he) (fun _ _ h=>h) fun _ _ _=>rfl
set_option linter.unusedVariables false in
theorem Kp.move (S:Sto τ) (w:World) (t:τ) (s:SL):Evn S w (S.move t s) w:=⟨⟨rfl,rfl,rfl,Nat.le_refl _,fun _ _=>Iff.rfl,fun _ _ _=>rfl⟩,fun _ _ _ h=>h⟩
theorem HoldsAt.addr (_:HoldsAt M S h t cs)(hn:(S.loc t).nil=false):(S.loc t).addr=some ⟨(S.loc t).b,(S.loc t).off,none⟩:=by simp[SL.addr,hn]
theorem Holds.append {P:Program}(H:Holds M S w.heap c)(hc:c t=some cs)(hfix:M.fix t=false)(tt ty:TypeId)(i:TypeInfo)(z:Value)(ht:P.underlying tt=some (.slice (M.ty t)))(hi:P.info? (M.ty t)=some i)(hz:i.zero=some z)(hsize:i.size=M.sz t)(hzs:z.cells.size=M.sz t)(n:Nat)(hn:cs.length=n*M.sz t)(ad:Addr)(m mc:Nat)(news:List Value)(hl:news.length=m*M.sz t)(hnews:∀j u,news[j]?=some u→w.cell? (ad.add j)=some u)(h1:∀u∈news,u.oneCell'=true)(hbytes:(n+m)*i.bytes≤140737488355328)(h63:n+m≤9223372036854775807):
  ∃S' w',(Builtin.append_ #[tt,tt] ty #[S.sv t n,.slice (some ad) m mc]).run P w=.ok (S'.sv t (n+m)) w'∧Holds M S' w'.heap (upd c t (cs++news))∧Evn S w S' w'∧(∀t',t'≠t→S'.loc t'=S.loc t')∧(Fresh S w→Fresh S' w')∧(∀b,b<w.heap.size→((S.loc t).nil=true∨b≠(S.loc t).b)→w'.heap[b]?=w.heap[b]?)∧∀b,b<w.heap.size→S'.own b=S.own b:=by
 have Ht:=H t cs hc;have hpos:=Ht.pos;obtain⟨n',hn',hnc⟩:=Ht.len;have hnn:n'=n:=Nat.eq_of_mul_eq_mul_right hpos (by rw[←hn',←hn]);subst hnn
 -- a new block
 have grown:∀old:Nat,old<n'+m→
   Holds M (S.put t ⟨w.heap.size,0,grownCap w (n'+m) old (M.ty t),false,none⟩) (w.drew.alloc (.cells (cs.toArray++news.toArray++Builtin.zeroCells z.cells (grownCap w (n'+m) old (M.ty t) - (n'+m))) (M.ty t))).heap (upd c t (cs++news))∧
   Evn S w (S.put t ⟨w.heap.size,0,grownCap w (n'+m) old (M.ty t),false,none⟩) (w.drew.alloc (.cells (cs.toArray++news.toArray++Builtin.zeroCells z.cells (grownCap w (n'+m) old (M.ty t) - (n'+m))) (M.ty t))):=by
  intro old _;have hge:=grownCap_ge w (n'+m) old (M.ty t)
  have hcm:grownCap w (n'+m) old (M.ty t)≤9223372036854775807:=by
   have:=grownCap_le_maxLen w (n'+m) old (M.ty t) (by simp only[maxLen];omega)
   simpa [maxLen] using this
  generalize grownCap w (n'+m) old (M.ty t)=g at hge hcm;refine⟨?_,⟨rfl,rfl,rfl,by simp,fun b hb=>by rw[Sto.put_own S t _ (Nat.ne_of_lt hb)],fun b hb _=>heap_alloc_old w.drew _ b hb⟩,fun b _ _ hb=>(heap_alloc_old w.drew _ b (lt_of_some hb)).trans hb⟩;intro t' cs' ht'
  by_cases he:t'=t
  ·subst he
   rw[upd_same] at ht'
   injection ht' with ht'
   subst ht';refine⟨⟨n'+m,by rw[List.length_append,hn',hl,Nat.add_mul],by rw[Sto.put_loc];exact hge⟩,by rw[Sto.put_loc];exact hcm,hpos,fun h=>(by rw[hfix] at h;cases h),fun h=>by simp[Sto.put_loc] at h,fun _=>?_⟩;rw[Sto.put_loc];refine⟨by simp[Sto.put],[],(Builtin.zeroCells z.cells (g - (n'+m))).toList,?_,rfl,?_⟩
   ·have:=heap_alloc_new w.drew (.cells (cs.toArray++news.toArray++Builtin.zeroCells z.cells (g - (n'+m))) (M.ty t'))
    rw[World.size_drew] at this;rw[this]
    congr 2
    apply Array.toList_inj.1
    simp
   ·show g*M.sz t'≤_
    rw[List.length_append,List.length_append,hn',hl,Array.length_toList,size_zeroCells,hzs,←Nat.add_mul,←Nat.add_mul];exact Nat.mul_le_mul_right _ (by omega)
  ·rw[upd_other _ _ he] at ht'
   exact (H t' cs' ht').other (Sto.put_loc_ne S _ he) (fun b hb h=>by rw[Sto.put_own S t _ (Nat.ne_of_lt hb)];exact h) fun b hb _=>heap_alloc_old w.drew _ b hb
 by_cases hnil:(S.loc t).nil=true
 ·obtain⟨hcap,hwrd⟩:=Ht.nil hnil
  have hn0:n'=0:=by omega
  subst hn0;have hcs:cs=[]:=List.eq_nil_of_length_eq_zero (by simpa using hn)
  have hv:S.sv t 0=.slice none 0 0:=by simp[Sto.sv,SL.val,SL.addr,hnil,hcap,hwrd]
  by_cases hm:m=0
  ·subst hm
   have hne:news=[]:=List.eq_nil_of_length_eq_zero (by simpa using hl);refine⟨S,w,?_,?_,Evn.refl S w,fun _ _=>rfl,fun h=>h,fun _ _ _=>rfl,fun _ _=>rfl⟩
   ·rw[hv]
    simp[Builtin.append_,run_underlying ht,sizeOf,typeInfo,hi,Builtin.lenOf,Builtin.firstCells,loadCells,loadCellsFrom]
   ·rw[hcs,hne]
    refine H.congr fun t' cs' ht'=>?_
    by_cases he:t'=t
    ·subst he
     rw[upd_same] at ht';rw[hc,hcs];exact ht'
    ·rwa [upd_other _ _ he] at ht'
  ·have hr:=run_append_nil (P:=P) w tt ty (M.ty t) i z ht hi hz ad m mc news (by rw[hsize];exact hl) hnews (by omega) (by omega) (by simp only[Nat.zero_add] at hbytes;omega)
   have hgr:=grown 0 (by omega);rw[hcs] at hgr ⊢;simp only[Nat.zero_add,List.nil_append,Array.empty_append] at hgr ⊢;refine⟨_,_,?_,hgr.1,hgr.2,fun t' he=>Sto.put_loc_ne S _ he,fun hfr b hb=>(by simp at hb;rw[Sto.put_own S t _ (by simp;omega)];exact hfr b (by omega)),fun b hb _=>heap_alloc_old w.drew _ b hb,fun b hb=>Sto.put_own S t _ (Nat.ne_of_lt hb)⟩;rw[hv,hr];simp[Sto.sv,Sto.put_loc,SL.val,SL.addr]
 ·have hn2:(S.loc t).nil=false:=by simpa using hnil
  obtain⟨ho,pre,post,hb,hp,hpl⟩:=Ht.blk hn2
  have hv:S.sv t n'=.slice (some ⟨(S.loc t).b,(S.loc t).off,none⟩) n' (S.loc t).cap:=by simp[Sto.sv,SL.val,SL.addr,hn2]
  by_cases hroom:n'+m≤(S.loc t).cap
  ·have hpl':n'*M.sz t+m*M.sz t≤(cs++post).length:=by
    rw[←Nat.add_mul];exact Nat.le_trans (Nat.mul_le_mul_right _ hroom) hpl
   have hfit:(S.loc t).off+n'*M.sz t+0+news.length≤(pre++cs++post).toArray.size:=by
    simp only[List.size_toArray,List.length_append] at hpl' ⊢;omega
   have hf:=run_firstCells_some (P:=P) w (M.sz t) m ad m mc news hl hnews;have hst:=run_storeCells_at P (S.loc t).b ((S.loc t).off+n'*M.sz t) (M.ty t) news 0 _ w hb (by simpa using hfit) h1;simp only[Nat.add_zero] at hst;refine⟨S,w.setRow (S.loc t).b ((pre++cs++post).toArray.toList.take ((S.loc t).off+n'*M.sz t)++news++(pre++cs++post).toArray.toList.drop ((S.loc t).off+n'*M.sz t+news.length)).toArray,?_,?_,⟨⟨rfl,rfl,rfl,?_,fun _ _=>Iff.rfl,fun b _ hno=>?_⟩,fun b _ _ hbm=>(setRow_other w _ b _ ?_).trans hbm⟩,fun _ _=>rfl,fun hfr b hb=>hfr b (by simpa [World.setRow] using hb),fun b _ hor=>setRow_other w _ b _ (hor.resolve_left (by rw[hn2];simp)),fun _ _=>rfl⟩
   ·rw[hv]
    simp[Builtin.append_,run_underlying ht,sizeOf,typeInfo,hi,Builtin.lenOf,hroom,hf,Addr.add_lit,hsize];simp[hst,Sto.sv,SL.val,SL.addr,hn2]
   ·intro t' cs' ht'
    by_cases he:t'=t
    ·subst he
     rw[upd_same] at ht'
     injection ht' with ht'
     subst ht';refine⟨⟨n'+m,by rw[List.length_append,hn',hl,Nat.add_mul],hroom⟩,Ht.cap,hpos,Ht.fix,Ht.nil,fun _=>⟨ho,pre,post.drop news.length,?_,hp,?_⟩⟩
     ·rw[setRow_heap w _ _ _ _ _ hb]
      have hlen:pre.length+cs.length=(S.loc t').off+n'*M.sz t':=by rw[hp,hn']
      congr 3
      rw[←hlen]
      have e1:(pre++cs++post).take (pre.length+cs.length)=pre++cs:=by rw[←List.length_append];exact List.take_left
      have e2:(pre++cs++post).drop (pre.length+cs.length+news.length)=post.drop news.length:=by
       rw[←List.length_append,List.drop_append]
       simp
      rw[e1,e2]
      simp
     ·rw[List.length_append,List.length_append] at*
      rw[List.length_drop];omega
    ·rw[upd_other _ _ he] at ht'
     refine (H t' cs' ht').other rfl (fun _ _ h=>h) fun b _ hb'=>setRow_other w _ b _ ?_
     intro e;subst e;rw[ho] at hb'
     injection hb' with hb'
     exact he hb'.symm
   ·simp[World.setRow]
   ·refine setRow_other w _ b _ ?_
    intro e;subst e;rw[ho] at hno
    cases hno
   ·intro e
    subst e;rw[hb] at hbm
    cases hbm
  ·have holds:∀j u,cs[j]?=some u→w.cell? ((⟨(S.loc t).b,(S.loc t).off,none⟩:Addr).add j)=some u:=fun j u hu=>by
    rw[Addr.add_lit];exact Ht.cell hu rfl
   have hr:=run_append_grow (P:=P) w tt ty (M.ty t) i z ht hi hz ⟨(S.loc t).b,(S.loc t).off,none⟩ n' (S.loc t).cap cs (by rw[hsize];exact hn') holds ad m mc news (by rw[hsize];exact hl) hnews (by omega) (by omega) (growslice_fits (by omega) hbytes);have hgr:=grown (S.loc t).cap (by omega);refine⟨_,_,?_,hgr.1,hgr.2,fun t' he=>Sto.put_loc_ne S _ he,fun hfr b hb=>(by simp at hb;rw[Sto.put_own S t _ (by simp;omega)];exact hfr b (by omega)),fun b hb _=>heap_alloc_old w.drew _ b hb,fun b hb=>Sto.put_own S t _ (Nat.ne_of_lt hb)⟩;rw[hv,hr];simp[Sto.sv,Sto.put_loc,SL.val,SL.addr]
end
end Go.Beat
end
