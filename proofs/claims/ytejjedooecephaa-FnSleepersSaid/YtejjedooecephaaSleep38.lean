/-
  Texts joined by a program (shake.py), without what the claim does not use; printed walks among them (print.sh), and own ones.
-/
import Derived.Test.YtejjedooecephaaSleep3
import Derived.Test.YtejjedooecephaaSleep4
import Derived.Test.YtejjedooecephaaSleep13
import Derived.Test.YtejjedooecephaaSleep23
import Derived.Test.YtejjedooecephaaSleep24
import Derived.Test.YtejjedooecephaaSleep37
section
namespace Go.Beat
open Go _root_.Beat Go.Proofs
def slOf (A:Option Addr)(c:Nat):SL:=match A with
 |none=>⟨0,0,c,true,none⟩
 |some ad=>bif ad.spot.isNone then ⟨ad.block,ad.off,c,false,none⟩ else ⟨0,0,c,true,some ad⟩
theorem slOf_val (A:Option Addr)(c n:Nat):(slOf A c).val n=.slice A n c:=by
 unfold slOf SL.val SL.addr
 cases A with
 |none=>rfl
 |some ad=>
  obtain⟨b,o,s⟩:=ad
  cases s<;>rfl
structure RowAt (w:World) (A:Option Addr) (c:Nat) (n sz:Nat) (cs:List Value):Prop where
 len:cs.length=n*sz
 cap:n≤c
 at_:∀(j:Nat) (u:Value),cs[j]?=some u→∃ad,A=some ad∧w.cell? (ad.add j)=some u
theorem cell_spot {w:World}{a:Addr}{u:Value}(h:w.cell? a=some u):a.spot=none:=by
 unfold World.cell? at h
 split at h
 ·split at h
  ·cases h
  ·rename_i hs
   cases ha:a.spot with
   |none=>rfl
   |some x=>rw[ha] at hs;exact absurd rfl hs
 ·cases h
theorem RowAt.ro {w:World}{A:Option Addr}{c n sz:Nat}{cs:List (AL TI)}{S:Sto (Tg TI)}{t:TI}(hS:∀b,S.own b=none)(hl:S.loc (.m t)=slOf A c)(h:RowAt w A c n sz (cs.map (encL S))):RoAt S w t sz cs:=by
 have first:cs≠[]→∃ad,A=some ad∧ad.spot=none:=fun hne=>by
  obtain⟨a,r,rfl⟩:∃a r,cs=a::r:=by
   cases cs with
   |nil=>exact absurd rfl hne
   |cons a r=>exact⟨a,r,rfl⟩
  obtain⟨ad,h1,h2⟩:=h.at_ 0 (encL S a) rfl;refine⟨ad,h1,?_⟩;have:=cell_spot h2
  simpa [Addr.add] using this
 refine⟨fun j a ha=>?_,fun hne=>?_,?_⟩
 ·obtain⟨ad,h1,h2⟩:=h.at_ j (encL S a) (by rw[List.getElem?_map,ha];rfl)
  obtain⟨ad',h3,h4⟩:=first (by rintro rfl;cases ha);rw[h1] at h3
  cases h3
  have e:slOf A c=⟨ad.block,ad.off,c,false,none⟩:=by rw[h1];unfold slOf;simp only[h4];rfl
  rw[hl,e,←h2]
  congr 1
  unfold Addr.add
  split
  ·rename_i hj
   subst hj;obtain⟨b,o,s⟩:=ad
   simp only at h4
   subst h4;rfl
  ·rfl
 ·obtain⟨ad,h3,h4⟩:=first hne
  refine⟨hS _,?_⟩;rw[hl,h3];unfold slOf;simp only[h4];rfl
 ·have e:(slOf A c).cap=c:=by
   unfold slOf
   cases A with
   |none=>rfl
   |some ad=>
    obtain⟨b,o,s⟩:=ad
    cases s<;>rfl
  have:=h.len;rw[List.length_map] at this;rw[hl,e,this];exact Nat.mul_le_mul_right _ h.cap
def stoPI (A0:Option Addr)(c0:Nat)(A1:Option Addr)(c1:Nat)(A2:Option Addr)(c2:Nat)(B:Nat→Option Addr×Nat):Sto (Tg TI) where
 own _:=none
 loc
  |.m .bodies=>slOf A0 c0
  |.m .rooms=>slOf A1 c1
  |.m .feed=>slOf A2 c2
  |.m (.steps b)=>slOf (B b).1 (B b).2
  |_=>SL.none
section
variable {w:World} {A0 A1 A2:Option Addr} {c0 c1 c2:Nat} {B:Nat→Option Addr×Nat} {p:_root_.Beat.Plan} {inp:_root_.Beat.Input}
theorem enc_planV:encT (stoPI A0 c0 A1 c1 A2 c2 B) (plnV p.bodies.length p.rooms.length p.slice)=.agg #[.slice A0 p.bodies.length c0,.slice A1 p.rooms.length c1,.int .i64 p.slice]:=by
 simp only[encT,List.map_cons,List.map_nil,encL,later_zero]
 show Value.agg #[(slOf A0 c0).val _,(slOf A1 c1).val _,_]=_
 rw[slOf_val,slOf_val]
theorem enc_inpV:encT (stoPI A0 c0 A1 c1 A2 c2 B) (inpV inp.feed.length inp.ticks inp.until_)=.agg #[.slice A2 inp.feed.length c2,.int .i64 inp.ticks,.int .i64 inp.until_]:=by
 simp only[encT,List.map_cons,List.map_nil,encL,later_zero]
 show Value.agg #[(slOf A2 c2).val _,_,_]=_
 rw[slOf_val]
structure Lies (w:World) (A0:Option Addr) (c0:Nat) (A1:Option Addr) (c1:Nat) (A2:Option Addr) (c2:Nat) (B:Nat→Option Addr×Nat) (p:_root_.Beat.Plan) (inp:_root_.Beat.Input):Prop where
 bodies:RowAt w A0 c0 p.bodies.length 1 (p.bodies.zipIdx.map fun q=>.slice (B q.2).1 q.1.length (B q.2).2)
 steps:∀b l,p.bodies[b]?=some l→RowAt w (B b).1 (B b).2 l.length 5 (l.flatMap fun s=>(stepRow s).map (Value.int .i64))
 rooms:RowAt w A1 c1 p.rooms.length 1 (p.rooms.map (Value.int .i64))
 feed:RowAt w A2 c2 inp.feed.length 3 (inp.feed.flatMap fun e=>(eventRow e).map (Value.int .i64))
theorem rows_enc {α:Type}(S:Sto (Tg TI))(ks:List IntKind)(row:α→List Int)(l:List α)(h:∀a,(rowCells ks (row a):List (AL TI)).map (encL S)=(row a).map (Value.int .i64)):(LO.rows ks (l.map row):LO TI).flat.map (encL S)=l.flatMap fun a=>(row a).map (Value.int .i64):=by
 simp only[LO.flat,List.map_flatMap,List.flatMap_map]
 congr 1
 funext a
 exact h a
theorem Lies.ro (h:Lies w A0 c0 A1 c1 A2 c2 B p inp)(t:TI)(cs:List (AL TI))(ht:roI (mNew p inp none) t=some cs):RoAt (stoPI A0 c0 A1 c1 A2 c2 B) w t ((MI YM).sz t) cs:=by
 cases t<;>simp only[roI,mNew,Option.some.injEq,Option.map_eq_some_iff,reduceCtorEq] at ht
 case bodies=>
  subst ht
  refine RowAt.ro (A:=A0) (c:=c0) (n:=p.bodies.length) (fun _=>rfl) rfl ?_
  have e:List.map (encL (stoPI A0 c0 A1 c1 A2 c2 B)) (List.map (fun q=>AL.sl (.m (TI.steps q.2)) 0 5 q.1.length) p.bodies.zipIdx)=p.bodies.zipIdx.map fun q=>Value.slice (B q.2).1 q.1.length (B q.2).2:=by
   rw[List.map_map]
   congr 1
   funext q
   show ((slOf (B q.2).1 (B q.2).2).later 0 5).val _=_
   rw[later_zero,slOf_val]
  rw[e];exact h.bodies
 case steps b=>
  obtain⟨l,hl,rfl⟩:=ht
  refine RowAt.ro (A:=(B b).1) (c:=(B b).2) (n:=l.length) (fun _=>rfl) rfl ?_
  rw[rows_enc _ k5 stepRow l (fun s=>rfl)];exact h.steps b l hl
 case rooms=>
  subst ht
  refine RowAt.ro (A:=A1) (c:=c1) (n:=p.rooms.length) (fun _=>rfl) rfl ?_
  have e:(LO.ints .i64 p.rooms:LO TI).flat.map (encL (stoPI A0 c0 A1 c1 A2 c2 B))=p.rooms.map (Value.int .i64):=by
   simp only[LO.flat,List.map_map];rfl
  rw[e];exact h.rooms
 case feed=>
  subst ht
  refine RowAt.ro (A:=A2) (c:=c2) (n:=inp.feed.length) (fun _=>rfl) rfl ?_
  rw[rows_enc _ k3 eventRow inp.feed (fun s=>rfl)];exact h.feed
 case arg=>
  subst ht;exact⟨fun j a ha=>by simp[natsL,LO.flat] at ha,fun hne=>absurd rfl hne,by simp[natsL,LO.flat]⟩
theorem pi_nil (t:TI)(ht:(mdI (GM 0 .nilFunc none)).isro t=false):(stoPI A0 c0 A1 c1 A2 c2 B).loc (.m t)=SL.none:=by
 cases t<;>first|rfl|cases ht
end
theorem made_row {wb:Nat}{Bs:Base (DM wb .nilFunc none)}{m:IM}{L:List (LObj TI)}{S0 S:Sto (Tg TI)}{w w':World}(hown:∀b,S0.own b=none)(R:Rel Bs m L [] S w')(k:Kp S0 w S w'){t:Tg TI}{cs:List (AL TI)}(hc:contA (D:=DM wb .nilFunc none) m [] L t=some cs){n:Nat}(hn:cs.length=n*(metaA (DM wb .nilFunc none) L).sz t):
  (∀b,((S.loc t).val n).ownBlock=some b→w.heap.size≤b∧b<w'.heap.size∧∃cells,w'.heap[b]?=some (.cells cells ((metaA (DM wb .nilFunc none) L).ty t) (0,0)))∧
   RowAt w' (S.loc t).addr (S.loc t).cap n ((metaA (DM wb .nilFunc none) L).sz t) (cs.map (encL S)):=by
 have H:=R.H t (cs.map (encL S)) (by simp only[encC,hc];rfl);obtain⟨q,hq1,hq2⟩:=H.len;rw[List.length_map,hn] at hq1;have hqn:n=q:=Nat.eq_of_mul_eq_mul_right H.pos hq1;subst hqn;refine⟨fun b hb=>?_,⟨by rw[List.length_map];exact hn,hq2,fun j u hu=>?_⟩⟩
 ·cases hnil:(S.loc t).nil with
  |true=>
   have:=(H.nil hnil).2;simp only[SL.val,SL.addr,hnil,this,if_true] at hb
   cases hb
  |false=>
   simp only[SL.val,SL.addr,hnil,Bool.false_eq_true,if_false,Value.ownBlock,Option.some.injEq] at hb;subst hb;obtain⟨ho,pre,post,h1,_⟩:=H.blk hnil;have hlt:=(Array.getElem?_eq_some_iff.1 h1).1;refine⟨?_,hlt,_,h1⟩
   by_cases hlo:(S.loc t).b<w.heap.size
   ·have:=(k.own _ hlo).2 (hown _)
    rw[ho] at this
    cases this
   ·omega
 ·have hj:j<(cs.map (encL S)).length:=(List.getElem?_eq_some_iff.1 hu).1
  have hnil:=H.notNil hj;refine⟨_,H.addr hnil,?_⟩;obtain⟨ho,pre,post,h1,h2,_⟩:=H.blk hnil;unfold World.cell?
  have e:(Addr.add ⟨(S.loc t).b,(S.loc t).off,none⟩ j)=⟨(S.loc t).b,(S.loc t).off+j,none⟩:=by
   unfold Addr.add
   split
   ·rename_i h;subst h;rfl
   ·rfl
  rw[e];simp only[h1,Option.isSome_none,Bool.false_eq_true,if_false];rw[List.getElem?_toArray,List.append_assoc,List.getElem?_append_right (by omega),←h2,show pre.length+j - pre.length=j from by omega,List.getElem?_append_left hj];exact hu
theorem below_kp {S0 S:Sto (Tg TI)}{w w':World}(hown:∀b,S0.own b=none)(k:Kp S0 w S w'):RowKit.Below w.heap.size w w':=⟨k.os,k.tape,k.output,k.size,fun b hb=>k.keep b hb (hown b)⟩
end Go.Beat
end
section
namespace Go.Beat
open Go _root_.Beat Go.Proofs Go.Proofs.YtejjedooecephaaW.PrintWords
theorem flat_at {α β:Type}{cells:α→List β}{sz:Nat}:∀{xs:List α} {j:Nat} {u:β},(∀x∈xs,(cells x).length=sz)→(xs.flatMap cells)[j]?=some u→∃q i x,j=q*sz+i∧xs[q]?=some x∧(cells x)[i]?=some u
 |[],j,u,_,h=>by simp at h
 |x::xs,j,u,hl,h=>by
  rw[List.flatMap_cons] at h;have hx:=hl x List.mem_cons_self
  by_cases hj:j<sz
  ·rw[List.getElem?_append_left (by omega)] at h
   exact⟨0,j,x,by omega,rfl,h⟩
  ·rw[List.getElem?_append_right (by omega)] at h
   obtain⟨q,i,y,h1,h2,h3⟩:=flat_at (fun y hy=>hl y (List.mem_cons_of_mem _ hy)) h;refine⟨q+1,i,y,?_,by simpa using h2,h3⟩;rw[Nat.add_mul];omega
theorem flat_in {α β:Type}{cells:α→List β}{sz:Nat}:∀{xs:List α} {q i:Nat} {x:α} {u:β},(∀x∈xs,(cells x).length=sz)→xs[q]?=some x→(cells x)[i]?=some u→(xs.flatMap cells)[q*sz+i]?=some u
 |[],q,i,x,u,_,h,_=>by simp at h
 |y::xs,0,i,x,u,hl,h,hi=>by
  simp only[List.getElem?_cons_zero,Option.some.injEq] at h;subst h;rw[List.flatMap_cons,Nat.zero_mul,Nat.zero_add,List.getElem?_append_left (List.getElem?_eq_some_iff.1 hi).1];exact hi
 |y::xs,q+1,i,x,u,hl,h,hi=>by
  have hy:=hl y List.mem_cons_self;rw[List.flatMap_cons,List.getElem?_append_right (by rw[hy,Nat.add_mul];omega),hy,show (q+1)*sz+i - sz=q*sz+i from by rw[Nat.add_mul];omega];exact flat_in (fun y hy=>hl y (List.mem_cons_of_mem _ hy)) (by simpa using h) hi
theorem flat_len {α β:Type}{cells:α→List β}{sz:Nat}:∀{xs:List α},(∀x∈xs,(cells x).length=sz)→(xs.flatMap cells).length=xs.length*sz
 |[],_=>by simp
 |x::xs,hl=>by
  rw[List.flatMap_cons,List.length_append,flat_len (fun y hy=>hl y (List.mem_cons_of_mem _ hy)),hl x List.mem_cons_self,List.length_cons,Nat.add_mul];omega
theorem rowAt_C {α:Type}{d:Kd α}{w:World}{A:Option Addr}{n c:Nat}{xs:List α}(cells:α→List Value)(hK:∀x cs,d.K w x cs→cs=cells x)(h:d.C w A n xs)(hc:n≤c):RowAt w A c n d.sz (xs.flatMap cells):=by
 obtain⟨h1,h2,h3⟩:=h
 have hl:∀x∈xs,(cells x).length=d.sz:=fun x hx=>by
  obtain⟨q,hq⟩:=List.getElem?_of_mem hx;obtain⟨ad,_,h4⟩:=h3 (by have:=(List.getElem?_eq_some_iff.1 hq).1;omega);obtain⟨cs,g1,g2,_⟩:=h4 q x hq;rw[←hK x cs g2];exact g1
 refine⟨by rw[flat_len hl,h1],hc,fun j u hu=>?_⟩;obtain⟨q,i,x,rfl,hx,hi⟩:=flat_at hl hu;obtain⟨ad,hA,h4⟩:=h3 (by have:=(List.getElem?_eq_some_iff.1 hx).1;omega);obtain⟨cs,g1,g2,g3⟩:=h4 q x hx;rw[←hK x cs g2] at hi;exact⟨ad,hA,g3 i u hi⟩
theorem rowZ {α:Type}{d:Kd α}{e:Nat}{w:World}{base:Nat}{A:Option Addr}{c:Nat}{xs:List α}(cells:α→List Value)(hlen:∀x,(cells x).length=d.sz)(hK:∀w x,d.K w x (cells x))(hr:RowAt w A c xs.length d.sz (xs.flatMap cells))(hc:c≤9223372036854775807)(hpos:0<d.sz)(hb:∀b,(Value.slice A xs.length c).ownBlock=some b→base≤b∧b<w.heap.size∧∃cells,w.heap[b]?=some (.cells cells e (0,0))):d.Z e w base (fun _=>True) (.slice A xs.length c) xs:=by
 refine⟨fun k hk=>⟨trivial,hb k hk⟩,A,c,rfl,hr.cap,fun w1 hw=>⟨rfl,Nat.le_trans hr.cap hc,fun hp=>?_⟩⟩
 have cellOf:∀(q i:Nat) (x:α) (u:Value),xs[q]?=some x→(cells x)[i]?=some u→∃ad,A=some ad∧w1.cell? (ad.add (q*d.sz+i))=some u:=fun q i x u hx hi=>by
  obtain⟨ad,hA,h1⟩:=hr.at_ _ u (flat_in (fun x _=>hlen x) hx hi);refine⟨ad,hA,?_⟩;have hb:=hw ad.block (by rw[hA];rfl);unfold World.cell? at h1 ⊢;rw[Kd.addr_add_block] at h1 ⊢;rw[hb];exact h1
 obtain⟨x0,r,rfl⟩:∃x0 r,xs=x0::r:=by
  cases xs with
  |nil=>exact absurd hp (Nat.lt_irrefl 0)
  |cons a b=>exact⟨a,b,rfl⟩
 obtain⟨u0,hu0⟩:∃u0,(cells x0)[0]?=some u0:=⟨_,List.getElem?_eq_getElem (by rw[hlen];exact hpos)⟩;obtain⟨ad,hA,_⟩:=cellOf 0 0 x0 u0 rfl hu0;refine⟨ad,hA,fun j p hj=>⟨cells p,hlen p,hK w1 p,fun i u hi=>?_⟩⟩;obtain⟨ad',hA',h2⟩:=cellOf j i p u hj hi;rw[hA] at hA'
 cases hA'
 exact h2
theorem made_Z {wb:Nat}{Bs:Base (DM wb .nilFunc none)}{m:IM}{L:List (LObj TI)}{S0 S:Sto (Tg TI)}{w w':World}(hown:∀b,S0.own b=none)(R:Rel Bs m L [] S w')(k:Kp S0 w S w'){t:Tg TI}{cs:List (AL TI)}(hc:contA (D:=DM wb .nilFunc none) m [] L t=some cs){α:Type}{d:Kd α}{xs:List α}(cells:α→List Value)(hlen:∀x,(cells x).length=d.sz)(hK:∀w x,d.K w x (cells x))(hpos:0<d.sz)(hsz:(metaA (DM wb .nilFunc none) L).sz t=d.sz)(hcs:cs.map (encL S)=xs.flatMap cells):d.Z ((metaA (DM wb .nilFunc none) L).ty t) w' w.heap.size (fun _=>True) ((S.loc t).val xs.length) xs:=by
 have hn:cs.length=xs.length*(metaA (DM wb .nilFunc none) L).sz t:=by
  have:=congrArg List.length hcs;rw[List.length_map,flat_len (fun x _=>hlen x)] at this;rw[hsz,this]
 obtain⟨h1,h2⟩:=made_row hown R k hc hn;have H:=R.H t (cs.map (encL S)) (by simp only[encC,hc];rfl);rw[hsz,hcs] at h2;exact rowZ cells hlen hK h2 H.cap hpos h1
end Go.Beat
end
section
namespace Go.Proofs.Ytejjedooecephaa.PFnSleepers
open Go Go.RowKit Go.Proofs.YtejjedooecephaaW.PrintWords Go.Proofs.YtejjedooecephaaW.PrintLast Go.Proofs.YtejjedooecephaaW.PrintMore Go.Beat
set_option linter.unusedVariables false
def stp_ (s:S100):_root_.Beat.Step:=⟨s.f0,s.f1,s.f2,s.f3,s.f4⟩
def plan_ (l0:List S98)(l1:List Int)(a:Int):_root_.Beat.Plan:=⟨l0.map fun b=>b.f0.map stp_,l1,a⟩
def evt_ (e:S74):_root_.Beat.Event:=⟨e.f0,e.f1,e.f2⟩
def inp_ (l:List S74)(a b:Int):_root_.Beat.Input:=⟨l.map evt_,a,b⟩
theorem lies_ {w:World}{A0 A1 A2:Option Addr}{c0 c1 c2:Nat}{l0:List S98}{l1:List Int}{l2:List S74}(a t u:Int)(h0:Kd.C k98 w A0 l0.length l0)(g0:l0.length≤c0)(h1:Kd.C (Kd.int .i64) w A1 l1.length l1)(g1:l1.length≤c1)(h2:Kd.C k74 w A2 l2.length l2)(g2:l2.length≤c2):
  ∃B,Lies w A0 c0 A1 c1 A2 c2 B (plan_ l0 l1 a) (inp_ l2 t u):=by
 have key:∀b:Nat,∃q:Option Addr×Nat,∀x,l0[b]?=some x→(∃ad,A0=some ad∧w.cell? (ad.add b)=some (.slice q.1 x.f0.length q.2))∧x.f0.length≤q.2∧Kd.C k100 w q.1 x.f0.length x.f0:=by
  intro b
  cases hb:l0[b]? with
  |none=>exact⟨(none,0),fun x hx=>by cases hx⟩
  |some x=>
   have hlt:=(List.getElem?_eq_some_iff.1 hb).1;obtain⟨ad,A,c,hA,hcell,hl,hC⟩:=at_T98 h0 (b:Int) (by omega) (by omega)
   have e:rd_T98 l0 (b:Int)=x:=by
    unfold rd_T98;rw[List.getD_eq_getElem?_getD,Int.toNat_natCast,hb];rfl
   rw[e] at hcell hl hC;exact⟨(A,c),fun y hy=>by cases hy;exact⟨⟨ad,hA,by simpa using hcell⟩,hl,hC⟩⟩
 obtain⟨B,hB⟩:=Classical.axiomOfChoice key;refine⟨B,⟨by simp[plan_],by simpa [plan_] using g0,fun j v hj=>?_⟩,fun b l hl=>?_,?_,?_⟩
 ·simp only[plan_,List.getElem?_map,List.getElem?_zipIdx,Option.map_map,Option.map_eq_some_iff,Function.comp] at hj
  obtain⟨x,hx,rfl⟩:=hj;obtain⟨⟨ad,h3,h4⟩,_⟩:=hB j x hx;refine⟨ad,h3,?_⟩;rw[h4]
  simp
 ·simp only[plan_,List.getElem?_map,Option.map_eq_some_iff] at hl
  obtain⟨x,hx,rfl⟩:=hl;obtain⟨_,h3,h4⟩:=hB b x hx;have h5:=rowAt_C (fun s:S100=>(stepRow (stp_ s)).map (Value.int .i64)) (fun s cs h=>k100_open h) h4 h3;rw[List.length_map,List.flatMap_map];exact h5
 ·have h5:=rowAt_C (fun x:Int=>[Value.int .i64 x]) (fun x cs h=>h) h1 g1
  have e:l1.flatMap (fun x=>[Value.int .i64 x])=l1.map (Value.int .i64):=List.map_eq_flatMap.symm;rw[e] at h5;exact h5
 ·have h5:=rowAt_C (fun s:S74=>(eventRow (evt_ s)).map (Value.int .i64)) (fun s cs h=>k74_open h) h2 g2
  simp only[inp_,List.length_map,List.flatMap_map];exact h5
def rec_ (r:_root_.Beat.Rec):S72:=⟨r.kind,r.time,r.task,r.num⟩
def impl_RunPlan.f (k:Nat)(l0_0:List (S98))(l0_1:List Int)(a0_2:Int)(l1_0:List (S74))(a1_1:Int)(a1_2:Int):Option (Int×(List (S72))×Int×Int×List Int):=(Go.Beat.IM.playQ k k (plan_ l0_0 l0_1 a0_2) (inp_ l1_0 a1_1 a1_2)).map fun m=>(m.code,m.recs.map rec_,m.time,m.ticks,m.states)
theorem impl_RunPlan.calls (k:Nat)(A0_0:Option Addr)(c0_0:Nat)(l0_0:List (S98))(A0_1:Option Addr)(c0_1:Nat)(l0_1:List Int)(a0_2:Int)(A1_0:Option Addr)(c1_0:Nat)(l1_0:List (S74))(a1_1:Int)(a1_2:Int)(r1:Int)(r2:List (S72))(r3:Int)(r4:Int)(r5:List Int)(w:World)(hr0_0:Kd.C k98 w A0_0 l0_0.length l0_0)(hc0_0:l0_0.length≤c0_0)(hr0_1:Kd.C (Kd.int .i64) w A0_1 l0_1.length l0_1)(hc0_1:l0_1.length≤c0_1)(hr1_0:Kd.C k74 w A1_0 l1_0.length l1_0)(hc1_0:l1_0.length≤c1_0)(h:impl_RunPlan.f k l0_0 l0_1 a0_2 l1_0 a1_1 a1_2=some (r1,r2,r3,r4,r5)):
  Calls Try.prog 27 #[.agg #[.slice A0_0 l0_0.length c0_0,.slice A0_1 l0_1.length c0_1,.int .i64 a0_2],.agg #[.slice A1_0 l1_0.length c1_0,.int .i64 a1_1,.int .i64 a1_2]] w fun e w'=>∃v1_ v4_:Value,e=.returned (.agg #[.int .i64 r1,v1_,.int .i64 r3,.int .i64 r4,v4_])∧Kd.Z k72 72 w' w.heap.size (fun _=>True) v1_ r2∧Kd.Z (Kd.int .i64) 3 w' w.heap.size (fun _=>True) v4_ r5∧Below w.heap.size w w':=by
 obtain⟨B,hL⟩:=lies_ a0_2 a1_1 a1_2 hr0_0 hc0_0 hr0_1 hc0_1 hr1_0 hc1_0;unfold impl_RunPlan.f at h;obtain⟨m',hq,h⟩:=Option.map_eq_some_iff.1 h;simp only[Prod.mk.injEq] at h;obtain⟨rfl,rfl,rfl,rfl,rfl⟩:=h;have hc:=runplan_calls (S0:=stoPI A0_0 c0_0 A0_1 c0_1 A1_0 c1_0 B) hL.ro (fun _=>rfl) pi_nil hq;rw[enc_planV,enc_inpV] at hc
 have e1:(plan_ l0_0 l0_1 a0_2).bodies.length=l0_0.length:=by simp[plan_]
 have e3:(inp_ l1_0 a1_1 a1_2).feed.length=l1_0.length:=by simp[inp_]
 rw[e1,e3] at hc
 refine hc.mono fun e w' he=>?_
 obtain⟨wb,Bs,S',he1,R,k⟩:=he
 have cm:∀(t:TI) cs,cI (GM wb .nilFunc none) m' t=some cs→contA (D:=DM wb .nilFunc none) m' [] [obRp (rpC m')] (.m t)=some cs:=fun t cs h=>by
  unfold contA;exact (if_neg List.not_mem_nil).trans h
 refine⟨encL S' (.sl (.m .recs) 0 4 m'.recs.length),encL S' (.sl (.m .states) 0 1 m'.states.length),he1,?_,?_,below_kp (fun _=>rfl) k⟩
 ·have:=made_Z (fun _=>rfl) R k (t:=.m .recs) (cm .recs _ rfl) (d:=k72) (xs:=m'.recs.map rec_) (fun x=>[Value.int .i64 x.f0,Value.int .i64 x.f1,Value.int .i64 x.f2,Value.int .i64 x.f3]) (fun _=>rfl) (fun w x=>k72_mk w x) (of_decide_eq_true rfl) rfl (by
   rw[rows_enc S' k4 recRow m'.recs (fun r=>rfl),List.flatMap_map]
   rfl)
  rw[List.length_map] at this
  show Kd.Z _ _ _ _ _ (((S'.loc (.m .recs)).later 0 4).val m'.recs.length) _
  rw[later_zero];exact this
 ·have:=made_Z (fun _=>rfl) R k (t:=.m .states) (cm .states _ rfl) (d:=Kd.int .i64) (xs:=m'.states) (fun x=>[Value.int .i64 x]) (fun _=>rfl) (fun _ _=>rfl) (of_decide_eq_true rfl) rfl (by
   simp only[LO.flat,List.map_map]
   exact List.map_eq_flatMap)
  show Kd.Z _ _ _ _ _ (((S'.loc (.m .states)).later 0 1).val m'.states.length) _
  rw[later_zero];exact this
end Go.Proofs.Ytejjedooecephaa.PFnSleepers
end
