/-
  Texts joined by a program (shake.py), without what the claim does not use; printed walks among them (print.sh), and own ones.
-/
import Derived.Test.YtejjedooecephaaSleep6
import Derived.Laws.Entries
import Derived.Laws.Cells
section
namespace Go.Beat
open Go
abbrev Fr:=List (Nat×Value)
def look:Fr→Nat→Option Value
 |[],_=>none
 |(k,v)::r,t=>if k==t then some v else look r t
structure Frm (n:Nat) (ds:List Deferred) (a:Act) (fr:Fr):Prop where
  defs:a.defers=ds
  size:a.tmps.size=n
  get:∀t v,look fr t=some v→a.tmps.getD t undef=v
def ev (fr:Fr):Operand→Option Value
 |.tmp t=>look fr t
 |.const v=>some v
 |.global g=>some (.pointer (some ⟨g,0,none⟩))
 |.func f=>some (.func (.func f) #[] #[])
theorem Frm.eval {n:Nat}{ds:List Deferred}{a:Act}{fr:Fr}(h:Frm n ds a fr){x:Operand}{v:Value}(hx:ev fr x=some v):a.eval x=v:=by
 cases x with
 |tmp t=>exact h.get t v hx
 |const u=>simpa [ev,Act.eval] using hx
 |global g=>simpa [ev,Act.eval] using hx
 |func f=>simpa [ev,Act.eval] using hx
theorem Frm.put {n:Nat}{ds:List Deferred}{a:Act}{fr:Fr}(h:Frm n ds a fr){d:Nat}(hd:d<n)(v:Value):Frm n ds (a.put (some d) v) ((d,v)::fr):=by
 refine⟨h.defs,by simp[Act.put,h.size],fun t u ht=>?_⟩;unfold look at ht
 by_cases hdt:d=t
 ·subst hdt
  simp at ht
  subst ht;simp[Act.put,h.size,hd]
 ·have hb:(d==t)=false:=by simp[hdt]
  rw[hb] at ht;simp only[Bool.false_eq_true,if_false] at ht;have:=h.get t u ht;simp only[Act.put];rw[←this];simp[Array.getElem?_setIfInBounds_ne hdt]
def live (fr:Fr):List Nat→Option Fr
 |[]=>some []
 |k::ks=>match look fr k with
  |none=>none
  |some v=>match live fr ks with
   |none=>none
   |some r=>some ((k,v)::r)
theorem look_live {fr:Fr}:∀(ks:List Nat) (fr':Fr),live fr ks=some fr'→∀t v,look fr' t=some v→look fr t=some v
 |[],fr',h,t,v,hv=>by
  simp[live] at h;subst h;simp[look] at hv
 |k::ks,fr',h,t,v,hv=>by
  unfold live at h
  split at h
  ·cases h
  ·rename_i u hu
   split at h
   ·cases h
   ·rename_i r hr
    injection h with h
    subst h;unfold look at hv
    by_cases hkt:k=t
    ·subst hkt
     simp at hv
     subst hv;exact hu
    ·have hb:(k==t)=false:=by simp[hkt]
     rw[hb] at hv;exact look_live ks r hr t v hv
theorem Frm.live {n:Nat}{ds:List Deferred}{a:Act}{fr fr':Fr}{ks:List Nat}(h:Frm n ds a fr)(hl:Beat.live fr ks=some fr'):Frm n ds a fr':=
 ⟨h.defs,h.size,fun t v ht=>h.get t v (look_live ks fr' hl t v ht)⟩
structure Tab where
  fld:List (Nat×Nat×Nat)
  sca:List Nat
  agg:List (Nat×Nat)
def Tab.off (T:Tab)(s f:Nat):Option Nat:=(T.fld.find? fun x=>x.1==s&&x.2.1==f).map (·.2.2)
def fldOk (P:Program)(s f off:Nat):Bool:=
 match P.underlying s with
 |some (.struct fields)=>match fields[f]? with
  |some fd=>fd.offset==off&&(match P.info? fd.type with|some i=>i.size !=0|none=>false)
  |none=>false
 |_=>false
def scaOk (P:Program)(t:Nat):Bool:=
 (match P.underlying t with
  |some (.struct _)|some (.array _ _)|none=>false
  |some _=>true)&&(match P.info? t with|some i=>i.size==1|none=>false)
def aggOk (P:Program)(t n:Nat):Bool:=
 (match P.underlying t with
  |some (.struct _)|some (.array _ _)=>true
  |_=>false)&&(match P.info? t with|some i=>i.size==n|none=>false)
def Tab.ok (P:Program)(T:Tab):Bool:=T.fld.all (fun x=>fldOk P x.1 x.2.1 x.2.2)&&T.sca.all (scaOk P)&&T.agg.all (fun x=>aggOk P x.1 x.2)
theorem Tab.ok_off {P:Program}{T:Tab}(h:T.ok P=true){s f off:Nat}(ho:T.off s f=some off):fldOk P s f off=true:=by
 unfold Tab.ok at h;simp only[Bool.and_eq_true] at h;unfold Tab.off at ho;obtain⟨x,hx,rfl⟩:=Option.map_eq_some_iff.1 ho;have h1:=List.all_eq_true.1 h.1.1 x (List.mem_of_find?_eq_some hx);have h2:=List.find?_some hx
 simp at h2
 rw[←h2.1,←h2.2];exact h1
theorem Tab.ok_sca {P:Program}{T:Tab}(h:T.ok P=true){t:Nat}(ht:T.sca.contains t=true):scaOk P t=true:=by
 unfold Tab.ok at h;simp only[Bool.and_eq_true] at h;exact List.all_eq_true.1 h.1.2 t (by simpa using ht)
theorem Tab.ok_agg {P:Program}{T:Tab}(h:T.ok P=true){t n:Nat}(ht:T.agg.contains (t,n)=true):aggOk P t n=true:=by
 unfold Tab.ok at h;simp only[Bool.and_eq_true] at h;exact List.all_eq_true.1 h.2 (t,n) (by simpa using ht)
theorem run_fieldAt {P:Program}{s f off:Nat}(h:fldOk P s f off=true)(b o:Nat)(w:World):
  (Instr.fieldAt s (.pointer (some ⟨b,o,none⟩)) f).run P w=.ok (.pointer (some ⟨b,o+off,none⟩)) w:=by
 unfold fldOk at h
 split at h
 ·rename_i fields hu
  split at h
  ·rename_i fd hf
   simp only[Bool.and_eq_true,beq_iff_eq] at h;obtain⟨rfl,h2⟩:=h
   split at h2
   ·rename_i i hi
    have hi0:¬i.size=0:=by simpa using h2
    simp[Instr.fieldAt,run_underlying hu,hf,Instr.sureAddr,fieldPlace,sizeOf,typeInfo,hi,hi0,program,Sem.run];unfold Addr.add
    split<;>simp_all
   ·cases h2
  ·cases h
 ·cases h
theorem run_isAgg_sca {P:Program}{t:Nat}(h:scaOk P t=true)(w:World):(isAgg t).run P w=.ok false w:=by
 unfold scaOk at h;simp only[Bool.and_eq_true] at h;obtain⟨h1,_⟩:=h
 cases hu:P.underlying t with
 |none=>rw[hu] at h1;cases h1
 |some d=>
  rw[hu] at h1;unfold isAgg;simp only[Sem.run_bind,run_underlying hu,Result.andThen_ok]
  cases d<;>simp_all
theorem run_loadVar_sca {P:Program}{t:Nat}(h:scaOk P t=true){a:Addr}{v:Value}{w:World}(hc:w.cell? a=some v):(loadVar t a).run P w=.ok v w:=by
 unfold loadVar;simp only[Sem.run_bind,run_isAgg_sca h,Result.andThen_ok];simp[load,Sem.run,hc]
theorem run_isAgg_agg {P:Program}{t n:Nat}(h:aggOk P t n=true)(w:World):(isAgg t).run P w=.ok true w:=by
 unfold aggOk at h;simp only[Bool.and_eq_true] at h;obtain⟨h1,_⟩:=h
 cases hu:P.underlying t with
 |none=>rw[hu] at h1;cases h1
 |some d=>
  rw[hu] at h1;unfold isAgg;simp only[Sem.run_bind,run_underlying hu,Result.andThen_ok]
  cases d<;>simp_all
theorem run_sizeOf_agg {P:Program}{t n:Nat}(h:aggOk P t n=true)(w:World):(sizeOf t).run P w=.ok n w:=by
 unfold aggOk at h;simp only[Bool.and_eq_true] at h;obtain⟨_,h2⟩:=h
 split at h2
 ·rename_i i hi
  simp[sizeOf,typeInfo,program,Sem.run,hi]
  simpa using h2
 ·cases h2
theorem run_loadCellsFrom {P:Program}(a:Addr)(w:World):∀(vs:List Value) (i:Nat) (acc:Array Value),(∀j u,vs[j]?=some u→w.cell? (a.add (i+j))=some u)→
  (loadCellsFrom a i vs.length acc).run P w=.ok (acc++vs.toArray) w
 |[],i,acc,_=>by simp[loadCellsFrom]
 |v::vs,i,acc,h=>by
  have h0:=h 0 v (by simp);have ih:=run_loadCellsFrom (P:=P) a w vs (i+1) (acc.push v) (fun j u hu=>by have:=h (j+1) u (by simpa using hu);rwa [Nat.add_assoc,Nat.add_comm 1 j]);simp only[Nat.add_zero] at h0;simp only[List.length_cons,loadCellsFrom,Sem.run_bind];simp only[load,Sem.run,h0,Result.andThen_ok,ih]
  simp
theorem run_loadVar_agg {P:Program}{t:Nat}{vs:List Value}(h:aggOk P t vs.length=true){a:Addr}{w:World}(hc:∀j u,vs[j]?=some u→w.cell? (a.add j)=some u):
  (loadVar t a).run P w=.ok (.agg vs.toArray) w:=by
 unfold loadVar;simp only[Sem.run_bind,run_isAgg_agg h,Result.andThen_ok,if_true,run_sizeOf_agg h];have:=run_loadCellsFrom (P:=P) a w vs 0 #[] (by simpa using hc);simp[loadCells,this]
inductive Hint (P:Program) (C:World→Prop) where
  |ld (a:Addr) (v:Value) (ok:∀w,C w→w.cell? a=some v)
  |ldn (a:Addr) (vs:List Value) (ok:∀w,C w→∀j u,vs[j]?=some u→w.cell? (a.add j)=some u)
  |run (s:Sem Value) (v:Value) (ok:∀w,C w→s.run P w=.ok v w)
  |ov (v v':Value) (ok:v=v')
abbrev Hints (P:Program)(C:World→Prop):=List (Nat×Hint P C)
inductive Chk where
  |v (x:Value)
  |s (x:Sem Value)
def hintAt {P:Program}{C:World→Prop}:Hints P C→Nat→Option (Hint P C)
 |[],_=>none
 |(k,h)::r,d=>if k==d then some h else hintAt r d
def binI (op:BinOp)(k k':IntKind)(a b:Int):Option Value:=
 if k=k' then
  match op with
  |.add=>some (.int k (k.wrap (a+b)))
  |.sub=>some (.int k (k.wrap (a - b)))
  |.mul=>some (.int k (k.wrap (a*b)))
  |.eql=>some (.bool (a==b))
  |.neq=>some (.bool (a !=b))
  |.lss=>some (.bool (a<b))
  |.leq=>some (.bool (a≤b))
  |.gtr=>some (.bool (a>b))
  |.geq=>some (.bool (a≥b))
  |_=>none
 else none
def nat1 (T:Tab)(fr:Fr)(o:Oper):Option Value:=
 match o.op with
 |.move x|.assign x=>ev fr x
 |.nilCheck x=>match ev fr x with
  |some (.pointer (some a))=>some (.pointer (some a))
  |some (.func (.func f) p q)=>some (.func (.func f) p q)
  |_=>none
 |.fieldAddr s x f=>match ev fr x with
  |some (.pointer (some ⟨b,o,none⟩))=>match T.off s f with
   |some off=>some (.pointer (some ⟨b,o+off,none⟩))
   |none=>none
  |_=>none
 |.binOp op _ x y _=>match ev fr x with
  |some (.int k a)=>match ev fr y with
   |some (.int k' b)=>binI op k k' a b
   |_=>none
  |_=>none
 |.unOp .not _ x=>match ev fr x with
  |some (.bool b)=>some (.bool !b)
  |_=>none
 |.pick c x y=>match ev fr c with
  |some (.bool true)=>ev fr x
  |some (.bool false)=>ev fr y
  |_=>none
 |.extract x i=>match ev fr x with
  |some (.tuple vs)=>vs[i]?
  |_=>none
 |_=>none
def evO (fr:Fr):Option Operand→Option (Option Value)
 |none=>some none
 |some x=>(ev fr x).map some
def lenOp (fr:Fr)(c:Call)(type:TypeId):Option (Sem Value):=
 match c.callee with
 |.builtin .len=>match c.args.toList.mapM (ev fr) with
  |some vs=>some (Builtin.len_ c.argTypes type vs.toArray)
  |none=>none
 |_=>none
def semOp (fr:Fr)(o:Oper):Option (Sem Value):=
 match o.op with
 |.indexAddr t x i=>match ev fr x,ev fr i with
  |some x,some i=>some (Instr.indexAt t x i)
  |_,_=>none
 |.index t x i=>match ev fr x,ev fr i with
  |some x,some i=>some (Instr.index t x i)
  |_,_=>none
 |.slice t x lo hi mx=>match ev fr x,evO fr lo,evO fr hi,evO fr mx with
  |some x,some lo,some hi,some mx=>some (Instr.sliceAt t x lo hi mx)
  |_,_,_,_=>none
 |.convert s d x=>match ev fr x with
  |some x=>some (convert s d x)
  |_=>none
 |.makeInterface t x=>match ev fr x with
  |some x=>some (Instr.makeInterface t x)
  |_=>none
 |.typeAssert x xt at_ ok=>match ev fr x with
  |some x=>some (Instr.typeAssert x xt at_ ok)
  |_=>none
 |.lookup t x i ok=>match ev fr x,ev fr i with
  |some x,some i=>some (Instr.lookup t x i ok)
  |_,_=>none
 |.field t x f=>match ev fr x with
  |some x=>some (Instr.field t x f)
  |_=>none
 |.binOp op t x y _=>match ev fr x,ev fr y with
  |some a,some b=>some (do eqGuard op t x y a b;binOp op t a b)
  |_,_=>none
 |.unOp op _ x=>match ev fr x with
  |some x=>some (Op.unary op x)
  |_=>none
 |.build t parts=>match parts.toList.mapM (fun p=>(ev fr p.2).map (fun v=>(p.1,v))) with
  |some ps=>some (Instr.build t ps.toArray)
  |none=>none
 |.makeFunc fn first captured=>match first.toList.mapM (ev fr),captured.toList.mapM (ev fr) with
  |some f,some c=>some (Instr.makeFunc fn f.toArray c.toArray)
  |_,_=>none
 |.call c=>lenOp fr c o.type
 |_=>none
structure Out where
  v:Value
  ps:List (Chk×Chk)
def slotOf (o:Oper):Nat:=o.dst.getD 1000000
def light {P:Program}{C:World→Prop}(T:Tab)(hs:Hints P C)(fr:Fr)(o:Oper):Option Out:=
 match o.op with
 |.load t x=>match ev fr x with
  |some (.pointer (some a))=>match hintAt hs (slotOf o) with
   |some (.ld b v _)=>if T.sca.contains t then some ⟨v,[(.v (.pointer (some a)),.v (.pointer (some b)))]⟩ else none
   |some (.ldn b vs _)=>if T.agg.contains (t,vs.length) then some ⟨.agg vs.toArray,[(.v (.pointer (some a)),.v (.pointer (some b)))]⟩ else none
   |_=>none
  |_=>none
 |_=>match nat1 T fr o with
  |some v=>match hintAt hs (slotOf o) with
   |some (.ov u u' _)=>some ⟨u',[(.v v,.v u)]⟩
   |_=>some ⟨v,[]⟩
  |none=>match semOp fr o with
   |some s=>match hintAt hs (slotOf o) with
    |some (.run s' v _)=>some ⟨v,[(.s s,.s s')]⟩
    |_=>none
   |none=>none
theorem eqGuard_int {P:Program}{op:BinOp}{t:TypeId}{x y:Operand}{k k':IntKind}{a b:Int}(w:World):(eqGuard op t x y (.int k a) (.int k' b)).run P w=.ok () w:=by
 unfold eqGuard
 split<;>simp_all
theorem binI_run {P:Program}{op:BinOp}{t:TypeId}{k k':IntKind}{a b:Int}{v:Value}(h:binI op k k' a b=some v)(w:World):(binOp op t (.int k a) (.int k' b)).run P w=.ok v w:=by
 unfold binI at h
 split at h
 ·rename_i hk
  subst hk
  cases op<;>simp at h<;>subst h<;>simp [binOp,Op.intArith,Op.intCmp]
 ·cases h
section
variable {P:Program} {C:World→Prop} {T:Tab} {n:Nat} {ds:List Deferred} {a:Act} {fr:Fr}
theorem nat1_sound (hT:T.ok P=true)(hF:Frm n ds a fr){o:Oper}{v:Value}(h:nat1 T fr o=some v)(w:World):(execOp a.eval o).run P w=.ok (.value v) w:=by
 obtain⟨dst,op,type,pos,after,guard⟩:=o
 cases op<;>simp only[nat1] at h<;>try (exact absurd h (by simp))
 case move x=>simp[execOp,hF.eval h]
 case assign x=>simp[execOp,hF.eval h]
 case nilCheck x=>
  split at h
  ·rename_i b hx
   injection h with h
   subst h;simp[execOp,hF.eval hx]
  ·rename_i f p q hx
   injection h with h
   subst h;simp[execOp,hF.eval hx]
  ·cases h
 case fieldAddr s x f=>
  split at h
  ·rename_i b o hx
   split at h
   ·rename_i off ho
    injection h with h
    subst h;simp[execOp,hF.eval hx,run_fieldAt (Tab.ok_off hT ho)]
   ·cases h
  ·cases h
 case binOp op t x y yt=>
  split at h
  ·rename_i k i hx
   split at h
   ·rename_i k' j hy
    simp[execOp,hF.eval hx,hF.eval hy,eqGuard_int,binI_run h]
   ·cases h
  ·cases h
 case unOp op t x=>
  cases op<;>simp only at h<;>try (exact absurd h (by simp))
  split at h
  ·rename_i b hx
   injection h with h
   subst h;simp[execOp,hF.eval hx,Op.unary]
  ·cases h
 case pick c x y=>
  split at h
  ·rename_i hc
   simp[execOp,hF.eval hc,hF.eval h,asBool]
  ·rename_i hc
   simp[execOp,hF.eval hc,hF.eval h,asBool]
  ·cases h
 case extract x i=>
  split at h
  ·rename_i vs hx
   simp[execOp,hF.eval hx,Instr.extract,h]
  ·cases h
theorem mapM_ev (hF:Frm n ds a fr):∀(ps:List (Nat×Operand)) (vs:List (Nat×Value)),ps.mapM (fun p=>(ev fr p.2).map (fun v=>(p.1,v)))=some vs→ps.map (fun p=>(p.1,a.eval p.2))=vs
 |[],vs,h=>by simpa using h
 |p::ps,vs,h=>by
  simp only[List.mapM_cons,Option.bind_eq_bind,Option.bind_eq_some_iff,Option.map_eq_some_iff] at h;obtain⟨u,⟨v,hv,rfl⟩,rest,hr,hh⟩:=h
  have hh':(p.1,v)::rest=vs:=by simpa using hh
  subst hh';simp[hF.eval hv,mapM_ev hF ps rest hr]
theorem mapM_ev1 (hF:Frm n ds a fr):∀(ps:List Operand) (vs:List Value),ps.mapM (ev fr)=some vs→ps.map a.eval=vs
 |[],vs,h=>by simpa using h
 |p::ps,vs,h=>by
  simp only[List.mapM_cons,Option.bind_eq_bind,Option.bind_eq_some_iff] at h;obtain⟨v,hv,rest,hr,hh⟩:=h
  have hh':v::rest=vs:=by simpa using hh
  subst hh';simp[hF.eval hv,mapM_ev1 hF ps rest hr]
theorem evO_sound (hF:Frm n ds a fr){x:Option Operand}{v:Option Value}(h:evO fr x=some v):x.map a.eval=v:=by
 cases x with
 |none=>simpa [evO] using h
 |some x=>
  unfold evO at h;obtain⟨u,hu,rfl⟩:=Option.map_eq_some_iff.1 h;simp[hF.eval hu]
theorem semOp_sound (hF:Frm n ds a fr){o:Oper}{s:Sem Value}(h:semOp fr o=some s){v:Value}{w:World}(hs:s.run P w=.ok v w):(execOp a.eval o).run P w=.ok (.value v) w:=by
 obtain⟨dst,op,type,pos,after,guard⟩:=o
 cases op<;>simp only[semOp] at h<;>try (exact absurd h (by simp))
 case build t parts=>
  split at h
  ·rename_i ps hps
   injection h with h
   subst h;have:=mapM_ev hF _ _ hps
   have he:(parts.map fun (i,x)=>(i,a.eval x))=ps.toArray:=by
    apply Array.toList_inj.1
    rw[Array.toList_map];exact this
   simp only[execOp];rw[he];simp[hs]
  ·cases h
 case makeFunc fn first captured=>
  split at h
  ·rename_i f c hf hc
   injection h with h
   subst h;have h1:=mapM_ev1 hF _ _ hf;have h2:=mapM_ev1 hF _ _ hc
   have e1:first.map a.eval=f.toArray:=by apply Array.toList_inj.1;rw[Array.toList_map];exact h1
   have e2:captured.map a.eval=c.toArray:=by apply Array.toList_inj.1;rw[Array.toList_map];exact h2
   simp[execOp,e1,e2,hs]
  ·cases h
 case slice t x lo hi mx=>
  split at h
  ·rename_i x' lo' hi' mx' h1 h2 h3 h4
   injection h with h
   subst h;simp[execOp,hF.eval h1,evO_sound hF h2,evO_sound hF h3,evO_sound hF h4,hs]
  ·cases h
 case call c=>
  unfold lenOp at h
  split at h
  ·rename_i hc
   split at h
   ·rename_i vs hvs
    injection h with h
    subst h;have h1:=mapM_ev1 hF _ _ hvs
    have e1:c.args.map a.eval=vs.toArray:=by apply Array.toList_inj.1;rw[Array.toList_map];exact h1
    simp[execOp,resolve,hc,invoke,builtin,e1,hs]
   ·cases h
  ·cases h
 case binOp op t x y yt=>
  split at h
  ·rename_i u v' hx hy
   injection h with h
   subst h;simp only[execOp,hF.eval hx,hF.eval hy];simp only[Sem.run_bind] at hs ⊢;simp[hs]
  ·cases h
 case indexAddr t x i=>
  split at h
  ·rename_i u u' h1 h2
   injection h with h
   subst h;simp[execOp,hF.eval h1,hF.eval h2,hs]
  ·cases h
 case index t x i=>
  split at h
  ·rename_i u u' h1 h2
   injection h with h
   subst h;simp[execOp,hF.eval h1,hF.eval h2,hs]
  ·cases h
 case lookup t x i ok=>
  split at h
  ·rename_i u u' h1 h2
   injection h with h
   subst h;simp[execOp,hF.eval h1,hF.eval h2,hs]
  ·cases h
 all_goals
  split at h
  ·injection h with h
   subst h;simp[execOp,hF.eval (by assumption),hs]
  ·cases h
theorem light_sound (hT:T.ok P=true)(hF:Frm n ds a fr){hs:Hints P C}{o:Oper}{r:Out}(h:light T hs fr o=some r)(hc:∀p∈r.ps,p.1=p.2)(w:World)(hC:C w):(execOp a.eval o).run P w=.ok (.value r.v) w:=by
 have gen:(match nat1 T fr o with
  |some v=>match hintAt hs (slotOf o) with
   |some (.ov u u' _)=>some (⟨u',[(.v v,.v u)]⟩:Out)
   |_=>some ⟨v,[]⟩
  |none=>match semOp fr o with
   |some s=>match hintAt hs (slotOf o) with
    |some (.run s' v _)=>some ⟨v,[(.s s,.s s')]⟩
    |_=>none
   |none=>none)=some r→(execOp a.eval o).run P w=.ok (.value r.v) w:=by
  intro h
  split at h
  ·rename_i v hv
   have h1:=nat1_sound hT hF hv w
   split at h
   ·rename_i u u' ok hh
    injection h with h
    subst h
    simp only at hc ⊢
    have hvu:v=u:=Chk.v.inj (hc (Chk.v v,Chk.v u) (List.mem_singleton.2 rfl));rw[h1,hvu,ok]
   ·injection h with h
    subst h;exact h1
  ·split at h
   ·rename_i s hsm
    split at h
    ·rename_i s' v ok hh
     injection h with h
     subst h
     simp only at hc ⊢
     have hss:s=s':=Chk.s.inj (hc (Chk.s s,Chk.s s') (List.mem_singleton.2 rfl));subst hss;exact semOp_sound hF hsm (ok w hC)
    ·cases h
   ·cases h
 obtain⟨dst,op,type,pos,after,guard⟩:=o
 cases op
 case load t x=>
  simp only[light] at h
  split at h
  ·rename_i ad hx
   split at h
   ·rename_i b v ok hh
    split at h
    ·rename_i hsca
     injection h with h
     subst h
     simp only at hc ⊢
     have hab:ad=b:=Option.some.inj (Value.pointer.inj (Chk.v.inj (hc (Chk.v (.pointer (some ad)),Chk.v (.pointer (some b))) (List.mem_singleton.2 rfl))));subst hab;simp[execOp,hF.eval hx,Instr.loadAt,Instr.sureAddr,run_loadVar_sca (Tab.ok_sca hT hsca) (ok w hC)]
    ·cases h
   ·rename_i b vs ok hh
    split at h
    ·rename_i hagg
     injection h with h
     subst h
     simp only at hc ⊢
     have hab:ad=b:=Option.some.inj (Value.pointer.inj (Chk.v.inj (hc (Chk.v (.pointer (some ad)),Chk.v (.pointer (some b))) (List.mem_singleton.2 rfl))));subst hab;simp[execOp,hF.eval hx,Instr.loadAt,Instr.sureAddr,run_loadVar_agg (Tab.ok_agg hT hagg) (ok w hC)]
    ·cases h
   ·cases h
  ·cases h
 all_goals exact gen h
def pure1 {P:Program}{C:World→Prop}(T:Tab)(hs:Hints P C)(fr:Fr)(o:Oper):Option Out:=
 match nat1 T fr o with
 |some v=>match hintAt hs (slotOf o) with
  |some (.ov u u' _)=>some ⟨u',[(.v v,.v u)]⟩
  |_=>some ⟨v,[]⟩
 |none=>none
theorem pure1_sound (hT:T.ok P=true)(hF:Frm n ds a fr){hs:Hints P C}{o:Oper}{r:Out}(h:pure1 T hs fr o=some r)(hc:∀p∈r.ps,p.1=p.2)(w:World):(execOp a.eval o).run P w=.ok (.value r.v) w:=by
 unfold pure1 at h
 split at h
 ·rename_i v hv
  have h1:=nat1_sound hT hF hv w
  split at h
  ·rename_i u u' ok hh
   injection h with h
   subst h
   simp only at hc ⊢
   have hvu:v=u:=Chk.v.inj (hc (Chk.v v,Chk.v u) (List.mem_singleton.2 rfl));rw[h1,hvu,ok]
  ·injection h with h
   subst h;exact h1
 ·cases h
end
end Go.Beat
end
