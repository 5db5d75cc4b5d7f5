/-
  Texts joined by a program (shake.py), without what the claim does not use; printed walks among them (print.sh), and own ones.
-/
import Derived.Test.YtejjedooecephaaSleep10
import Derived.Laws.Tables
import Derived.Laws.Small
import Derived.Laws.StructEq
section
namespace Go.Beat
open Go
structure TabA extends Tab where
  sls:List (Nat×Nat×Nat×Nat) -- a slice's type; its element's, size, bytes
  arr:List (Nat×Nat) -- an array's type (elements of one cell), its length
  zer:List (Nat×List Value) -- a type's zero cells
  bld:List (Nat×List (Nat×Nat)) -- a struct, an array of one-cell parts: where the parts lie, how many cells
  ifc:List Nat -- concrete types that are laid into an interface
  kin:List (Nat×List IntKind) -- an element's type: the kinds of its numbers
  cmp:List (Nat×Bool):=[] -- types of bools (true), of functions (false)
  mp:List Nat:=[] -- types of maps from numbers to slices
  eqs:List (Nat×Nat):=[] -- structs of so many numbers
  pk:List Nat:=[] -- kinds of things whose places may turn
  gk:List Nat:=[] -- the same, of things that were not there
  sk:List Nat:=[] -- kinds whose slices stay with the call when their home takes nil
def zeroC (P:Program)(t:Nat):Option (List Value):=(P.info? t).bind fun i=>i.zero.map fun z=>z.cells.toList
def placesOk (P:Program)(t:Nat)(offs:List (Nat×Nat)):Bool:=
 match P.underlying t with
 |some (.struct fields)=>fields.toList.mapM (fun f=>(P.info? f.type).map fun i=>(f.offset,i.size))==some offs
 |some (.array n e)=>(List.range n).map (fun i=>(i,1))==offs&&(match P.info? e with|some i=>i.size==1|none=>false)
 |_=>false
def slOk (P:Program)(x:Nat×Nat×Nat×Nat):Bool:=appOk P x.1 x.2.1 x.2.2.1 x.2.2.2&&elemSize P x.1 x.2.1 x.2.2.1&&Nat.blt 0 x.2.2.1
def arOk (P:Program)(x:Nat×Nat):Bool:=match P.underlying x.1 with|some (.array n e)=>n==x.2&&(match P.info? e with|some i=>i.size==1|none=>false)|_=>false
def ifOk (P:Program)(t:Nat):Bool:=match P.underlying t with|some (.interface _)=>false|some _=>true|none=>false
def cmOk (P:Program)(x:Nat×Bool):Bool:=match P.underlying x.1 with|some .bool=>x.2|some (.func _ _ _)=>!x.2|_=>false
def mpOk (P:Program)(t:Nat):Bool:=match P.underlying t with
 |some (.map k e)=>(match P.underlying k with|some (.int .i64)=>true|_=>false)&&(match zeroC P e with|some [.slice none 0 0]=>(match P.info? e with|some i=>(match i.zero with|some (.slice none 0 0)=>true|_=>false)|none=>false)|_=>false)
 |_=>false
def eqFs (P:Program):Nat→List Field→Bool
 |_,[]=>true
 |i,f::fs=>!(f.name== "_")&&f.offset==i&&(match P.underlying f.type with|some (.int .i64)=>true|_=>false)&&(match P.info? f.type with|some q=>q.size==1|none=>false)&&eqFs P (i+1) fs
def esOk (P:Program)(x:Nat×Nat):Bool:=!(P.stoodInHeld x.1)&&!(P.eqGuardType P.depth x.1)&&(match P.underlying x.1 with|some (.struct fs)=>fs.size==x.2&&eqFs P 0 fs.toList|_=>false)
structure TabA.Ok (P:Program) (T:TabA):Prop where
  base:T.toTab.ok P=true
  sls:T.sls.all (slOk P)=true
  arr:T.arr.all (arOk P)=true
  zer:T.zer.map (fun x=>zeroC P x.1)=T.zer.map fun x=>some x.2
  bld:T.bld.all (fun x=>placesOk P x.1 x.2)=true
  ifc:T.ifc.all (ifOk P)=true
  cmp:T.cmp.all (cmOk P)=true
  mp:T.mp.all (mpOk P)=true
  eqs:T.eqs.all (esOk P)=true
def TabA.sl (T:TabA)(t:Nat):Option (Nat×Nat×Nat):=(T.sls.find? fun x=>Nat.beq x.1 t).map (·.2)
def TabA.ar (T:TabA)(t:Nat):Option Nat:=(T.arr.find? fun x=>Nat.beq x.1 t).map (·.2)
def TabA.ze (T:TabA)(t:Nat):Option (List Value):=(T.zer.find? fun x=>Nat.beq x.1 t).map (·.2)
def TabA.bl (T:TabA)(t:Nat):Option (List (Nat×Nat)):=(T.bld.find? fun x=>Nat.beq x.1 t).map (·.2)
def TabA.ki (T:TabA)(t:Nat):Option (List IntKind):=(T.kin.find? fun x=>Nat.beq x.1 t).map (·.2)
def TabA.cm (T:TabA)(t:Nat):Option Bool:=(T.cmp.find? fun x=>Nat.beq x.1 t).map (·.2)
def TabA.es (T:TabA)(t:Nat):Option Nat:=(T.eqs.find? fun x=>Nat.beq x.1 t).map (·.2)
def TabA.ag (T:TabA)(t:Nat):Option Nat:=(T.agg.find? fun x=>Nat.beq x.1 t).map (·.2)
theorem find_fst {β:Type}{l:List (Nat×β)}{t:Nat}{b:β}(h:(l.find? fun x=>Nat.beq x.1 t).map (·.2)=some b):(t,b)∈l:=by
 obtain⟨x,hx,rfl⟩:=Option.map_eq_some_iff.1 h;have h1:=List.mem_of_find?_eq_some hx;have h2:=List.find?_some hx;simp only[Nat.beq_eq] at h2;rw[←h2];exact h1
section
variable {P:Program} {T:TabA}
theorem TabA.Ok.slOk (h:T.Ok P){t e size bytes:Nat}(ht:T.sl t=some (e,size,bytes)):appOk P t e size bytes=true∧elemSize P t e size=true∧0<size:=by
 have:=List.all_eq_true.1 h.sls _ (find_fst ht);simp only[Beat.slOk,Bool.and_eq_true] at this;exact⟨this.1.1,this.1.2,Nat.le_of_ble_eq_true this.2⟩
theorem TabA.Ok.cmOk (h:T.Ok P){t:Nat}{b:Bool}(ht:T.cm t=some b):Beat.cmOk P (t,b)=true:=List.all_eq_true.1 h.cmp _ (find_fst ht)
theorem TabA.Ok.zeOk (h:T.Ok P){t:Nat}{cs:List Value}(ht:T.ze t=some cs):∃i z,P.info? t=some i∧i.zero=some z∧z.cells.toList=cs:=by
 have hm:=find_fst ht;obtain⟨k,hk⟩:=List.getElem?_of_mem hm;have:=congrArg (fun l=>l[k]?) h.zer;simp only[List.getElem?_map,hk,Option.map_some,Option.some.injEq,zeroC,Option.bind_eq_some_iff,Option.map_eq_some_iff] at this;obtain⟨i,h1,z,h2,h3⟩:=this;exact⟨i,z,h1,h2,h3⟩
theorem TabA.Ok.agOk (h:T.Ok P){t n:Nat}(ht:T.ag t=some n):aggOk P t n=true:=by
 have hm:=find_fst ht;have h1:=h.base;simp only[Tab.ok,Bool.and_eq_true] at h1;exact List.all_eq_true.1 h1.2 _ hm
theorem TabA.Ok.blOk (h:T.Ok P){t:Nat}{offs:List (Nat×Nat)}(ht:T.bl t=some offs):placesOk P t offs=true:=List.all_eq_true.1 h.bld _ (find_fst ht)
theorem TabA.Ok.arOk (h:T.Ok P){t n:Nat}(ht:T.ar t=some n):Beat.arOk P (t,n)=true:=List.all_eq_true.1 h.arr _ (find_fst ht)
end
structure AS (D:Md) where
  fr:AFr D.τ
  st:D.σ
  L:List (LObj D.τ)
  dk:List D.τ
section
variable {D:Md} {X:Type}
def AS.alive (s:AS D)(u:D.τ):Bool:=s.dk.all fun d=>!(Nat.beq (D.kind d) (D.kind u))
theorem AS.alive_not {s:AS D}{u:D.τ}(h:s.alive u=true):u∉s.dk:=fun hm=>by
 have:=List.all_eq_true.1 h u hm;have e:Nat.beq (D.kind u) (D.kind u)=true:=Nat.beq_refl _;simp[e] at this
def AS.rd (s:AS D)(t:Tg D.τ)(k sz f n:Nat)(κ:List (AL D.τ)→Option X):Option X:=
 match t with
 |.m u=>bif s.alive u&&Nat.beq sz (D.M.sz u) then D.rd s.st u k f n κ else none
 |.loc j=>match s.L[j]? with
  |none=>none
  |some ob=>match ob.o with
   |none=>none
   |some o=>bif o.fits ob.sz&&Nat.beq sz ob.sz then o.rd sz k f n κ else none
def AS.ln (s:AS D)(t:Tg D.τ)(sz:Nat)(κ:Nat→Option X):Option X:=
 match t with
 |.m u=>bif s.alive u&&Nat.beq sz (D.M.sz u) then D.ln s.st u κ else none
 |.loc j=>match s.L[j]? with
  |none=>none
  |some ob=>match ob.o with
   |none=>none
   |some o=>bif o.fits ob.sz&&Nat.beq sz ob.sz then κ (o.len sz) else none
variable {B:Base D} {s:AS D}
theorem AS.rd_ok (O:MdOk D){t:Tg D.τ}{k sz f n:Nat}{κ:List (AL D.τ)→Option X}{x:X}(h:s.rd t k sz f n κ=some x):
  ∃as,κ as=some x∧as.length=n∧∀(S:Sto (Tg D.τ)) (w:World),Rel B s.st s.L s.dk S w→∀j a,as[j]?=some a→w.cell? ⟨(S.loc t).b,(S.loc t).off+k*sz+f+j,none⟩=some (encL S a)∧(S.own (S.loc t).b=some t∨S.own (S.loc t).b=none):=by
 have own:∀(S:Sto (Tg D.τ)) (w:World),Rel B s.st s.L s.dk S w→∀t cs i a,contA s.st s.dk s.L t=some cs→cs[i]?=some a→S.own (S.loc t).b=some t:=fun S w R t cs i a hc hi=>by
  have Ht:=R.H t (cs.map (encL S)) (by simp[encC,hc]);exact (Ht.blk (Ht.notNil (j:=i) (by simpa using (List.getElem?_eq_some_iff.1 hi).1))).1
 cases t with
 |m u=>
  simp only[AS.rd] at h
  cases hb:(s.alive u&&Nat.beq sz (D.M.sz u)) with
  |false=>rw[hb] at h;cases h
  |true=>
   rw[hb] at h;simp only[cond_true] at h;simp only[Bool.and_eq_true,Nat.beq_eq] at hb;obtain⟨ha,rfl⟩:=hb;obtain⟨cs,as,h1,h2,h3,h4⟩:=O.rd _ _ _ _ _ _ _ h;refine⟨as,h4,h2,fun S w R j a hj=>?_⟩
   rcases h1 with h1|h1
   ·have hc:contA s.st s.dk s.L (.m u)=some cs:=by simp[contA,AS.alive_not ha,h1]
    have:=R.cell hc (h3 j a hj);refine⟨?_,.inl (own S w R _ _ _ _ hc (h3 j a hj))⟩;rw[←this]
    congr 2
    omega
   ·have:=(R.ro u cs h1).cell _ a (h3 j a hj)
    refine⟨?_,.inr ((R.ro u cs h1).own (fun e=>by have:=h3 j a hj;rw[e] at this;cases this)).1⟩;rw[←this]
    congr 2
    omega
 |loc j=>
  simp only[AS.rd] at h
  split at h
  ·cases h
  ·rename_i ob hob
   split at h
   ·cases h
   ·rename_i o ho
    cases hb:(o.fits ob.sz&&Nat.beq sz ob.sz) with
    |false=>rw[hb] at h;cases h
    |true=>
     rw[hb] at h;simp only[cond_true] at h;simp only[Bool.and_eq_true,Nat.beq_eq] at hb;obtain⟨hf,rfl⟩:=hb;obtain⟨as,h1,h2,h3⟩:=LO.rd_ok hf h;refine⟨as,h1,h2,fun S w R i a hi=>?_⟩
     have hc:contA s.st s.dk s.L (.loc j)=some o.flat:=by simp[contA,hob,ho]
     have:=R.cell hc (h3 i a hi);refine⟨?_,.inl (own S w R _ _ _ _ hc (h3 i a hi))⟩;rw[←this]
     congr 2
     omega
theorem AS.ln_ok (O:MdOk D){t:Tg D.τ}{sz:Nat}{κ:Nat→Option X}{x:X}(hsz:0<sz)(h:s.ln t sz κ=some x):
  ∃m,κ m=some x∧∀(S:Sto (Tg D.τ)) (w:World),Rel B s.st s.L s.dk S w→(0<m→(S.loc t).nil=false)∧m≤(S.loc t).cap:=by
 cases t with
 |m u=>
  simp only[AS.ln] at h
  cases hb:(s.alive u&&Nat.beq sz (D.M.sz u)) with
  |false=>rw[hb] at h;cases h
  |true=>
   rw[hb] at h;simp only[cond_true] at h;simp only[Bool.and_eq_true,Nat.beq_eq] at hb;obtain⟨ha,rfl⟩:=hb;obtain⟨cs,m,h1,h2,h3⟩:=O.ln _ _ _ _ h;refine⟨m,h3,fun S w R=>?_⟩
   have hpos:0<m→0<cs.length:=fun hm=>by rw[h2];exact Nat.mul_pos hm hsz
   rcases h1 with h1|h1
   ·have Ht:=R.H (.m u) (cs.map (encL S)) (by simp[encC,contA,AS.alive_not ha,h1])
    refine⟨fun hm=>Ht.notNil (j:=0) (by simpa using hpos hm),?_⟩;obtain⟨n',h4,h5⟩:=Ht.len;rw[List.length_map,h2] at h4;have:m=n':=Nat.eq_of_mul_eq_mul_right hsz h4;omega
   ·refine⟨fun hm=>((R.ro u cs h1).own (fun e=>by have:=hpos hm;rw[e] at this;simp at this)).2,?_⟩
    have:=(R.ro u cs h1).cap;rw[h2] at this;exact Nat.le_of_mul_le_mul_right this hsz
 |loc j=>
  simp only[AS.ln] at h
  split at h
  ·cases h
  ·rename_i ob hob
   split at h
   ·cases h
   ·rename_i o ho
    cases hb:(o.fits ob.sz&&Nat.beq sz ob.sz) with
    |false=>rw[hb] at h;cases h
    |true=>
     rw[hb] at h;simp only[cond_true] at h;simp only[Bool.and_eq_true,Nat.beq_eq] at hb;obtain⟨hf,rfl⟩:=hb;refine⟨_,h,fun S w R=>?_⟩;have Ht:=R.H (.loc j) (o.flat.map (encL S)) (by simp[encC,contA,hob,ho]);refine⟨fun hm=>Ht.notNil (j:=0) (by rw[List.length_map,LO.flat_len hf];exact Nat.mul_pos hm hsz),?_⟩;obtain⟨n',h4,h5⟩:=Ht.len
     have hm:(metaA D s.L).sz (.loc j)=ob.sz:=by simp[metaA,hob]
     rw[List.length_map,LO.flat_len hf,hm] at h4;have:o.len ob.sz=n':=Nat.eq_of_mul_eq_mul_right hsz h4;omega
def cellsOf:TV D.τ→Option (List (AL D.τ))
 |.l a=>some [a]
 |.agg xs=>some xs
 |_=>none
def setAll {τ:Type}:List (AL τ)→List (Nat×List (AL τ))→List (AL τ)
 |cs,[]=>cs
 |cs,(i,as)::r=>setAll (setN cs i as) r
def partsA (fr:AFr D.τ)(offs:List (Nat×Nat)):List (Nat×Operand)→Option (List (Nat×List (AL D.τ)))
 |[]=>some []
 |(i,x)::r=>match evA fr x with
  |some v=>(match cellsOf v with
   |some cs=>(match offs[i]? with
    |some q=>bif Nat.beq q.2 cs.length then (match partsA fr offs r with|some ps=>some ((q.1,cs)::ps)|none=>none) else none
    |none=>none)
   |none=>none)
  |none=>none
def argsA (fr:AFr D.τ):List Operand→Option (List (TV D.τ))
 |[]=>some []
 |x::r=>match evA fr x with
  |some v=>(match argsA fr r with|some vs=>some (v::vs)|none=>none)
  |none=>none
def intOf (fr:AFr D.τ)(x:Operand):Option Int:=match evA fr x with|some (.l (.v (.int _ n)))=>some n|_=>none
def bnd (fr:AFr D.τ)(d:Int):Option Operand→Option Int
 |none=>some d
 |some x=>intOf fr x
def binV (T:TabA)(op:BinOp)(t:Nat)(u v:Value):Option Value:=
 match T.cm t,u,v with
 |some true,.bool a,.bool b=>(match op with|.eql=>some (.bool (a==b))|.neq=>some (.bool (!(a==b)))|_=>none)
 |some false,.nilFunc,.nilFunc=>(match op with|.eql=>some (.bool true)|.neq=>some (.bool false)|_=>none)
 |some false,.func _ _ _,.nilFunc=>(match op with|.eql=>some (.bool false)|.neq=>some (.bool true)|_=>none)
 |_,_,_=>none
def intsL {τ:Type}:List (AL τ)→Option (List Int)
 |[]=>some []
 |.v (.int .i64 x)::r=>(match intsL r with|some xs=>some (x::xs)|none=>none)
 |_=>none
def eqL:List Int→List Int→Bool
 |x::xs,y::ys=>x==y&&eqL xs ys
 |_,_=>true
def lightA (T:TabA)(s:AS D)(o:Oper)(κ:TV D.τ→Option X):Option X:=
 match o.op with
 |.move x|.assign x=>match evA s.fr x with|some v=>κ v|none=>none
 |.nilCheck x=>match evA s.fr x with|some (.l (.p t k sz f))=>κ (.l (.p t k sz f))|_=>none
 |.fieldAddr sT x f=>match evA s.fr x with
  |some (.l (.p t k sz f0))=>(match T.off sT f with|some off=>κ (.l (.p t k sz (f0+off)))|none=>none)
  |_=>none
 |.binOp op t x y _=>match evA s.fr x with
  |some (.l (.v (.int k a)))=>(match evA s.fr y with
   |some (.l (.v (.int k' b)))=>(match binI op k k' a b with|some v=>κ (.l (.v v))|none=>none)
   |_=>none)
  |some (.l (.v u))=>(match evA s.fr y with
   |some (.l (.v v))=>(match binV T op t u v with|some v=>κ (.l (.v v))|none=>none)
   |_=>none)
  |some (.agg us)=>(match evA s.fr y with
   |some (.agg vs)=>(match T.es t,intsL us,intsL vs with
    |some n,some xs,some ys=>bif Nat.beq xs.length n&&Nat.beq ys.length n then (match op with
     |.eql=>κ (.l (.v (.bool (eqL xs ys))))
     |.neq=>κ (.l (.v (.bool (!(eqL xs ys)))))
     |_=>none) else none
    |_,_,_=>none)
   |_=>none)
  |_=>none
 |.unOp .not _ x=>match evA s.fr x with|some (.l (.v (.bool b)))=>κ (.l (.v (.bool !b)))|_=>none
 |.pick c x y=>match evA s.fr c with
  |some (.l (.v (.bool b)))=>cond b (match evA s.fr x with|some v=>κ v|none=>none) (match evA s.fr y with|some v=>κ v|none=>none)
  |_=>none
 |.extract x i=>match evA s.fr x with
  |some (.tup vs)=>(match vs[i]? with|some (.inl a)=>κ (.l a)|some (.inr xs)=>κ (.agg xs)|none=>none)
  |_=>none
 |.load t x=>match evA s.fr x with
  |some (.l (.p tg k sz f))=>bif T.sca.contains t then s.rd tg k sz f 1 (fun as=>match as with|[a]=>κ (.l a)|_=>none)
    else (match T.ag t with|some n=>s.rd tg k sz f n (fun as=>κ (.agg as))|none=>none)
  |_=>none
 |.indexAddr t x i=>match evA s.fr x with
  |some (.l (.sl tg k sz n))=>(match evA s.fr i,T.sl t with
   |some (.l (.v (.int _ j))),some (_,size,_)=>bif Nat.beq sz size then s.ln tg sz (fun m=>if k+n≤m∧0≤j∧j<n then κ (.l (.p tg (k+j.toNat) sz 0)) else none) else none
   |_,_=>none)
  |some (.l (.p tg k sz f))=>(match evA s.fr i,T.ar t with
   |some (.l (.v (.int _ j))),some len=>bif Nat.beq k 0&&Nat.beq sz 1 then (if 0≤j∧j<len then κ (.l (.p tg j.toNat 1 f)) else none) else none
   |_,_=>none)
  |_=>none
 |.slice t x lo hi none=>match evA s.fr x with
  |some (.l (.sl tg k sz n))=>(match bnd s.fr 0 lo,bnd s.fr n hi,T.sl t with
   |some l,some h,some (_,size,_)=>bif Nat.beq k 0&&Nat.beq sz size then s.ln tg sz (fun m=>if n≤m∧0≤l∧l≤h∧h≤n then κ (.l (.sl tg l.toNat sz (h - l).toNat)) else none) else none
   |_,_,_=>none)
  |_=>none
 |.call c=>match c.callee with
  |.builtin .len=>(match c.args.toList,c.argTypes.toList with
   |[x],[t]=>(match T.sl t,evA s.fr x with
    |some _,some (.l (.sl _ _ _ n))=>κ (.l (.v (.int .i64 n)))
    |some _,some (.l (.v (.slice none 0 0)))=>κ (.l (.v (.int .i64 0)))
    |_,_=>none)
   |_,_=>none)
  |_=>none
 |.build t parts=>match T.bl t,T.ze t with
  |some offs,some zc=>(match partsA s.fr offs parts.toList with
   |some ps=>bif ps.all (fun p=>Nat.ble (p.1+p.2.length) zc.length&&p.2.all oneC) then κ (.agg (setAll (zc.map .v) ps)) else none
   |none=>none)
  |_,_=>none
 |.makeInterface t x=>match evA s.fr x with
  |some (.agg xs)=>bif T.ifc.contains t&&xs.all isV then κ (.l (.v (.iface t (.agg (xs.map fun|.v u=>u|_=>undef).toArray)))) else none
  |_=>none
 |.lookup t x k false=>match evA s.fr x with
  |some (.l (.v v))=>(match evA s.fr k with
   |some (.l (.v (.int .i64 i)))=>bif T.mp.contains t then D.lk s.st v i fun r=>κ (.l r) else none
   |_=>none)
  |_=>none
 |_=>none
variable {P:Program} {T:TabA} {n:Nat} {ds:List Deferred}
theorem run_slice0 {t e:TypeId}{size:Nat}(h:elemSize P t e size=true)(A:Option Addr)(n cap:Nat)(lo hi:Option Value)(l h':Int)(hlo:lo=none∧l=0∨∃k,lo=some (.int k l))(hhi:hi=none∧h'=n∨∃k,hi=some (.int k h'))(h0:0≤l)(h1:l≤h')(h2:h'≤n)(hc:n≤cap)(w:World):
  (Instr.sliceAt t (.slice A n cap) lo hi none).run P w=.ok (.slice (if cap=l.toNat then A else A.map (·.add (l.toNat*size))) (h' - l).toNat (cap - l.toNat)) w:=by
 unfold elemSize at h
 split at h
 ·rename_i e' hu
  simp only[Bool.and_eq_true,beq_iff_eq] at h;obtain⟨rfl,h3⟩:=h
  split at h3
  ·rename_i inf hinf
   have hsz:inf.size=size:=by simpa using h3
   have e1:(h' - l).toNat=h'.toNat - l.toNat:=by omega
   have g1:(h':Int)≤cap:=by omega
   have g2:0≤h':=by omega
   have g3:max h' 0=h':=by omega
   rcases hhi with ⟨rfl,hh⟩|⟨k2,rfl⟩
   ·have e2:h'.toNat=n:=by omega
    have g4:l≤(n:Int):=by omega
    rcases hlo with ⟨rfl,rfl⟩|⟨k,rfl⟩<;>simp [Instr.sliceAt,Instr.slice,Instr.sliceBounds,Instr.sliceBound,asIntOf,run_underlying hu,sizeOf,typeInfo,hinf,program,Sem.run,hsz,h0,e1,e2,g4]
   ·rcases hlo with ⟨rfl,rfl⟩|⟨k,rfl⟩<;>simp [Instr.sliceAt,Instr.slice,Instr.sliceBounds,Instr.sliceBound,asIntOf,run_underlying hu,sizeOf,typeInfo,hinf,program,Sem.run,hsz,h0,h1,e1,g1,g2,g3]
  ·cases h3
 ·cases h
theorem oneC_cells (S:Sto (Tg D.τ)){a:AL D.τ}(h:oneC a=true):(encL S a).cells=#[encL S a]:=by
 cases a with
 |v x=>exact cells_one h
 |p t k sz f=>rfl
 |sl t k sz n=>rfl
theorem cells_enc (S:Sto (Tg D.τ)){a:AL D.τ}(h:isV a=true∨∃t k sz f,a=.p t k sz f):(encL S a).cells=#[encL S a]:=by
 rcases h with h|⟨t,k,sz,f,rfl⟩
 ·cases a with
  |v x=>exact cells_one h
  |p t k sz f=>cases h
  |sl t k sz n=>cases h
 ·rfl
theorem foldl_setN {τ:Type}(S:Sto (Tg τ))(off:Nat):∀(as cs:List (AL τ)) (k:Nat),((as.map (encL S)).zipIdx k).foldl (fun (cs:Array Value) x=>match x with|(c,j)=>cs.setIfInBounds (off+j) c) (cs.map (encL S)).toArray=((setN cs (off+k) as).map (encL S)).toArray
 |[],cs,k=>by simp[setN]
 |a::as,cs,k=>by
  simp only[List.map_cons,List.zipIdx_cons,List.foldl_cons,setN];have ih:=foldl_setN S off as (cs.set (off+k) a) (k+1);rw[show off+(k+1)=off+k+1 from rfl] at ih;rw[←ih]
  congr 1
  simp[List.map_set]
theorem cells_parts (S:Sto (Tg D.τ)){v:TV D.τ}{cs:List (AL D.τ)}(h:cellsOf v=some cs)(h1:cs.all oneC=true):(encT S v).cells=(cs.map (encL S)).toArray:=by
 cases v with
 |l a=>
  simp only[cellsOf,Option.some.injEq] at h;subst h;simp only[List.all_cons,List.all_nil,Bool.and_true] at h1;exact oneC_cells S h1
 |agg xs=>
  simp only[cellsOf,Option.some.injEq] at h;subst h;rfl
 |tup xs=>cases h
 |x=>cases h
theorem fillA (S:Sto (Tg D.τ))(place:Nat→Option (Nat×Nat))(fr:AFr D.τ)(offs:List (Nat×Nat))(hp:∀i q,offs[i]?=some q→place i=some q){a:Act}(hF:FrmA n ds a S fr):∀(parts:List (Nat×Operand)) (ps:List (Nat×List (AL D.τ))) (cs:List (AL D.τ)),partsA fr offs parts=some ps→(∀p∈ps,p.1+p.2.length≤cs.length∧p.2.all oneC=true)→
   Instr.fill place (cs.map (encL S)).toArray (parts.map fun p=>(p.1,a.eval p.2))=some ((setAll cs ps).map (encL S)).toArray
 |[],ps,cs,h,_=>by simp[partsA] at h;subst h;simp[Instr.fill,setAll]
 |(i,x)::r,ps,cs,h,h1=>by
  simp only[partsA] at h
  split at h
  ·rename_i v hv
   split at h
   ·rename_i as has
    split at h
    ·rename_i q hoff
     cases hb:Nat.beq q.2 as.length with
     |false=>rw[hb] at h;cases h
     |true=>
      rw[hb] at h;simp only[cond_true] at h;have hq:=Nat.eq_of_beq_eq_true hb
      split at h
      ·rename_i qs hqs
       simp only[Option.some.injEq] at h;subst h;obtain⟨k1,k2⟩:=h1 _ (List.mem_cons_self ..)
       simp only at k1 k2
       have hc:=cells_parts S has k2;obtain⟨off,size⟩:=q
       simp only at hq k1 k2
       subst hq;simp only[List.map_cons,Instr.fill,hp i _ hoff,hF.eval hv,hc]
       have ih:=fillA S place fr offs hp hF r qs (setN cs off as) hqs (fun p hp=>by
        have:=h1 p (List.mem_cons_of_mem _ hp);rw[setN_length]
        exact this)
       rw[if_neg (by simp;omega)];simp only[setAll];rw[←ih]
       congr 1
       have:=foldl_setN S off as cs 0;rw[Nat.add_zero] at this;rw[←this];simp[←Array.foldl_toList]
      ·cases h
    ·cases h
   ·cases h
  ·cases h
theorem run_buildA {t:Nat}{offs:List (Nat×Nat)}{zc:List Value}(hT:T.Ok P)(hb:T.bl t=some offs)(hz:T.ze t=some zc){S:Sto (Tg D.τ)}{a:Act}{fr:AFr D.τ}(hF:FrmA n ds a S fr){parts:Array (Nat×Operand)}{ps:List (Nat×List (AL D.τ))}(hp:partsA fr offs parts.toList=some ps)(h1:∀p∈ps,p.1+p.2.length≤zc.length∧p.2.all oneC=true)(w:World):
  (Instr.build t (parts.map fun (i,x)=>(i,a.eval x))).run P w=.ok (.agg ((setAll (zc.map .v) ps).map (encL S)).toArray) w:=by
 obtain⟨i,z,hi,hzz,hzc⟩:=hT.zeOk hz;have hpl:=hT.blOk hb
 have hzcells:z.cells=zc.toArray:=by rw[←hzc]
 have hmap:((zc.map .v:List (AL D.τ)).map (encL S))=zc:=by simp[Function.comp_def,encL]
 have hparts:(parts.map fun (i,x)=>(i,a.eval x)).toList=parts.toList.map fun p=>(p.1,a.eval p.2):=by simp
 refine run_build w t _ _ ?_
 rw[hparts];unfold placesOk at hpl
 split at hpl
 ·rename_i fields hu
  have hpl':fields.toList.mapM (fun f=>(P.info? f.type).map fun i=>(f.offset,i.size))=some offs:=by simpa using hpl
  have hfill:=fillA (D:=D) S (fun i=>(offs.toArray)[i]?) fr offs (fun i off ho=>by simp[ho]) hF parts.toList ps (zc.map .v) hp (by simpa using h1);rw[hmap] at hfill;simp only[Program.built,hi,hu,hzz,hpl',hzcells];exact hfill
 ·rename_i m e hu
  simp only[Bool.and_eq_true] at hpl;obtain⟨h2,h3⟩:=hpl
  split at h3
  ·rename_i ie hie
   have hs:ie.size=1:=by simpa using h3
   have hof:(List.range m).map (fun i=>(i,1))=offs:=by simpa using h2
   have hfill:=fillA (D:=D) S (fun i=>some (i*ie.size,ie.size)) fr offs (fun i off ho=>by
    rw[←hof] at ho;obtain⟨hlt,he⟩:=List.getElem?_eq_some_iff.1 ho
    simp at he
    rw[hs,←he,Nat.mul_one]) hF parts.toList ps (zc.map .v) hp (by simpa using h1)
   rw[hmap] at hfill;simp only[Program.built,hi,hu,hzz,hie,hzcells];exact hfill
  ·cases h3
 ·cases hpl
theorem enc_sl {S:Sto (Tg D.τ)}{tg:Tg D.τ}(k sz n:Nat)(hn:(S.loc tg).nil=false)(hc:k<(S.loc tg).cap):encL S (.sl tg k sz n)=.slice (some ⟨(S.loc tg).b,(S.loc tg).off+k*sz,none⟩) n ((S.loc tg).cap - k):=by
 have:¬(S.loc tg).cap=k:=by omega
 simp[encL,SL.later,this,SL.val,SL.addr,hn]
theorem bnd_ok {S:Sto (Tg D.τ)}{a:Act}{fr:AFr D.τ}(hF:FrmA n ds a S fr){d l:Int}{lo:Option Operand}(h:bnd fr d lo=some l):lo.map a.eval=none∧l=d∨∃k,lo.map a.eval=some (.int k l):=by
 cases lo with
 |none=>simp[bnd] at h;exact .inl ⟨rfl,h.symm⟩
 |some x=>
  simp only[bnd,intOf] at h
  split at h
  ·rename_i k m hm
   simp only[Option.some.injEq] at h;subst h;exact .inr ⟨k,by simp[hF.eval hm,encT,encL]⟩
  ·cases h
def readTag (s:AS D)(o:Oper):Option (Option (Tg D.τ)):=match o.op with
 |.load _ x=>(match evA s.fr x with|some (.l (.p tg _ _ _))=>some (some tg)|_=>none)
 |.lookup _ _ _ _=>some none
 |_=>none
def SameAt (S:Sto (Tg D.τ))(w w':World):Option (Option (Tg D.τ))→Prop
 |none=>True
 |some none=>∀(es:Array MapEntry) (cl:Nat),w.heap[(S.loc (.m D.mp)).b]?=some (Obj.map es cl)→w'.heap[(S.loc (.m D.mp)).b]?=some (Obj.map es cl)
 |some (some tg)=>(S.own (S.loc tg).b=some tg∨S.own (S.loc tg).b=none)→(S.loc tg).b<w.heap.size→w'.heap[(S.loc tg).b]?=w.heap[(S.loc tg).b]?
theorem cell_heap {w w':World}{b:Nat}(h:w'.heap[b]?=w.heap[b]?)(off:Nat):w'.cell? ⟨b,off,none⟩=w.cell? ⟨b,off,none⟩:=by
 unfold World.cell?;rw[h]
theorem binV_run (hT:T.Ok P){op:BinOp}{t:Nat}{x y:Operand}{u v r:Value}(h:binV T op t u v=some r)(w:World):(eqGuard op t x y u v).run P w=.ok () w∧(binOp op t u v).run P w=.ok r w:=by
 unfold binV at h
 split at h
 ·rename_i a b hc
  have h1:=hT.cmOk hc;unfold Beat.cmOk at h1
  split at h1
  ·rename_i hu
   have e:=run_equal_bool w t a b hu
   cases op<;>simp at h<;>subst h<;>simp [eqGuard,binOp,e]
  ·simp at h1
  ·cases h1
 ·rename_i hc
  have h1:=hT.cmOk hc;unfold Beat.cmOk at h1
  split at h1
  ·simp at h1
  ·rename_i hu
   have e:(Op.equal t .nilFunc .nilFunc).run P w=.ok true w:=by
    rw[Op.equal,show Op.maxDepth=9999+1 from rfl,Op.equalIn];simp[run_underlying hu]
   cases op<;>simp at h<;>subst h<;>simp [eqGuard,binOp,e]
  ·cases h1
 ·rename_i f p q hc
  have h1:=hT.cmOk hc;unfold Beat.cmOk at h1
  split at h1
  ·simp at h1
  ·rename_i hu
   have e:(Op.equal t (.func f p q) .nilFunc).run P w=.ok false w:=by
    rw[Op.equal,show Op.maxDepth=9999+1 from rfl,Op.equalIn];simp[run_underlying hu]
   cases op<;>simp at h<;>subst h<;>simp [eqGuard,binOp,e]
  ·cases h1
 ·cases h
theorem findNow_at {i:Int}:∀(es:List MapEntry) (n:Nat),(∀e∈es,∃k:Int,e.key=.int .i64 k)→
  (∃j e,es[j]?=some e∧e.key=.int .i64 i∧Instr.findNow (.int .i64) (.int .i64 i) es n=some (some (n+j,e.val)))∨((∀e∈es,e.key≠.int .i64 i)∧Instr.findNow (.int .i64) (.int .i64 i) es n=some none)
 |[],n,_=>.inr ⟨(fun _ h=>by cases h),rfl⟩
 |e::es,n,h=>by
  obtain⟨k,hk⟩:=h e (List.mem_cons_self ..)
  by_cases hki:i=k
  ·subst hki
   exact .inl ⟨0,e,rfl,hk,by simp[Instr.findNow,hk,Instr.sameNow]⟩
  ·have hs:Instr.findNow (.int .i64) (.int .i64 i) (e::es) n=Instr.findNow (.int .i64) (.int .i64 i) es (n+1):=by
    have e1:(i==k)=false:=by simp[hki]
    simp only[Instr.findNow,hk,Instr.sameNow,if_true,e1]
   rw[hs]
   rcases findNow_at es (n+1) (fun e he=>h e (List.mem_cons_of_mem _ he)) with ⟨j,e',h1,h2,h3⟩|⟨h1,h2⟩
   ·exact .inl ⟨j+1,e',by simpa using h1,h2,by rw[h3];congr 3;omega⟩
   ·refine .inr ⟨fun e' he'=>?_,h2⟩
    rcases List.mem_cons.1 he' with rfl|he'
    ·rw[hk]
     intro e
     injection e with _ e
     exact hki e.symm
    ·exact h1 e' he'
theorem run_checkKey_int {k:TypeId}(hk:P.underlying k=some (.int .i64))(b:Bool)(n:Nat)(i:Int)(w:World):(Instr.checkKey b (n+1) k (.int .i64 i)).run P w=.ok () w:=by
 simp[Instr.checkKey,run_underlying hk]
theorem run_findKey_int {k:TypeId}(hk:P.underlying k=some (.int .i64)){i:Int}{es:List MapEntry}{r:Option (Nat×Value)}(h:Instr.findNow (.int .i64) (.int .i64 i) es 0=some r)(w:World):(Instr.findKey k (.int .i64 i) es).run P w=.ok r w:=by
 simp[Instr.findKey,run_underlying hk,h]
theorem run_lookupA (hT:T.Ok P){t b:Nat}(ht:T.mp.contains t=true){i:Int}{r:AL D.τ}{S:Sto (Tg D.τ)}{w:World}(h:LkAt S w b i r D.mp):(Instr.lookup t (.map (some b)) (.int .i64 i) false).run P w=.ok (encL S r) w:=by
 have h1:=List.all_eq_true.1 hT.mp t (by simpa using ht);unfold mpOk at h1
 split at h1
 ·rename_i k e hu
  simp only[Bool.and_eq_true] at h1;obtain⟨h2,h3⟩:=h1
  split at h2
  ·rename_i hk
   obtain⟨es,cl,g1,g2,g3,g4⟩:=h.at_
   have hget:(getObj b).run P w=.ok (.map es cl) w:=by simp[getObj,Sem.run,g1]
   have hck:∀b,(Instr.checkKey b 10000 k (.int .i64 i)).run P w=.ok () w:=fun b=>run_checkKey_int hk b 9999 i w
   rcases findNow_at (i:=i) es.toList 0 g2 with ⟨j,e',f1,f2,f3⟩|⟨f1,f2⟩
   ·have hf:=run_findKey_int (P:=P) hk f3 w
    simp[Instr.lookup,run_underlying hu,hget,hck,hf,g3 e' (List.mem_of_getElem? f1) f2]
   ·have hf:=run_findKey_int (P:=P) hk f2 w
    have hz:(zeroValue e).run P w=.ok (.slice none 0 0) w:=by
     split at h3
     ·split at h3
      ·rename_i inf hinf
       split at h3
       ·rename_i hz
        simp[zeroValue,typeInfo,hinf,hz,program,Sem.run]
       ·cases h3
      ·cases h3
     ·cases h3
    simp[Instr.lookup,run_underlying hu,hget,hck,hf,hz,g4 f1]
  ·cases h2
 ·cases h1
theorem intsL_eq {τ:Type}:∀{us:List (AL τ)} {xs:List Int},intsL us=some xs→us=xs.map fun x=>.v (.int .i64 x)
 |[],xs,h=>by simp only[intsL,Option.some.injEq] at h;subst h;rfl
 |a::r,xs,h=>by
  unfold intsL at h
  split at h
  ·rename_i e
   cases e
  ·rename_i x r' e
   injection e with e1 e2
   subst e1 e2
   split at h
   ·rename_i ys hys
    simp only[Option.some.injEq] at h;subst h;rw[intsL_eq hys];rfl
   ·cases h
  ·cases h
theorem run_part1 {t:TypeId}{xs:Array Value}{i:Nat}{v:Value}(hk:P.underlying t=some (.int .i64))(hv:xs[i]?=some v)(w:World):(part t xs i).run P w=.ok v w:=by
 obtain⟨hlt,hv'⟩:=Array.getElem?_eq_some_iff.1 hv;simp[part,isAgg,run_underlying hk,hlt,hv']
theorem run_eqFs {d:Nat}:∀(fs:List Field) (i:Nat) (us vs xs ys:List Int),eqFs P i fs=true→fs.length=xs.length→fs.length=ys.length→us.drop i=xs→vs.drop i=ys→∀w,
  (Op.eqFields (d+1) (us.map fun x=>(.int .i64 x:Value)).toArray (vs.map fun x=>(.int .i64 x:Value)).toArray fs).run P w=.ok (eqL xs ys) w
 |[],i,us,vs,xs,ys,_,h1,h2,_,_,w=>by
  have e1:=List.eq_nil_of_length_eq_zero h1.symm;subst e1;simp[Op.eqFields,eqL]
 |f::fs,i,us,vs,xs,ys,h,h1,h2,h3,h4,w=>by
  simp only[eqFs,Bool.and_eq_true,Bool.not_eq_true',beq_iff_eq] at h;obtain⟨⟨⟨⟨a1,a2⟩,a3⟩,a4⟩,a5⟩:=h
  cases xs with
  |nil=>simp at h1
  |cons x xs=>
   cases ys with
   |nil=>simp at h2
   |cons y ys=>
    have hu:us[i]?=some x:=by rw[←List.head?_drop,h3];rfl
    have hv:vs[i]?=some y:=by rw[←List.head?_drop,h4];rfl
    split at a3
    ·rename_i hk
     split at a4
     ·rename_i q hq
      have hq1:q.size=1:=by simpa using a4
      have p1:=run_part1 (P:=P) (xs:=(us.map fun x=>(.int .i64 x:Value)).toArray) (i:=f.offset) hk (v:=.int .i64 x) (by rw[a2];simp[hu]) w;have p2:=run_part1 (P:=P) (xs:=(vs.map fun x=>(.int .i64 x:Value)).toArray) (i:=f.offset) hk (v:=.int .i64 y) (by rw[a2];simp[hv]) w;have ih:=run_eqFs (d:=d) fs (i+1) us vs xs ys a5 (by simpa using h1) (by simpa using h2) (by rw[←List.tail_drop,h3];rfl) (by rw[←List.tail_drop,h4];rfl) w
      have hn:f.name≠ "_" :=by simpa using a1
      rw[Op.eqFields];simp only[if_pos hn,Sem.run_bind,p1,p2,Result.andThen_ok,run_equalIn_int w d f.type .i64 .i64 x y hk]
      cases hxy:(x==y) with
      |true=>simp only[Bool.not_true,Bool.false_eq_true,if_false,ih,eqL,hxy,Bool.true_and]
      |false=>simp only[Bool.not_false,if_true,eqL,hxy,Bool.false_and,Sem.run_pure]
     ·cases a4
    ·cases a3
theorem run_eqStruct (hT:T.Ok P){t n:Nat}{x0 y0:Operand}(ht:T.es t=some n){xs ys:List Int}(h1:xs.length=n)(h2:ys.length=n)(w:World):
  (∀op,(eqGuard op t x0 y0 (.agg (xs.map fun x=>(.int .i64 x:Value)).toArray) (.agg (ys.map fun x=>(.int .i64 x:Value)).toArray)).run P w=.ok () w)∧
  (binOp .eql t (.agg (xs.map fun x=>(.int .i64 x:Value)).toArray) (.agg (ys.map fun x=>(.int .i64 x:Value)).toArray)).run P w=.ok (.bool (eqL xs ys)) w∧
  (binOp .neq t (.agg (xs.map fun x=>(.int .i64 x:Value)).toArray) (.agg (ys.map fun x=>(.int .i64 x:Value)).toArray)).run P w=.ok (.bool (!(eqL xs ys))) w:=by
 have h:=List.all_eq_true.1 hT.eqs _ (find_fst ht);simp only[esOk,Bool.and_eq_true,Bool.not_eq_true'] at h;obtain⟨⟨g1,g2⟩,g3⟩:=h
 split at g3
 ·rename_i fs hu
  simp only[Bool.and_eq_true,beq_iff_eq] at g3;obtain⟨g3,g4⟩:=g3
  have hf:P.fieldsOf t=fs:=by simp[Program.fieldsOf,hu]
  have e:(Op.equalIn 10000 t (.agg (xs.map fun x=>(.int .i64 x:Value)).toArray) (.agg (ys.map fun x=>(.int .i64 x:Value)).toArray)).run P w=.ok (eqL xs ys) w:=by
   rw[show (10000:Nat)=9999+1 from rfl,run_equalIn_struct (P:=P) w 9999 t _ _ (by rw[hf];exact hu) g1,hf];exact run_eqFs (d:=9998) fs.toList 0 xs ys xs ys g4 (by simp;omega) (by simp;omega) rfl rfl w
  refine⟨fun op=>run_eqGuard_agg w op t x0 y0 _ _ g2,?_,?_⟩
  ·rw[run_eql_struct,e];rfl
  ·rw[run_neq_struct,e];rfl
 ·cases g3
theorem lightA_ok (hT:T.Ok P)(O:MdOk D){o:Oper}{κ:TV D.τ→Option X}{x:X}(h:lightA T s o κ=some x):
  ∃r,κ r=some x∧∀(S:Sto (Tg D.τ)) (a:Act) (w:World),FrmA n ds a S s.fr→Rel B s.st s.L s.dk S w→∀w',SameAt S w w' (readTag s o)→(execOp a.eval o).run P w'=.ok (.value (encT S r)) w':=by
 obtain⟨dst,op,type,pos,after,guard⟩:=o
 cases op
 case move x0=>
  simp only[lightA] at h
  split at h
  ·rename_i v hv
   exact⟨v,h,fun S a w hF _ w' _=>by simp[execOp,hF.eval hv]⟩
  ·cases h
 case assign x0=>
  simp only[lightA] at h
  split at h
  ·rename_i v hv
   exact⟨v,h,fun S a w hF _ w' _=>by simp[execOp,hF.eval hv]⟩
  ·cases h
 case nilCheck x0=>
  simp only[lightA] at h
  split at h
  ·rename_i t k sz f hv
   exact⟨_,h,fun S a w hF _ w' _=>by simp[execOp,hF.eval hv,encT,encL]⟩
  ·cases h
 case fieldAddr sT x0 f=>
  simp only[lightA] at h
  split at h
  ·rename_i t k sz f0 hv
   split at h
   ·rename_i off ho
    refine⟨_,h,fun S a w hF _ w' _=>?_⟩;have:=run_fieldAt (Tab.ok_off hT.base ho) (S.loc t).b ((S.loc t).off+k*sz+f0) w';simp only[execOp,hF.eval hv,encT,encL,Sem.run_bind,this,Result.andThen_ok];simp[Nat.add_assoc]
   ·cases h
  ·cases h
 case binOp op t x0 y0 yt=>
  simp only[lightA] at h
  split at h
  ·rename_i k i hx
   split at h
   ·rename_i k' j hy
    split at h
    ·rename_i v hv
     refine⟨_,h,fun S a w hF _ w' _=>?_⟩;simp[execOp,hF.eval hx,hF.eval hy,encT,encL,eqGuard_int,binI_run hv]
    ·cases h
   ·cases h
  ·rename_i u _ hx
   split at h
   ·rename_i v hy
    split at h
    ·rename_i r hv
     refine⟨_,h,fun S a w hF _ w' _=>?_⟩;obtain⟨e1,e2⟩:=binV_run (x:=x0) (y:=y0) hT hv w';simp[execOp,hF.eval hx,hF.eval hy,encT,encL,e1,e2]
    ·cases h
   ·cases h
  ·rename_i us hx
   split at h
   ·rename_i vs hy
    split at h
    ·rename_i m xs ys ht hus hvs
     cases hb:(Nat.beq xs.length m&&Nat.beq ys.length m) with
     |false=>rw[hb] at h;cases h
     |true=>
      rw[hb] at h;simp only[cond_true] at h;simp only[Bool.and_eq_true,Nat.beq_eq] at hb
      have eu:∀S:Sto (Tg D.τ),encT S (.agg us)=.agg (xs.map fun x=>(.int .i64 x:Value)).toArray:=fun S=>by rw[intsL_eq hus];simp[encT,encL,Function.comp_def]
      have ev:∀S:Sto (Tg D.τ),encT S (.agg vs)=.agg (ys.map fun x=>(.int .i64 x:Value)).toArray:=fun S=>by rw[intsL_eq hvs];simp[encT,encL,Function.comp_def]
      split at h
      ·refine⟨_,h,fun S a w hF _ w' _=>?_⟩
       obtain⟨e0,e1,e2⟩:=run_eqStruct (x0:=x0) (y0:=y0) hT ht hb.1 hb.2 w';have hxv:=(hF.eval hx).trans (eu S);have hyv:=(hF.eval hy).trans (ev S);simp[execOp,hxv,hyv,e0,e1,encT,encL]
      ·refine⟨_,h,fun S a w hF _ w' _=>?_⟩
       obtain⟨e0,e1,e2⟩:=run_eqStruct (x0:=x0) (y0:=y0) hT ht hb.1 hb.2 w';have hxv:=(hF.eval hx).trans (eu S);have hyv:=(hF.eval hy).trans (ev S);simp[execOp,hxv,hyv,e0,e2,encT,encL]
      ·cases h
    ·cases h
   ·cases h
  ·cases h
 case unOp op t x0=>
  cases op
  case not=>
   simp only[lightA] at h
   split at h
   ·rename_i b hx
    exact⟨_,h,fun S a w hF _ w' _=>by simp[execOp,hF.eval hx,encT,encL,Op.unary]⟩
   ·cases h
  all_goals (simp[lightA] at h)
 case pick c x0 y0=>
  simp only[lightA] at h
  split at h
  ·rename_i b hc
   cases b with
   |true=>
    simp only[cond_true] at h
    split at h
    ·rename_i v hv
     exact⟨v,h,fun S a w hF _ w' _=>by simp[execOp,hF.eval hc,hF.eval hv,encT,encL,asBool]⟩
    ·cases h
   |false=>
    simp only[cond_false] at h
    split at h
    ·rename_i v hv
     exact⟨v,h,fun S a w hF _ w' _=>by simp[execOp,hF.eval hc,hF.eval hv,encT,encL,asBool]⟩
    ·cases h
  ·cases h
 case extract x0 i=>
  simp only[lightA] at h
  split at h
  ·rename_i vs hx
   split at h
   ·rename_i a0 hi
    exact⟨_,h,fun S a w hF _ w' _=>by simp[execOp,hF.eval hx,encT,encE,Instr.extract,hi]⟩
   ·rename_i xs hi
    exact⟨_,h,fun S a w hF _ w' _=>by simp[execOp,hF.eval hx,encT,encE,Instr.extract,hi]⟩
   ·cases h
  ·cases h
 case load t x0=>
  simp only[lightA] at h
  split at h
  ·rename_i tg k sz f hx
   cases hb:T.sca.contains t with
   |true=>
    rw[hb] at h;simp only[cond_true] at h;obtain⟨as,h1,h2,h3⟩:=AS.rd_ok (B:=B) O h
    split at h1
    ·rename_i a0
     refine⟨_,h1,fun S a w hF R w' hsm=>?_⟩;obtain⟨hc,hown⟩:=h3 S w R 0 a0 rfl;simp only[Nat.add_zero] at hc;simp only[readTag,hx] at hsm;rw[←cell_heap (hsm hown (World.block_lt_of_cell? w _ hc))] at hc;simp[execOp,hF.eval hx,encT,encL,Instr.loadAt,Instr.sureAddr,run_loadVar_sca (Tab.ok_sca hT.base hb) hc]
    ·cases h1
   |false=>
    rw[hb] at h;simp only[cond_false] at h
    split at h
    ·rename_i m hm
     obtain⟨as,h1,h2,h3⟩:=AS.rd_ok (B:=B) O h;refine⟨_,h1,fun S a w hF R w' hsm=>?_⟩;have hag:=hT.agOk hm
     have hl:=run_loadVar_agg (P:=P) (t:=t) (vs:=as.map (encL S)) (a:=⟨(S.loc tg).b,(S.loc tg).off+k*sz+f,none⟩) (w:=w') (by rw[List.length_map,h2];exact hag) (fun j u hu=>by
      simp only[List.getElem?_map,Option.map_eq_some_iff] at hu;obtain⟨a0,ha0,rfl⟩:=hu;rw[Addr.add_lit];simp only[readTag,hx] at hsm;obtain⟨hc,hown⟩:=h3 S w R j a0 ha0;rw[cell_heap (hsm hown (World.block_lt_of_cell? w _ hc))]
      exact hc)
     simp[execOp,hF.eval hx,encT,encL,Instr.loadAt,Instr.sureAddr,hl]
    ·cases h
  ·cases h
 case indexAddr t x0 i0=>
  simp only[lightA] at h
  split at h
  ·rename_i tg k sz m hx
   split at h
   ·rename_i ik j e size bytes hi hsl
    cases hb:Nat.beq sz size with
    |false=>rw[hb] at h;cases h
    |true=>
     rw[hb] at h;simp only[cond_true] at h;simp only[Nat.beq_eq] at hb;subst hb;obtain⟨_,hel,hpos⟩:=hT.slOk hsl;obtain⟨q,h1,h2⟩:=AS.ln_ok (B:=B) O hpos h
     split at h1
     ·rename_i hc
      obtain⟨hc1,hc2,hc3⟩:=hc;refine⟨_,h1,fun S a w hF R w' hsm=>?_⟩;obtain⟨h3,h4⟩:=h2 S w R;have hn:=h3 (by omega);have hr:=run_index (P:=P) hel ik (S.loc tg).b ((S.loc tg).off+k*sz) m ((S.loc tg).cap - k) j hc2 hc3 w';have he:=enc_sl (S:=S) (tg:=tg) k sz m hn (by omega);have e1:encT S (.l (.sl tg k sz m))=encL S (.sl tg k sz m):=rfl;have e2:encT S (.l (.v (.int ik j)))=(.int ik j:Value):=rfl;simp only[execOp,hF.eval hx,hF.eval hi,e1,e2,he,Sem.run_bind,hr,Result.andThen_ok];simp[encT,encL,Nat.add_mul,Nat.add_assoc]
     ·cases h1
   ·cases h
  ·rename_i tg k sz f hx
   split at h
   ·rename_i ik j len hi har
    cases hb:(Nat.beq k 0&&Nat.beq sz 1) with
    |false=>rw[hb] at h;cases h
    |true=>
     rw[hb] at h;simp only[cond_true] at h;simp only[Bool.and_eq_true,Nat.beq_eq] at hb;obtain⟨rfl,rfl⟩:=hb
     split at h
     ·rename_i hc
      refine⟨_,h,fun S a w hF R w' hsm=>?_⟩;have ho:=hT.arOk har;unfold Beat.arOk at ho
      simp only at ho
      split at ho
      ·rename_i len' e hu
       simp only[Bool.and_eq_true,beq_iff_eq] at ho;obtain⟨rfl,ho2⟩:=ho
       split at ho2
       ·rename_i inf hinf
        have hs:inf.size=1:=by simpa using ho2
        simp[execOp,hF.eval hx,hF.eval hi,encT,encL,Instr.indexAt,asIntOf,run_underlying hu,Instr.sureAddr,sizeOf,typeInfo,hinf,hc.1,hc.2,program,Sem.run,Addr.add_lit,hs];omega
       ·cases ho2
      ·cases ho
     ·cases h
   ·cases h
  ·cases h
 case slice t x0 lo hi mx=>
  cases mx with
  |some _=>simp[lightA] at h
  |none=>
   simp only[lightA] at h
   split at h
   ·rename_i tg k sz m hx
    split at h
    ·rename_i l hh e size bytes hlo hhi hsl
     cases hb:(Nat.beq k 0&&Nat.beq sz size) with
     |false=>rw[hb] at h;cases h
     |true=>
      rw[hb] at h;simp only[cond_true] at h;simp only[Bool.and_eq_true,Nat.beq_eq] at hb;obtain⟨rfl,rfl⟩:=hb;obtain⟨_,hel,hpos⟩:=hT.slOk hsl;obtain⟨q,h1,h2⟩:=AS.ln_ok (B:=B) O hpos h
      split at h1
      ·rename_i hc
       obtain⟨hc1,hc2,hc3,hc4⟩:=hc;refine⟨_,h1,fun S a w hF R w' hsm=>?_⟩;obtain⟨h3,h4⟩:=h2 S w R;have hr:=run_slice0 (P:=P) hel (S.loc tg).addr m (S.loc tg).cap (lo.map a.eval) (hi.map a.eval) l hh (bnd_ok hF hlo) (bnd_ok hF hhi) hc2 hc3 hc4 (by omega) w'
       have e0:encT S (.l (.sl tg 0 sz m))=.slice (S.loc tg).addr m (S.loc tg).cap:=by simp[encT,encL,later_zero,SL.val]
       simp only[execOp,hF.eval hx,e0,Option.map_none,Sem.run_bind,hr,Result.andThen_ok];simp only[encT,encL,SL.later,SL.val]
       by_cases hcl:(S.loc tg).cap=l.toNat
       ·simp[hcl,SL.addr]
       ·simp only[hcl,if_false,SL.addr]
        cases hn:(S.loc tg).nil with
        |false=>simp[Addr.add_lit]
        |true=>
         have hq:q=0:=by
          rcases Nat.eq_zero_or_pos q with h0|h0
          ·exact h0
          ·have:=h3 h0
           rw[hn] at this
           cases this
         have hl0:l.toNat=0:=by omega
         have ha0:∀a:Addr,a.add 0=a:=fun a=>by simp[Addr.add]
         simp[hl0,ha0]
      ·cases h1
    ·cases h
   ·cases h
 case call c=>
  simp only[lightA] at h
  split at h
  ·rename_i hcal
   split at h
   ·rename_i x0 t0 hargs hats
    split at h
    ·rename_i p tg k sz m hsl hx
     refine⟨_,h,fun S a w hF R w' hsm=>?_⟩;obtain⟨happ,_,_⟩:=hT.slOk hsl;obtain⟨hu,_⟩:=appOk_spec happ
     have e1:c.args.map a.eval=#[encL S (.sl tg k sz m)]:=by
      apply Array.toList_inj.1
      rw[Array.toList_map,hargs];simp[hF.eval hx,encT]
     have e2:c.argTypes=#[t0]:=by apply Array.toList_inj.1;rw[hats]
     simp[execOp,resolve,hcal,invoke,builtin,e1,e2,encL,run_len_slice hu,encT]
    ·rename_i p hsl hx
     refine⟨_,h,fun S a w hF R w' hsm=>?_⟩;obtain⟨happ,_,_⟩:=hT.slOk hsl;obtain⟨hu,_⟩:=appOk_spec happ
     have e1:c.args.map a.eval=#[.slice none 0 0]:=by
      apply Array.toList_inj.1
      rw[Array.toList_map,hargs];simp[hF.eval hx,encT,encL]
     have e2:c.argTypes=#[t0]:=by apply Array.toList_inj.1;rw[hats]
     simp[execOp,resolve,hcal,invoke,builtin,e1,e2,encL,Builtin.len_,run_underlying hu,goInt,encT]
    ·cases h
   ·cases h
  ·cases h
 case build t parts=>
  simp only[lightA] at h
  split at h
  ·rename_i offs zc hbl hze
   split at h
   ·rename_i ps hps
    cases hb:(ps.all fun p=>Nat.ble (p.1+p.2.length) zc.length&&p.2.all oneC) with
    |false=>rw[hb] at h;cases h
    |true=>
     rw[hb] at h;simp only[cond_true] at h;refine⟨_,h,fun S a w hF R w' hsm=>?_⟩
     have hr:=run_buildA (n:=n) (ds:=ds) hT hbl hze hF hps (fun p hp=>by
      have:=List.all_eq_true.1 hb p hp;simp only[Bool.and_eq_true] at this
      exact⟨Nat.le_of_ble_eq_true this.1,this.2⟩) w'
     simp[execOp,encT,hr]
   ·cases h
  ·cases h
 case makeInterface t x0=>
  simp only[lightA] at h
  split at h
  ·rename_i xs hx
   cases hb:(T.ifc.contains t&&xs.all isV) with
   |false=>rw[hb] at h;cases h
   |true=>
    rw[hb] at h;simp only[cond_true] at h;simp only[Bool.and_eq_true] at hb;refine⟨_,h,fun S a w hF R w' hsm=>?_⟩;have hif:=List.all_eq_true.1 hT.ifc t (by simpa using hb.1)
    have e1:xs.map (encL S)=xs.map fun|.v u=>u|_=>undef:=List.map_congr_left fun a0 ha0=>by
     have:=List.all_eq_true.1 hb.2 a0 ha0
     cases a0 with
     |v u=>rfl
     |p t k sz f=>cases this
     |sl t k sz n=>cases this
    unfold ifOk at hif
    split at hif
    ·cases hif
    ·rename_i d hd hu
     simp only[execOp,hF.eval hx,encT,encL,Instr.makeInterface,Sem.run_bind,run_underlying hu,Result.andThen_ok];rw[e1]
     cases d<;>first|(exact absurd rfl (hd _))|simp
    ·cases hif
  ·cases h
 case lookup t x0 k0 ok=>
  cases ok with
  |true=>simp[lightA] at h
  |false=>
   simp only[lightA] at h
   split at h
   ·rename_i v hx
    split at h
    ·rename_i i hk
     cases hb:T.mp.contains t with
     |false=>rw[hb] at h;cases h
     |true=>
      rw[hb] at h;simp only[cond_true] at h;obtain⟨b,r,rfl,h1,h2⟩:=O.lk _ _ _ _ _ h;refine⟨_,h1,fun S a w hF R w' hsm=>?_⟩;have hl:=h2 S w R.ex;simp only[readTag] at hsm;obtain⟨es,cl,g1,g2,g3,g4⟩:=hl.at_;have hh:=hsm es cl (by rw[hl.loc];exact g1);rw[hl.loc] at hh;have hl':LkAt S w' b i r D.mp:=⟨hl.loc,es,cl,hh,g2,g3,g4⟩;simp[execOp,hF.eval hx,hF.eval hk,encT,encL,run_lookupA hT hb hl']
    ·cases h
   ·cases h
 all_goals (simp[lightA] at h)
end
end Go.Beat
end
