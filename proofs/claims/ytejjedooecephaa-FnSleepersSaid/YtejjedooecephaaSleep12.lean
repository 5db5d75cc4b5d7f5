/-
  Texts joined by a program (shake.py), without what the claim does not use; printed walks among them (print.sh), and own ones.
-/
import Derived.Test.YtejjedooecephaaSleep11
import Derived.Great.BuildSlice
section
namespace Go.Beat
open Go
section
variable {D:Md} {X:Type}
def LO.vs {τ:Type}:LO τ→Bool
 |.cells xs=>xs.all isV
 |_=>true
theorem LO.vs_ok {τ:Type}{o:LO τ}(h:o.vs=true):o.flat.all isV=true:=by
 cases o with
 |ints k xs=>simp[LO.flat,isV,Value.oneCell']
 |rows ks xs=>
  simp only[LO.flat,List.all_flatMap,List.all_eq_true];intro r _;simp only[rowCells,List.mem_map];rintro a ⟨q,_,rfl⟩;rfl
 |cells xs=>exact h
theorem all_take_drop {τ:Type}{xs:List (AL τ)}(h:xs.all isV=true)(k n:Nat):((xs.drop k).take n).all isV=true:=by
 rw[List.all_eq_true] at h ⊢
 exact fun a ha=>h a (List.mem_of_mem_drop (List.mem_of_mem_take ha))
theorem LO.slc_vs {τ:Type}{o:LO τ}{sz:Nat}(k n:Nat)(h:o.vs=true):(o.slc sz k n).vs=true:=by
 cases o with
 |ints kd xs=>rfl
 |rows ks xs=>rfl
 |cells xs=>exact all_take_drop h _ _
def LO.v1 {τ:Type}:LO τ→Bool
 |.cells xs=>xs.all oneC
 |_=>true
theorem LO.v1_ok {τ:Type}{o:LO τ}(h:o.v1=true):o.flat.all oneC=true:=by
 cases o with
 |ints k xs=>simp[LO.flat,oneC,Value.oneCell']
 |rows ks xs=>simp[LO.flat,rowCells,oneC,Value.oneCell']
 |cells xs=>exact h
def AS.obj (s:AS D)(ty:TypeId)(sz:Nat)(fix:Bool)(o:LO D.τ)(κ:AS D→Option X):Option X:=
 bif !(s.L.any (·.has (isLoc s.L.length)))&&!(LObj.has (isLoc s.L.length) ⟨ty,sz,fix,some o⟩)&&o.fits sz&&Nat.blt 0 sz&&Nat.ble (o.len sz) 9223372036854775807 then
  κ {s with fr:=purge (isLoc s.L.length) s.fr,L:=s.L++[⟨ty,sz,fix,some o⟩]}
 else none
def litA (fr:AFr D.τ)(size:Nat):Nat→List (Nat×Operand)→Option (List (AL D.τ))
 |_,[]=>some []
 |i,(i',x)::r=>bif Nat.beq i' i then (match evA fr x with
  |some (.l a)=>bif Nat.beq size 1&&oneC a then (match litA fr size (i+1) r with|some cs=>some (a::cs)|none=>none) else none
  |some (.agg xs)=>bif Nat.beq xs.length size then (match litA fr size (i+1) r with|some cs=>some (xs++cs)|none=>none) else none
  |_=>none) else none
def AS.gt (s:AS D)(t:Tg D.τ)(sz:Nat)(κ:LO D.τ→Option X):Option X:=
 match t with
 |.m u=>bif s.alive u&&Nat.beq sz (D.M.sz u) then D.gt s.st u κ else none
 |.loc j=>match s.L[j]? with
  |none=>none
  |some ob=>match ob.o with
   |none=>none
   |some o=>bif o.fits ob.sz&&Nat.beq sz ob.sz then κ o else none
def undead (D:Md)(z:D.τ):List D.τ→(List D.τ→Option X)→Option X
 |[],κ=>κ []
 |d::r,κ=>bif Nat.beq (D.kind d) (D.kind z) then (haveI:=D.deq;if d=z then undead D z r κ else none) else undead D z r fun l=>κ (d::l)
def renA (D:Md)(z:D.τ)(j:Nat):AFr D.τ→(AFr D.τ→Option X)→Option X
 |[],κ=>κ []
 |e::r,κ=>match e.2 with
  |.l (.sl (.m z') k sz n)=>bif Nat.beq (D.kind z') (D.kind z) then (haveI:=D.deq;if z'=z then renA D z j r fun r'=>κ ((e.1,.l (.sl (.loc j) k sz n))::r') else none) else renA D z j r fun r'=>κ (e::r')
  |_=>renA D z j r fun r'=>κ (e::r')
def kindT (D:Md)(z:D.τ):Tg D.τ→Bool
 |.m u=>Nat.beq (D.kind u) (D.kind z)
 |.loc _=>false
def AS.home (T:TabA)(s:AS D)(u:D.τ)(f:Nat)(z:D.τ)(a:AL D.τ)(κ:AS D→Option X):Option X:=
 bif s.alive u&&!(s.L.any (·.has (kindT D z)))&&T.pk.contains (D.kind z) then
  match a with
  |.sl (.loc j) k sz n=>(match s.L[j]? with
   |none=>none
   |some ob=>match ob.o with
    |none=>none
    |some o=>bif o.fits ob.sz&&o.vs&&!ob.fix&&Nat.beq ob.ty (D.M.ty z)&&Nat.beq ob.sz (D.M.sz z)&&Nat.beq sz ob.sz then
      (if k+n≤o.len ob.sz then undead D z s.dk fun dk'=>D.hs s.st u f z (o.slc ob.sz k n) n fun st'=>
       κ {fr:=purge (kindT D z) s.fr,st:=st',L:=s.L.set j {ob with o:=none},dk:=dk'} else none)
     else none)
  |.sl (.m z') k sz n=>bif s.alive z&&Nat.beq sz (D.M.sz z)&&!(D.isro z) then
    (haveI:=D.deq;if z'=z then D.gt s.st z fun o=>if k+n≤o.len (D.M.sz z) then (bif o.vs then D.hs s.st u f z (o.slc (D.M.sz z) k n) n fun st'=>
     κ {s with fr:=purge (kindT D z) s.fr,st:=st'} else none) else none else none)
   else none
  |.v (.slice none 0 0)=>bif T.sk.contains (D.kind z) then
    (bif s.alive z&&!(s.L.any (·.has (isLoc s.L.length))) then D.gt s.st z fun o=>bif o.vs then renA D z s.L.length (purge (isLoc s.L.length) s.fr) fun fr'=>undead D z (z::s.dk) fun dk'=>D.hs s.st u f z (D.em z) 0 fun st'=>
     κ {fr:=purge (kindT D z) fr',st:=st',L:=s.L++[⟨D.M.ty z,D.M.sz z,false,some o⟩],dk:=dk'} else none else none)
   else undead D z s.dk fun dk'=>D.hs s.st u f z (D.em z) 0 fun st'=>
    κ {s with fr:=purge (kindT D z) s.fr,st:=st',dk:=dk'}
  |_=>none
 else none
def AS.store (T:TabA)(s:AS D)(t:Tg D.τ)(k sz f:Nat)(as:List (AL D.τ))(κ:AS D→Option X):Option X:=
 match t with
 |.m u=>bif Nat.beq sz (D.M.sz u) then
   (match as with
   |[a]=>(match D.hm u f with
    |some z=>bif Nat.beq k 0 then s.home T u f z a κ else none
    |none=>bif s.alive u then D.wr s.st u k f [a] fun st'=>κ {s with st:=st'} else none)
   |as=>bif s.alive u then D.wr s.st u k f as fun st'=>κ {s with st:=st'} else none)
   else none
 |.loc j=>match s.L[j]? with
  |none=>none
  |some ob=>match ob.o with
   |none=>none
   |some o=>bif o.fits ob.sz&&Nat.beq sz ob.sz then o.wr ob.sz k f as fun o'=>κ {s with L:=s.L.set j {ob with o:=some o'}} else none
def TabA.kinOk (T:TabA)(e size:Nat):Bool:=match T.ki e with|some l=>Nat.beq l.length size|none=>true
def AS.app (T:TabA)(s:AS D)(e size bytes:Nat)(base src:TV D.τ)(κ:TV D.τ→AS D→Option X):Option X:=
 match src with
 |.l (.sl tg k sz m)=>bif Nat.beq sz size then s.gt tg sz fun o=>
  if k+m≤o.len sz then (match (o.slc sz k m).typed (T.ki e) sz with
   |none=>none
   |some p=>bif p.v1&&T.kinOk e size then
    (match base with
     |.l (.v (.slice none 0 0))=>if m*bytes≤140737488355328∧m≤9223372036854775807 then s.obj e size false p fun s'=>κ (.l (.sl (.loc s.L.length) 0 size m)) s' else none
     |.l (.sl bt bk bsz bn)=>bif Nat.beq bsz size&&Nat.blt 0 m then s.gt bt size fun bo=>
       if bk+bn≤bo.len size∧(bn+m)*bytes≤140737488355328∧bn+m≤9223372036854775807 then (match (bo.slc size bk bn).typed (T.ki e) size with
        |none=>none
        |some bp=>(match bp.cat p with
         |none=>none
         |some on=>(match bt with
          |.m u=>bif !(D.isro u)&&!(D.M.fix u)&&Nat.beq (D.M.ty u) e&&Nat.beq (D.M.sz u) size then
            AS.obj s e size false on fun s'=>κ (.l (.sl (.loc s.L.length) 0 size (bn+m))) {s' with dk:=u::s'.dk} else none
          |.loc i=>(match s.L[i]? with
           |none=>none
           |some ob=>bif !ob.fix&&Nat.beq ob.ty e&&Nat.beq ob.sz size then
            AS.obj s e size false on fun s'=>κ (.l (.sl (.loc s.L.length) 0 size (bn+m))) {s' with L:=s'.L.set i {ob with o:=none}} else none)))) else none
      else none
     |_=>none) else none) else none
  else none
 |_=>none
abbrev CallF (D:Md)(X:Type):=FuncId→List (TV D.τ)→D.σ→(TV D.τ→List (LObj D.τ)→D.σ→List Nat→List Nat→Option X)→Option X
structure CallE (D:Md) (X:Type) where
 call:CallF D X
 op:TabA→AS D→Oper→(TV D.τ→AS D→Option X)→Option X
 pc:FuncId→List (TV D.τ)→D.σ→(TV D.τ→List (LObj D.τ)→D.σ→List Nat→List Nat→Option X)→(Value→D.σ→List Nat→List Nat→Option X)→Option X
 isp:FuncId→Bool
 mst:Tg D.τ→Nat→Bool
def deadT (D:Md)(st:D.σ)(gk:List Nat):Tg D.τ→Bool
 |.m t=>gk.contains (D.kind t)&&!(D.live st t)
 |.loc _=>false
def turnT (D:Md)(n:Nat)(pk:List Nat):Tg D.τ→Bool
 |.m t=>pk.contains (D.kind t)
 |.loc j=>!(Nat.blt j n)
def objOk (ob:LObj D.τ):Bool:=match ob.o with|some (.cells xs)=>xs.all isV|_=>true
def lendV {τ:Type}(t:τ):List (TV τ)→Option (Nat×Nat×List (TV τ))
 |[]=>none
 |v::r=>match v with
  |.l (.sl (.loc j) 0 sz n)=>some (j,sz,.l (.sl (.m t) 0 sz n)::r)
  |v=>match lendV t r with
   |some (j,sz,r')=>some (j,sz,v::r')
   |none=>none
def tagsL {τ:Type}:AL τ→List τ
 |.p (.m t) _ _ _=>[t]
 |.sl (.m t) _ _ _=>[t]
 |_=>[]
def tagsT {τ:Type}:TV τ→List τ
 |.l a=>tagsL a
 |.agg xs=>xs.flatMap tagsL
 |.tup xs=>xs.flatMap fun|.inl a=>tagsL a|.inr ys=>ys.flatMap tagsL
 |.x=>[]
def tagsO {τ:Type}(ob:LObj τ):List τ:=match ob.o with
 |some (.cells xs)=>xs.flatMap tagsL
 |_=>[]
def liveAll (D:Md)(st:D.σ)(gk:List Nat)(x:Option X):List D.τ→Option X
 |[]=>x
 |t::r=>bif gk.contains (D.kind t) then (bif D.live st t then liveAll D st gk x r else none) else liveAll D st gk x r
def AS.back (T:TabA)(s:AS D)(κ:TV D.τ→AS D→Option X)(r:TV D.τ)(L':List (LObj D.τ))(st':D.σ)(pk gk:List Nat):Option X:=
 bif !(s.L.any (·.has (turnT D s.L.length pk)))&&L'.all objOk&&pk.all (fun k=>T.pk.contains k)&&gk.all (fun k=>T.gk.contains k||T.pk.contains k) then
  liveAll D s.st gk (κ (shT s.L.length r) {fr:=purge (turnT D s.L.length pk) s.fr,st:=st',L:=s.L++L',dk:=[]}) (s.L.flatMap tagsO++s.fr.flatMap fun e=>tagsT e.2)
 else none
def AS.call (T:TabA)(C:CallE D X)(s:AS D)(f:FuncId)(vs:List (TV D.τ))(κ:TV D.τ→AS D→Option X):Option X:=
 match s.dk with
 |[]=>(match lendV D.larg vs with
  |none=>C.call f vs s.st fun r L' st' pk gk=>s.back T κ r L' st' pk gk
  |some (j,sz,vs')=>match s.L[j]? with
   |none=>none
   |some ob=>match ob.o with
    |none=>none
    |some o=>match o.typed (T.ki ob.ty) ob.sz with
     |none=>none
     |some p=>bif p.vs&&o.fits ob.sz&&T.kinOk ob.ty ob.sz&&Nat.beq ob.sz (D.M.sz D.larg)&&Nat.beq sz ob.sz&&vs.all (fun v=>!(v.has (lentT D))) then
       D.ls s.st p fun st1=>C.call f vs' st1 fun r L' st' pk gk=>bif r.has (lentT D) then none else s.back T κ r L' (D.lu s.st st') pk gk
      else none)
 |_=>none
def AS.callP (T:TabA)(C:CallE D X)(s:AS D)(f:FuncId)(vs:List (TV D.τ))(κ:TV D.τ→AS D→Option X)(κp:Value→AS D→Option X):Option X:=
 match s.dk with
 |[]=>C.pc f vs s.st (fun r L' st' pk gk=>s.back T κ r L' st' pk gk) fun v st' pk gk=>s.back T (fun _ s'=>κp v s') .x [] st' pk gk
 |_=>none
def stOk {τ:Type}(T:TabA)(t:Nat)(v:TV τ)(m:Nat):Bool:=
 match v with
 |.l (.v u)=>T.sca.contains t&&u.oneCell'
 |.l _=>T.sca.contains t
 |_=>match T.ag t with|some n=>Nat.beq m n|none=>false
def heavyA (T:TabA)(C:CallE D X)(s:AS D)(o:Oper)(κ:TV D.τ→AS D→Option X):Option X:=
 match o.op with
 |.alloc t=>match T.ze t with
  |some zc=>s.obj t 1 true (.cells (zc.map .v)) fun s'=>κ (.l (.p (.loc s.L.length) 0 1 0)) s'
  |none=>none
 |.box t x=>match evA s.fr x with
  |some v=>(match cellsOf v with
   |some cs=>bif cs.all oneC then s.obj t 1 true (.cells cs) fun s'=>κ (.l (.p (.loc s.L.length) 0 1 0)) s' else none
   |none=>none)
  |none=>none
 |.buildSlice t len parts=>match T.sl t with
  |some (e,size,_)=>(match litA s.fr size 0 parts.toList with
   |some cs=>bif Nat.beq parts.size len&&Nat.blt 0 len&&Nat.ble (len*size) 16777216 then s.obj e size false (.cells cs) fun s'=>κ (.l (.sl (.loc s.L.length) 0 size len)) s' else none
   |none=>none)
  |none=>none
 |.store t x y=>match evA s.fr x with
  |some (.l (.p tg k sz f))=>bif C.mst tg f then C.op T s o κ else (match evA s.fr y with
   |some v=>(match cellsOf v with
    |some cs=>bif stOk T t v cs.length then s.store T tg k sz f cs fun s'=>κ .x s' else none
    |none=>none)
   |none=>none)
  |_=>none
 |.call c=>match c.callee with
  |.builtin .append=>(match c.args.toList,c.argTypes.toList with
   |[x,y],[t,t']=>bif Nat.beq t t' then (match T.sl t,evA s.fr x,evA s.fr y with
    |some (e,size,bytes),some b,some v=>s.app T e size bytes b v κ
    |_,_,_=>none) else none
   |_,_=>none)
  |.value (.func f)=>(match argsA s.fr c.args.toList with
   |some vs=>s.call T C f vs κ
   |none=>none)
  |_=>C.op T s o κ
 |_=>C.op T s o κ
end
end Go.Beat
end
section
namespace Go.Beat
open Go
section
variable {D:Md} {X:Type} {B:Base D} {s:AS D} {P:Program} {T:TabA} {n:Nat} {ds:List Deferred} {S:Sto (Tg D.τ)} {w:World} {a:Act}
def Stp (B:Base D)(n:Nat)(ds:List Deferred)(a:Act)(κ:TV D.τ→AS D→Option X)(x:X)(v:Value)(w':World)(Z:Sto (Tg D.τ)→Prop):Prop:=
 ∃r s' S',κ r s'=some x∧(∀r',r.ok=some r'→v=encT S' r')∧FrmA n ds a S' s'.fr∧Rel B s'.st s'.L s'.dk S' w'∧Z S'
theorem TV.ok_eq {τ:Type}{r r':TV τ}(h:r.ok=some r'):r'=r:=by
 cases r<;>simp [TV.ok] at h<;>exact h.symm
theorem AS.obj_ok (O:MdOk D){ty:TypeId}{sz:Nat}{fix:Bool}{o:LO D.τ}{κ:AS D→Option X}{x:X}(h:s.obj ty sz fix o κ=some x)(hF:FrmA n ds a S s.fr)(R:Rel B s.st s.L s.dk S w):
  κ {s with fr:=purge (isLoc s.L.length) s.fr,L:=s.L++[⟨ty,sz,fix,some o⟩]}=some x∧FrmA n ds a (S.put (.loc s.L.length) ⟨w.heap.size,0,o.len sz,false,none⟩) (purge (isLoc s.L.length) s.fr)∧
   Rel B s.st (s.L++[⟨ty,sz,fix,some o⟩]) s.dk (S.put (.loc s.L.length) ⟨w.heap.size,0,o.len sz,false,none⟩) (w.alloc (.cells (o.flat.map (encL S)).toArray ty)):=by
 unfold AS.obj at h
 cases hb:(!(s.L.any (·.has (isLoc s.L.length)))&&!(LObj.has (isLoc s.L.length) ⟨ty,sz,fix,some o⟩)&&o.fits sz&&Nat.blt 0 sz&&Nat.ble (o.len sz) 9223372036854775807) with
 |false=>rw[hb] at h;cases h
 |true=>
  rw[hb] at h;simp only[cond_true] at h;simp only[Bool.and_eq_true,Bool.not_eq_true'] at hb;obtain⟨⟨⟨⟨h1,h2⟩,h3⟩,h4⟩,h5⟩:=hb;obtain⟨hR,hl⟩:=R.new O ⟨ty,sz,fix,some o⟩ o rfl h3 (Nat.le_of_ble_eq_true h5) (Nat.le_of_ble_eq_true h4) h1 h2;exact⟨h,hF.purge hl,hR⟩
theorem AS.obj_chk {ty:TypeId}{sz:Nat}{fix:Bool}{o:LO D.τ}{κ:AS D→Option X}{x:X}(h:s.obj ty sz fix o κ=some x):
  κ {s with fr:=purge (isLoc s.L.length) s.fr,L:=s.L++[⟨ty,sz,fix,some o⟩]}=some x∧s.L.any (·.has (isLoc s.L.length))=false∧LObj.has (isLoc s.L.length) ⟨ty,sz,fix,some o⟩=false∧o.fits sz=true∧0<sz∧o.len sz≤9223372036854775807:=by
 unfold AS.obj at h
 cases hb:(!(s.L.any (·.has (isLoc s.L.length)))&&!(LObj.has (isLoc s.L.length) ⟨ty,sz,fix,some o⟩)&&o.fits sz&&Nat.blt 0 sz&&Nat.ble (o.len sz) 9223372036854775807) with
 |false=>rw[hb] at h;cases h
 |true=>
  rw[hb] at h;simp only[cond_true] at h;simp only[Bool.and_eq_true,Bool.not_eq_true'] at hb;obtain⟨⟨⟨⟨h1,h2⟩,h3⟩,h4⟩,h5⟩:=hb;exact⟨h,h1,h2,h3,Nat.le_of_ble_eq_true h4,Nat.le_of_ble_eq_true h5⟩
theorem AS.gt_ok (O:MdOk D){t:Tg D.τ}{sz:Nat}{κ:LO D.τ→Option X}{x:X}(h:s.gt t sz κ=some x):
  ∃o,κ o=some x∧o.fits sz=true∧((∃u,t=.m u∧sz=D.M.sz u∧s.alive u=true∧(D.c s.st u=some o.flat∨D.ro s.st u=some o.flat))∨∃j ob,t=.loc j∧s.L[j]?=some ob∧ob.o=some o∧ob.sz=sz):=by
 cases t with
 |m u=>
  simp only[AS.gt] at h
  cases hb:(s.alive u&&Nat.beq sz (D.M.sz u)) with
  |false=>rw[hb] at h;cases h
  |true=>
   rw[hb] at h;simp only[cond_true] at h;simp only[Bool.and_eq_true,Nat.beq_eq] at hb;obtain⟨ha,rfl⟩:=hb;obtain⟨o,h1,h2,h3⟩:=O.gt _ _ _ _ h;exact⟨o,h3,h2,.inl ⟨u,rfl,rfl,ha,h1⟩⟩
 |loc j=>
  simp only[AS.gt] at h
  split at h
  ·cases h
  ·rename_i ob hob
   split at h
   ·cases h
   ·rename_i o ho
    cases hb:(o.fits ob.sz&&Nat.beq sz ob.sz) with
    |false=>rw[hb] at h;cases h
    |true=>
     rw[hb] at h;simp only[cond_true] at h;simp only[Bool.and_eq_true,Nat.beq_eq] at hb;obtain⟨hf,rfl⟩:=hb;exact⟨o,h,hf,.inr ⟨j,ob,rfl,hob,ho,rfl⟩⟩
theorem Rel.slice (R:Rel B s.st s.L s.dk S w){t:Tg D.τ}{sz:Nat}{o:LO D.τ}(hf:o.fits sz=true)(hsz:0<sz)(hg:(∃u,t=.m u∧sz=D.M.sz u∧s.alive u=true∧(D.c s.st u=some o.flat∨D.ro s.st u=some o.flat))∨∃j ob,t=.loc j∧s.L[j]?=some ob∧ob.o=some o∧ob.sz=sz):
  (∀i c,o.flat[i]?=some c→w.cell? ⟨(S.loc t).b,(S.loc t).off+i,none⟩=some (encL S c))∧(0<o.len sz→(S.loc t).nil=false)∧o.len sz≤(S.loc t).cap:=by
 have key:∀t,contA s.st s.dk s.L t=some o.flat→(metaA D s.L).sz t=sz→(∀i c,o.flat[i]?=some c→w.cell? ⟨(S.loc t).b,(S.loc t).off+i,none⟩=some (encL S c))∧(0<o.len sz→(S.loc t).nil=false)∧o.len sz≤(S.loc t).cap:=fun t hc hm=>by
  have Ht:=R.H t (o.flat.map (encL S)) (by simp[encC,hc]);refine⟨fun i c hi=>R.cell hc hi,fun hpos=>Ht.notNil (j:=0) (by rw[List.length_map,LO.flat_len hf];exact Nat.mul_pos hpos hsz),?_⟩;obtain⟨n',h4,h5⟩:=Ht.len;rw[List.length_map,LO.flat_len hf,hm] at h4;have:o.len sz=n':=Nat.eq_of_mul_eq_mul_right hsz h4;omega
 rcases hg with ⟨u,rfl,rfl,ha,hc⟩|⟨j,ob,rfl,hob,ho,rfl⟩
 ·rcases hc with hc|hc
  ·exact key (.m u) (by simp[contA,AS.alive_not ha,hc]) rfl
  ·have r:=R.ro u _ hc
   refine⟨fun i c hi=>r.cell i c hi,fun hpos=>(r.own (fun e=>?_)).2,?_⟩
   ·have:=LO.flat_len hf
    rw[e] at this;have h2:=Nat.mul_pos hpos hsz
    simp at this
    omega
   ·have:=r.cap
    rw[LO.flat_len hf] at this;exact Nat.le_of_mul_le_mul_right this hsz
 ·exact key (.loc j) (by simp[contA,hob,ho]) (by simp[metaA,hob])
theorem undead_ok {D:Md}{z:D.τ}:∀{dk:List D.τ} {κ:List D.τ→Option X} {x:X},undead D z dk κ=some x→∃dk',κ dk'=some x∧(∀u,u≠z→(u∈dk'↔u∈dk))∧z∉dk'
 |[],κ,x,h=>⟨[],h,fun _ _=>Iff.rfl,by simp⟩
 |d::r,κ,x,h=>by
  simp only[undead] at h
  cases hb:Nat.beq (D.kind d) (D.kind z) with
  |true=>
   rw[hb] at h;simp only[cond_true] at h
   split at h
   ·rename_i hd
    subst hd;obtain⟨dk',h1,h2,h3⟩:=undead_ok h;exact⟨dk',h1,fun u hu=>by rw[h2 u hu,List.mem_cons];simp[hu],h3⟩
   ·cases h
  |false=>
   rw[hb] at h;simp only[cond_false] at h;obtain⟨dk',h1,h2,h3⟩:=undead_ok h;refine⟨d::dk',h1,fun u hu=>by rw[List.mem_cons,List.mem_cons,h2 u hu],fun hm=>?_⟩
   rcases List.mem_cons.1 hm with rfl|hm
   ·have:Nat.beq (D.kind z) (D.kind z)=true:=Nat.beq_refl _
    rw[this] at hb
    cases hb
   ·exact h3 hm
theorem renA_ok {D:Md}{X:Type}{z:D.τ}{j:Nat}{S:Sto (Tg D.τ)}(hS:S.loc (.loc j)=S.loc (.m z)):∀{fr:AFr D.τ} {κ:AFr D.τ→Option X} {x:X},renA D z j fr κ=some x→∃fr',κ fr'=some x∧∀t v,lookA fr' t=some v→∃v0,lookA fr t=some v0∧encT S v0=encT S v
 |[],κ,x,h=>⟨[],h,fun t v hv=>by cases hv⟩
 |e::r,κ,x,h=>by
  obtain⟨t0,u⟩:=e
  have keep:∀(h:renA D z j r (fun r'=>κ ((t0,u)::r'))=some x),∃fr',κ fr'=some x∧∀t v,lookA fr' t=some v→∃v0,lookA ((t0,u)::r) t=some v0∧encT S v0=encT S v:=fun h=>by
   obtain⟨r',h1,h2⟩:=renA_ok hS h;refine⟨_,h1,fun t v hv=>?_⟩;unfold lookA at hv ⊢
   split at hv
   ·rename_i ht
    rw[if_pos ht];exact⟨v,hv,rfl⟩
   ·rename_i ht
    rw[if_neg ht];exact h2 t v hv
  simp only[renA] at h
  split at h
  ·rename_i z' k sz n
   cases hb:Nat.beq (D.kind z') (D.kind z) with
   |false=>
    rw[hb] at h;exact keep h
   |true=>
    rw[hb] at h;simp only[cond_true] at h
    split at h
    ·rename_i hz
     subst hz;obtain⟨r',h1,h2⟩:=renA_ok hS h;refine⟨_,h1,fun t v hv=>?_⟩;unfold lookA at hv ⊢
     split at hv
     ·rename_i ht
      rw[if_pos ht];simp only[TV.ok,Option.some.injEq] at hv;subst hv;exact⟨_,rfl,by simp[encT,encL,hS]⟩
     ·rename_i ht
      rw[if_neg ht];exact h2 t v hv
    ·cases h
  ·exact keep h
theorem kind_loc {D:Md}{S S':Sto (Tg D.τ)}{z:D.τ}(hl:∀u,u≠.m z→S'.loc u=S.loc u):∀t,kindT D z t=false→S'.loc t=S.loc t:=fun t ht=>hl t fun e=>by
 subst e;simp[kindT] at ht
theorem AS.home_ok (O:MdOk D){u z:D.τ}{f:Nat}{c:AL D.τ}{κ:AS D→Option X}{x:X}(hz:D.hm u f=some z)(hpk:T.pk=B.pk)(h:s.home T u f z c κ=some x)(hF:FrmA n ds a S s.fr)(R:Rel B s.st s.L s.dk S w):
  ∃s' S',κ s'=some x∧FrmA n ds a S' s'.fr∧Rel B s'.st s'.L s'.dk S' (w.setCell ⟨(S.loc (.m u)).b,(S.loc (.m u)).off+f,none⟩ (encL S c))∧(∃v,w.cell? ⟨(S.loc (.m u)).b,(S.loc (.m u)).off+f,none⟩=some v)∧w.frozen? ⟨(S.loc (.m u)).b,(S.loc (.m u)).off+f,none⟩=false∧(encL S c).oneCell'=true:=by
 unfold AS.home at h
 cases hb:(s.alive u&&!(s.L.any (·.has (kindT D z)))&&T.pk.contains (D.kind z)) with
 |false=>rw[hb] at h;cases h
 |true=>
  rw[hb] at h;simp only[cond_true] at h;simp only[Bool.and_eq_true,Bool.not_eq_true'] at hb
  have hkz:B.pk.contains (D.kind z)=true:=by rw[←hpk];exact hb.2
  have hb:=hb.1;have hu:=AS.alive_not hb.1
  have hfree:∀ob∈s.L,ob.free D z:=fun ob hob=>by
   have:=hb.2;simp only[List.any_eq_false] at this;have h1:=this ob hob
   have h2:LObj.has (kindT D z) ob=false:=by simpa using h1
   exact h2
  split at h
  ·rename_i j k sz m
   split at h
   ·cases h
   ·rename_i ob hob
    split at h
    ·cases h
    ·rename_i o ho
     cases hb2:(o.fits ob.sz&&o.vs&&!ob.fix&&Nat.beq ob.ty (D.M.ty z)&&Nat.beq ob.sz (D.M.sz z)&&Nat.beq sz ob.sz) with
     |false=>rw[hb2] at h;cases h
     |true=>
      rw[hb2] at h;simp only[cond_true] at h;simp only[Bool.and_eq_true,Bool.not_eq_true',Nat.beq_eq] at hb2;obtain⟨⟨⟨⟨⟨h1,h2⟩,h3⟩,h4⟩,h5⟩,rfl⟩:=hb2
      split at h
      ·rename_i hkn
       obtain⟨dk',h6,h7,h8⟩:=undead_ok h;obtain⟨st',h9,S',hh⟩:=R.homeL O (dk':=dk') hkz hz hu hob ho h1 h4 h5 h3 k m hkn (LO.vs_ok (LO.slc_vs k m h2)) h6 h7 h8 hfree;exact⟨_,S',h9,hF.purge (kind_loc hh.loc),hh.R,hh.cell,hh.fz,rfl⟩
      ·cases h
  ·rename_i z' k sz m
   cases hb2:(s.alive z&&Nat.beq sz (D.M.sz z)&&!(D.isro z)) with
   |false=>rw[hb2] at h;cases h
   |true=>
    rw[hb2] at h;simp only[cond_true] at h;simp only[Bool.and_eq_true,Bool.not_eq_true',Nat.beq_eq] at hb2;obtain⟨⟨h1,rfl⟩,h3⟩:=hb2
    split at h
    ·rename_i he
     subst he;obtain⟨o,h4,h5,h6⟩:=O.gt _ _ _ _ h
     split at h6
     ·rename_i hkn
      cases hv:o.vs with
      |false=>rw[hv] at h6;cases h6
      |true=>
       rw[hv] at h6;simp only[cond_true] at h6
       have hcz:D.c s.st z'=some o.flat:=by
        rcases h4 with h4|h4
        ·exact h4
        ·have:=O.rois _ _ _ h4
         rw[h3] at this
         cases this
       obtain⟨st',h9,S',hh⟩:=R.homeM O hkz hz hu (AS.alive_not h1) hcz h5 k m hkn (LO.vs_ok (LO.slc_vs k m hv)) h6 hfree;exact⟨_,S',h9,hF.purge (kind_loc hh.loc),hh.R,hh.cell,hh.fz,rfl⟩
     ·cases h6
    ·cases h
  ·cases hsk:T.sk.contains (D.kind z) with
   |true=>
    rw[hsk] at h;simp only[cond_true] at h
    cases hb2:(s.alive z&&!(s.L.any (·.has (isLoc s.L.length)))) with
    |false=>rw[hb2] at h;cases h
    |true=>
     rw[hb2] at h;simp only[cond_true] at h;simp only[Bool.and_eq_true,Bool.not_eq_true'] at hb2;obtain⟨o,h4,h5,h6⟩:=O.gt _ _ _ _ h
     cases hv:o.vs with
     |false=>rw[hv] at h6;cases h6
     |true=>
      rw[hv] at h6;simp only[cond_true] at h6;obtain⟨kft,kfz,kroz,kexz,kne,kpos,ksz⟩:=O.hmk _ _ _ hz
      have hcz:D.c s.st z=some o.flat:=by
       rcases h4 with h4|h4
       ·exact h4
       ·have:=O.rois _ _ _ h4
        rw[kroz] at this
        cases this
      obtain⟨S1,R1,hl1,hj1⟩:=R.steal O (AS.alive_not hb2.1) hcz kfz kroz kexz hb2.2;have hF1:FrmA n ds a S1 (purge (isLoc s.L.length) s.fr):=hF.purge hl1;have eu:S1.loc (.m u)=S.loc (.m u):=hl1 _ rfl;obtain⟨fr',h7,h8⟩:=renA_ok (S:=S1) (by rw[hj1,hl1 _ rfl]) h6
      have hF2:FrmA n ds a S1 fr':=⟨hF1.defs,hF1.size,fun t v ht=>by
       obtain⟨v0,g1,g2⟩:=h8 t v ht
       rw[hF1.get t v0 g1,g2]⟩
      obtain⟨dk',g6,g7,g8⟩:=undead_ok h7
      obtain⟨st',h9,S',hh⟩:=R1.homeN O (dk':=dk') hkz hz (fun hm=>by
       rcases List.mem_cons.1 hm with e|hm
       ·exact kne e.symm
       ·exact hu hm) g6 g7 g8 (fun ob hob=>by
       rcases List.mem_append.1 hob with hob|hob
       ·exact hfree ob hob
       ·simp only[List.mem_singleton] at hob
        subst hob;unfold LObj.free LObj.has
        cases o with
        |ints k xs=>rfl
        |rows ks xs=>rfl
        |cells xs=>
         simp only
         exact isV_has _ hv)
      have hR:=hh.R;have hc:=hh.cell;have hz2:=hh.fz;rw[eu] at hR hc hz2;exact⟨_,S',h9,hF2.purge (kind_loc hh.loc),hR,hc,hz2,rfl⟩
   |false=>
   rw[hsk] at h;simp only[cond_false] at h;obtain⟨dk',h6,h7,h8⟩:=undead_ok h;obtain⟨st',h9,S',hh⟩:=R.homeN O (dk':=dk') hkz hz hu h6 h7 h8 hfree;exact⟨_,S',h9,hF.purge (kind_loc hh.loc),hh.R,hh.cell,hh.fz,rfl⟩
  ·cases h
theorem add_cell {S:Sto (Tg D.τ)}{t:Tg D.τ}{k sz f:Nat}:(S.loc t).off+k*sz+f=(S.loc t).off+(k*sz+f):=Nat.add_assoc _ _ _
theorem AS.store_ok (O:MdOk D){t:Tg D.τ}{k sz f:Nat}{as:List (AL D.τ)}{κ:AS D→Option X}{x:X}(hpk:T.pk=B.pk)(h:s.store T t k sz f as κ=some x)(hF:FrmA n ds a S s.fr)(R:Rel B s.st s.L s.dk S w):
  ∃s' S' w',κ s'=some x∧FrmA n ds a S' s'.fr∧Rel B s'.st s'.L s'.dk S' w'∧(storeCells ⟨(S.loc t).b,(S.loc t).off+k*sz+f,none⟩ (as.map (encL S)) 0).run P w=.ok () w':=by
 have plain:∀{u:D.τ} {as:List (AL D.τ)},(bif s.alive u then D.wr s.st u k f as fun st'=>κ {s with st:=st'} else none)=some x→sz=D.M.sz u→
   ∃s' S' w',κ s'=some x∧FrmA n ds a S' s'.fr∧Rel B s'.st s'.L s'.dk S' w'∧(storeCells ⟨(S.loc (.m u)).b,(S.loc (.m u)).off+k*sz+f,none⟩ (as.map (encL S)) 0).run P w=.ok () w':=fun {u as} h hsz=>by
  cases ha:s.alive u with
  |false=>rw[ha] at h;cases h
  |true=>
   rw[ha] at h;simp only[cond_true] at h;obtain⟨st',h1,_,w',hr,hR,_⟩:=R.wrM (P:=P) O (AS.alive_not ha) h;exact⟨_,S,w',h1,hF,hR,by rw[add_cell,hsz];exact hr⟩
 cases t with
 |m u=>
  simp only[AS.store] at h
  cases hsz:Nat.beq sz (D.M.sz u) with
  |false=>rw[hsz] at h;cases h
  |true=>
   rw[hsz] at h;simp only[cond_true] at h;simp only[Nat.beq_eq] at hsz
   split at h
   ·rename_i a0
    split at h
    ·rename_i z hz
     cases hk:Nat.beq k 0 with
     |false=>rw[hk] at h;cases h
     |true=>
      rw[hk] at h;simp only[cond_true] at h;simp only[Nat.beq_eq] at hk;subst hk;obtain⟨s',S',h1,h2,h3,⟨v,h4⟩,h5,h6⟩:=AS.home_ok O hz hpk h hF R;refine⟨s',S',_,h1,h2,h3,?_⟩
      have hadd:(⟨(S.loc (.m u)).b,(S.loc (.m u)).off+0*sz+f,none⟩:Addr).add 0=⟨(S.loc (.m u)).b,(S.loc (.m u)).off+f,none⟩:=by rw[Addr.add_lit];simp
      have hst:(Go.store ((⟨(S.loc (.m u)).b,(S.loc (.m u)).off+0*sz+f,none⟩:Addr).add 0) (encL S a0)).run P w=.ok () (w.setCell ⟨(S.loc (.m u)).b,(S.loc (.m u)).off+f,none⟩ (encL S a0)):=by
       rw[hadd,run_store P w _ _ _ h6];simp[h4,h5]
      simp only[List.map_cons,List.map_nil,storeCells,Sem.run_bind,hst,Result.andThen_ok];rfl
    ·exact plain h hsz
   ·exact plain h hsz
 |loc j=>
  simp only[AS.store] at h
  split at h
  ·cases h
  ·rename_i ob hob
   split at h
   ·cases h
   ·rename_i o ho
    cases hb:(o.fits ob.sz&&Nat.beq sz ob.sz) with
    |false=>rw[hb] at h;cases h
    |true=>
     rw[hb] at h;simp only[cond_true] at h;simp only[Bool.and_eq_true,Nat.beq_eq] at hb;obtain⟨hf,rfl⟩:=hb;obtain⟨o',h1,_,_,w',hr,hR⟩:=R.wrL (P:=P) O hob ho hf h;exact⟨_,S,w',h1,hF,hR,by rw[add_cell];exact hr⟩
theorem run_storeVar_cells {t m:Nat}{ad:Addr}{v:Value}{vs:List Value}{w':World}(hs:(sizeOf t).run P w=.ok m w)(hv:v.cells.toList=vs)(hl:vs.length=m)(hr:(storeCells ad vs 0).run P w=.ok () w'):(storeVar t ad v).run P w=.ok () w':=by
 unfold storeVar;simp only[Sem.run_bind,hs,Result.andThen_ok];rw[if_neg (by rw[←hl,←hv];simp)];rw[hv];exact hr
theorem litA_vals {S:Sto (Tg D.τ)}{fr:AFr D.τ}{size:Nat}(hF:FrmA n ds a S fr):∀(parts:List (Nat×Operand)) (i:Nat) (cs:List (AL D.τ)),litA fr size i parts=some cs→
  ∃vs:List Value,(parts.map fun p=>(p.1,a.eval p.2))=(vs.zipIdx i).map (fun q=>(q.2,q.1))∧(∀v∈vs,v.cells.size=size)∧cs.map (encL S)=(vs.flatMap fun v=>v.cells.toList)∧vs.length=parts.length
 |[],i,cs,h=>by
  simp[litA] at h;subst h;exact⟨[],rfl,by simp,rfl,rfl⟩
 |(i',x)::r,i,cs,h=>by
  simp only[litA] at h
  cases hi:Nat.beq i' i with
  |false=>rw[hi] at h;cases h
  |true=>
   rw[hi] at h;simp only[cond_true] at h;simp only[Nat.beq_eq] at hi;subst hi
   split at h
   ·rename_i c hc
    cases hb:(Nat.beq size 1&&oneC c) with
    |false=>rw[hb] at h;cases h
    |true=>
     rw[hb] at h;simp only[cond_true] at h;simp only[Bool.and_eq_true,Nat.beq_eq] at hb
     split at h
     ·rename_i rest hrest
      simp only[Option.some.injEq] at h;obtain⟨vs,h1,h2,h3,h4⟩:=litA_vals hF r (i'+1) rest hrest;have hcl:=oneC_cells S hb.2;refine⟨encL S c::vs,by simp[h1,hF.eval hc,encT,List.zipIdx_cons],fun v hv=>?_,?_,by simp[h4]⟩
      ·rcases List.mem_cons.1 hv with rfl|hv
       ·rw[hcl,hb.1];rfl
       ·exact h2 v hv
      ·rw[←h]
       simp[h3,hcl]
     ·cases h
   ·rename_i ys hy
    cases hb:Nat.beq ys.length size with
    |false=>rw[hb] at h;cases h
    |true=>
     rw[hb] at h;simp only[cond_true] at h;simp only[Nat.beq_eq] at hb
     split at h
     ·rename_i rest hrest
      simp only[Option.some.injEq] at h;obtain⟨vs,h1,h2,h3,h4⟩:=litA_vals hF r (i'+1) rest hrest;refine⟨encT S (.agg ys)::vs,by simp[h1,hF.eval hy,List.zipIdx_cons],fun v hv=>?_,?_,by simp[h4]⟩
      ·rcases List.mem_cons.1 hv with rfl|hv
       ·simp[encT,Value.cells,hb]
       ·exact h2 v hv
      ·rw[←h]
       simp[h3,encT,Value.cells]
     ·cases h
   ·cases h
theorem run_lit {t e size bytes len:Nat}(hT:T.Ok P)(hsl:T.sl t=some (e,size,bytes)){parts:Array (Nat×Operand)}{fr:AFr D.τ}{cs:List (AL D.τ)}(hF:FrmA n ds a S fr)(hl:litA fr size 0 parts.toList=some cs)(hn:parts.size=len)(h0:0<len)(hs:len*size≤16777216):
  (Instr.buildSlice t len (parts.map fun (i,x)=>(i,a.eval x))).run P w=.ok (.slice (some ⟨w.heap.size,0,none⟩) len len) (w.alloc (.cells (cs.map (encL S)).toArray e)):=by
 obtain⟨happ,_,hpos⟩:=hT.slOk hsl;obtain⟨hu,i,z,hi,hsz,hby,hz,hzs⟩:=appOk_spec happ;obtain⟨vs,h1,h2,h3,h4⟩:=litA_vals hF parts.toList 0 cs hl
 have hlen:vs.length=len:=by rw[h4,Array.length_toList,hn]
 have hparts:(parts.map fun (i,x)=>(i,a.eval x)).toList=parts.toList.map fun p=>(p.1,a.eval p.2):=by simp
 have hne:¬len*i.size=0:=by rw[hsz];exact Nat.ne_of_gt (Nat.mul_pos h0 hpos)
 refine run_buildSlice w t e len _ _ i z hu hi hz (by rw[hsz];simpa using hs) hne ?_
 rw[hparts,h1,hsz,Great.fill_whole hpos vs _ h2 (by simp[hlen])];rw[h3]
end
end Go.Beat
end
section
namespace Go.Beat
open Go
section
variable {D:Md} {X:Type} {B:Base D} {s:AS D} {P:Program} {T:TabA} {n:Nat} {ds:List Deferred} {S:Sto (Tg D.τ)} {w:World} {a:Act}
theorem Rel.nilObj {st:D.σ}{L:List (LObj D.τ)}{dk:List D.τ}(R:Rel B st L dk S w)(O:MdOk D){nb:LObj D.τ}{on:LO D.τ}(hon:nb.o=some on)(hflat:on.flat=[])(hnb:nb.has (isLoc L.length)=false)(hL:L.any (·.has (isLoc L.length))=false)(hnf:nb.fix=false)(hpos:0<nb.sz):
  Rel B st (L++[nb]) dk (S.put (.loc L.length) SL.none) w∧∀t,isLoc L.length t=false→(S.put (.loc L.length) SL.none).loc t=S.loc t:=by
 have my:(metaA D (L++[nb])).ty (.loc L.length)=nb.ty∧(metaA D (L++[nb])).sz (.loc L.length)=nb.sz∧(metaA D (L++[nb])).fix (.loc L.length)=false:=by simp[metaA,hnf]
 have H1:=(meta_push R.H nb).nilled (.loc L.length) (by rw[my.2.1];exact hpos) my.2.2;refine⟨R.outcome O rfl rfl hon hnb hL H1 (Kp.nilled S w _) (fun t ht=>Sto.put_loc_ne S _ ht) (fun hf b hb=>by simpa [Sto.put,SL.none] using hf b hb) (by rw[upd_same,hflat];rfl) fun t ht'=>.inr ⟨?_,upd_other _ _ ht'⟩,fun t ht=>Sto.put_loc_ne S _ (locne ht)⟩
 cases t with
 |m t=>rfl
 |loc q=>
  have hq:q≠L.length:=fun e=>ht' (by rw[e])
  simp only[contA]
  rcases Nat.lt_or_gt_of_ne hq with h|h
  ·rw[List.getElem?_append_left h]
  ·rw[List.getElem?_eq_none (by simp;omega),List.getElem?_eq_none (by omega)]
theorem run_append_zero {tt e size bytes:Nat}(happ:appOk P tt e size bytes=true)(ty:TypeId)(A:Option Addr)(c:Nat):(Builtin.append_ #[tt,tt] ty #[.slice none 0 0,.slice A 0 c]).run P w=.ok (.slice none 0 0) w:=by
 obtain⟨ht,i,z,hi,_⟩:=appOk_spec happ
 cases A<;>simp [Builtin.append_,run_underlying ht,sizeOf,typeInfo,hi,Builtin.lenOf,Builtin.firstCells,loadCells,loadCellsFrom]
theorem typed_len {τ:Type}{T:TabA}{e size:Nat}(h:T.kinOk e size=true):∀l,T.ki e=some l→l.length=size:=fun l hl=>by
 unfold TabA.kinOk at h;rw[hl] at h
 simpa using h
theorem AS.app_ok (hT:T.Ok P)(O:MdOk D){tt e size bytes:Nat}(hsl:T.sl tt=some (e,size,bytes))(ty:TypeId){base src:TV D.τ}{κ:TV D.τ→AS D→Option X}{x:X}(h:s.app T e size bytes base src κ=some x)(hF:FrmA n ds a S s.fr)(R:Rel B s.st s.L s.dk S w):∃v w',(Builtin.append_ #[tt,tt] ty #[encT S base,encT S src]).run P w=.ok v w'∧Stp B n ds a κ x v w' fun S'=>(w.heap.size≤w'.heap.size∧MapsStay w w')∧∀b,b<w.heap.size→(∀u k sz n,base=.l (.sl u k sz n)→S.own b≠some u)→w'.heap[b]?=w.heap[b]?∧S'.own b=S.own b:=by
 obtain⟨happ,_,hpos⟩:=hT.slOk hsl;obtain⟨ht,i,z,hi,hsz,hby,hz,hzs⟩:=appOk_spec happ;unfold AS.app at h
 split at h
 case h_2=>cases h
 rename_i tg k sz m
 cases hb:Nat.beq sz size with
 |false=>rw[hb] at h;cases h
 |true=>
  rw[hb] at h;simp only[cond_true] at h;simp only[Nat.beq_eq] at hb;subst hb;obtain⟨o,h1,hof,hg⟩:=AS.gt_ok (D:=D) O h;obtain⟨gcell,gnil,gcap⟩:=R.slice hof hpos hg
  split at h1
  case isFalse=>cases h1
  rename_i hkm;obtain⟨sf1,sf2⟩:=LO.slc_fits (k:=k) (n:=m) hof hkm
  split at h1
  ·cases h1
  rename_i p hp
  cases hb2:(p.v1&&T.kinOk e sz) with
  |false=>rw[hb2] at h1;cases h1
  |true=>
   rw[hb2] at h1;simp only[cond_true] at h1;simp only[Bool.and_eq_true] at hb2;obtain⟨hpv,hkl⟩:=hb2;obtain⟨pf,pfit,plen⟩:=LO.typed_ok sf1 (typed_len (τ:=D.τ) hkl) hp;rw[sf2] at plen
   have hflat:p.flat=(o.flat.drop (k*sz)).take (m*sz):=by rw[pf,LO.slc_ok k m hof]
   have hpl:p.flat.length=m*sz:=by rw[LO.flat_len pfit,plen]
   have hnews:∀j u,(p.flat.map (encL S))[j]?=some u→w.cell? ((⟨(S.loc tg).b,(S.loc tg).off+k*sz,none⟩:Addr).add j)=some u:=fun j u hu=>by
    simp only[List.getElem?_map,Option.map_eq_some_iff] at hu;obtain⟨c,hc,rfl⟩:=hu;rw[hflat] at hc
    have hj:j<m*sz:=by
     have h8:=(List.getElem?_eq_some_iff.1 hc).1;rw[←hflat,hpl] at h8;exact h8
    rw[List.getElem?_take_of_lt hj,List.getElem?_drop] at hc;rw[Addr.add_lit];have:=gcell _ c hc;rw[←this]
    congr 2
    omega
   have hone:=oneC_enc S (LO.v1_ok hpv)
   have hsv:0<m→encL S (.sl tg k sz m)=.slice (some ⟨(S.loc tg).b,(S.loc tg).off+k*sz,none⟩) m ((S.loc tg).cap - k):=fun hm=>enc_sl k sz m (gnil (by omega)) (by omega)
   split at h1
   ·split at h1
    case isFalse=>cases h1
    rename_i hbd;obtain⟨c1,c2,c3,c4,c5,c6⟩:=AS.obj_chk h1
    rcases Nat.eq_zero_or_pos m with hm|hm
    ·subst hm
     have hpe:p.flat=[]:=List.eq_nil_of_length_eq_zero (by rw[hpl,Nat.zero_mul]);obtain⟨hR,hl⟩:=R.nilObj O (nb:=⟨e,sz,false,some p⟩) (on:=p) rfl hpe c3 c2 rfl hpos;refine⟨.slice none 0 0,w,?_,_,_,_,c1,fun r' hr'=>?_,hF.purge hl,hR,⟨Nat.le_refl _,fun _ _ _ h=>h⟩,fun b hb _=>⟨rfl,by simp[Sto.put,SL.none]⟩⟩
     ·simp only[encT,encL,SL.val]
      exact run_append_zero happ ty _ _
     ·rw[TV.ok_eq hr']
      simp[encT,encL,later_zero,Sto.put_loc,SL.none,SL.val,SL.addr]
    ·obtain⟨S',w',hr,hR,hl,hu⟩:=R.appendNil (P:=P) O (nb:=⟨e,sz,false,some p⟩) (on:=p) rfl c3 c2 rfl hpos tt ty i z ht hi hz hsz hzs _ m ((S.loc tg).cap - k) hpl hnews hone (by rw[hby];exact hbd.1) hbd.2
     refine⟨encL S' (.sl (.loc s.L.length) 0 sz m),w',?_,_,_,S',c1,fun r' hr'=>?_,hF.purge hl,hR,hu.1,fun b hb _=>hu.2 b hb⟩
     ·have e1:encT S (.l (.sl tg k sz m))=encL S (.sl tg k sz m):=rfl
      have e2:encT S (.l (.v (.slice none 0 0)):TV D.τ)=.slice none 0 0:=rfl;rw[e1,e2,hsv hm];exact hr
     ·rw[TV.ok_eq hr']
      rfl
   ·rename_i bt bk bsz bn
    cases hb3:(Nat.beq bsz sz&&Nat.blt 0 m) with
    |false=>rw[hb3] at h1;cases h1
    |true=>
     rw[hb3] at h1;simp only[cond_true] at h1;simp only[Bool.and_eq_true,Nat.beq_eq] at hb3;obtain⟨rfl,hm0⟩:=hb3;have hm:=Nat.le_of_ble_eq_true hm0;obtain⟨bo,h2,bof,bg⟩:=AS.gt_ok (D:=D) O h1
     split at h2
     case isFalse=>cases h2
     rename_i hbd;obtain⟨hbk,hbb,hb63⟩:=hbd;obtain⟨bf1,bf2⟩:=LO.slc_fits (k:=bk) (n:=bn) bof hbk
     split at h2
     ·cases h2
     rename_i bp hbp
     split at h2
     ·cases h2
     rename_i on hon;obtain⟨bpf,bpfit,bplen⟩:=LO.typed_ok bf1 (typed_len (τ:=D.τ) hkl) hbp;obtain⟨of1,of2,of3⟩:=LO.cat_ok bpfit pfit hon
     have honflat:on.flat=(bo.flat.drop (bk*bsz)).take (bn*bsz)++p.flat:=by rw[of1,bpf,LO.slc_ok bk bn bof]
     have hkn:(bk+bn)*bsz≤bo.flat.length:=by rw[LO.flat_len bof];exact Nat.mul_le_mul_right _ hbk
     have e1:encT S (.l (.sl tg k bsz m))=encL S (.sl tg k bsz m):=rfl;have e2:encT S (.l (.sl bt bk bsz bn))=encL S (.sl bt bk bsz bn):=rfl
     split at h2
     ·rename_i u
      cases hb4:(!(D.isro u)&&!(D.M.fix u)&&Nat.beq (D.M.ty u) e&&Nat.beq (D.M.sz u) bsz) with
      |false=>rw[hb4] at h2;cases h2
      |true=>
       rw[hb4] at h2;simp only[cond_true] at h2;simp only[Bool.and_eq_true,Bool.not_eq_true',Nat.beq_eq] at hb4;obtain⟨⟨⟨b1,b2⟩,b3⟩,b4⟩:=hb4;obtain⟨c1,c2,c3,c4,c5,c6⟩:=AS.obj_chk h2
       have hcu:D.c s.st u=some bo.flat∧s.alive u=true:=by
        rcases bg with ⟨u',hu',_,ha,hc⟩|⟨j,ob,hj,_⟩
        ·injection hu' with hu'
         subst hu';refine⟨?_,ha⟩
         rcases hc with hc|hc
         ·exact hc
         ·have:=O.rois _ _ _ hc
          rw[b1] at this
          cases this
        ·cases hj
       have hc:contA s.st s.dk s.L (.m u)=some bo.flat:=by simp[contA,AS.alive_not hcu.2,hcu.1]
       obtain⟨S',w',hr,hR,hl,hu⟩:=R.append (P:=P) O (dk':=u::s.dk) hc (fun e=>by cases e) b2 bk bn (by show (bk+bn)*D.M.sz u≤_;rw[b4];exact hkn) (L1:=s.L) rfl rfl (nb:=⟨e,bsz,false,some on⟩) (on:=on) rfl c3 c2 b3.symm b4.symm rfl p.flat honflat
        (fun t ht1 ht2=>by
         cases t with
         |m t=>
          have:t≠u:=fun e=>ht2 (by rw[e])
          by_cases htd:t∈s.dk
          ·simp[contA,htd]
          ·simp[contA,htd,this]
         |loc q=>
          have hq:q≠s.L.length:=fun e=>ht1 (by rw[e])
          simp only[contA]
          rcases Nat.lt_or_gt_of_ne hq with h|h
          ·rw[List.getElem?_append_left h]
          ·rw[List.getElem?_eq_none (by simp;omega),List.getElem?_eq_none (by omega)])
        (by simp[contA]) tt ty i z ht hi hz hsz hzs _ m ((S.loc tg).cap - k) hpl hnews hone (by rw[hby];exact hbb) hb63
       refine⟨encL S' (.sl (.loc s.L.length) 0 bsz (bn+m)),w',?_,_,_,S',c1,fun r' hr'=>?_,hF.purge hl,hR,hu.1,fun b hb hn=>hu.2 b hb (hn _ _ _ _ rfl)⟩
       ·rw[e1,e2,hsv hm]
        exact hr
       ·rw[TV.ok_eq hr']
        rfl
     ·rename_i q
      split at h2
      ·cases h2
      rename_i ob hob
      cases hb4:(!ob.fix&&Nat.beq ob.ty e&&Nat.beq ob.sz bsz) with
      |false=>rw[hb4] at h2;cases h2
      |true=>
       rw[hb4] at h2;simp only[cond_true] at h2;simp only[Bool.and_eq_true,Bool.not_eq_true',Nat.beq_eq] at hb4;obtain⟨⟨b2,b3⟩,b4⟩:=hb4;obtain⟨c1,c2,c3,c4,c5,c6⟩:=AS.obj_chk h2;have hlt:=(List.getElem?_eq_some_iff.1 hob).1
       have ho:ob.o=some bo:=by
        rcases bg with ⟨u',hu',_⟩|⟨j,ob',hj,hob',ho',_⟩
        ·cases hu'
        ·injection hj with hj
         subst hj;rw[hob] at hob'
         injection hob' with hob'
         subst hob';exact ho'
       have hc:contA s.st s.dk s.L (.loc q)=some bo.flat:=by simp[contA,hob,ho]
       have mq:(metaA D s.L).ty (.loc q)=ob.ty∧(metaA D s.L).sz (.loc q)=ob.sz∧(metaA D s.L).fix (.loc q)=ob.fix:=by simp[metaA,hob]
       obtain⟨S',w',hr,hR,hl,hu⟩:=R.append (P:=P) O (dk':=s.dk) hc (fun e=>by injection e with e;omega) (by rw[mq.2.2];exact b2) bk bn (by rw[mq.2.1,b4];exact hkn) (L1:=s.L.set q {ob with o:=none}) (by simp) (meta_set hob _) (nb:=⟨e,bsz,false,some on⟩) (on:=on) rfl c3 c2 (by rw[mq.1,b3]) (by rw[mq.2.1,b4]) rfl p.flat honflat
        (fun t ht1 ht2=>by
         cases t with
         |m t=>rfl
         |loc q'=>
          have hq:q'≠s.L.length:=fun e=>ht1 (by rw[e])
          have hq2:q'≠q:=fun e=>ht2 (by rw[e])
          simp only[contA]
          rcases Nat.lt_or_gt_of_ne hq with h|h
          ·rw[List.getElem?_append_left (by simpa using h),List.getElem?_set_ne (Ne.symm hq2)]
          ·rw[List.getElem?_eq_none (by simp;omega),List.getElem?_eq_none (by omega)])
        (by simp[contA,List.getElem?_append_left,hlt]) tt ty i z ht hi hz hsz hzs _ m ((S.loc tg).cap - k) hpl hnews hone (by rw[hby];exact hbb) hb63
       refine⟨encL S' (.sl (.loc s.L.length) 0 bsz (bn+m)),w',?_,_,_,S',c1,fun r' hr'=>?_,hF.purge hl,?_,hu.1,fun b hb hn=>hu.2 b hb (hn _ _ _ _ rfl)⟩
       ·rw[e1,e2,hsv hm]
        exact hr
       ·rw[TV.ok_eq hr']
        rfl
       ·show Rel B s.st ((s.L++[_]).set q _) s.dk S' w'
        rw[List.set_append_left _ _ hlt];exact hR
   ·cases h1
end
end Go.Beat
end
section
namespace Go.Beat
open Go
section
variable {D:Md} {X:Type} {B:Base D} {s:AS D} {P:Program} {T:TabA} {n:Nat} {ds:List Deferred} {S:Sto (Tg D.τ)} {w:World} {a:Act}
theorem encL_same {τ:Type}{S S':Sto (Tg τ)}(h:S'.loc=S.loc):(encL S':AL τ→Value)=encL S:=by
 funext c
 cases c<;>simp [encL,h]
theorem encT_same {τ:Type}{S S':Sto (Tg τ)}(h:S'.loc=S.loc):(encT S':TV τ→Value)=encT S:=by
 have h1:=encL_same h
 have h2:(encE S':_→Value)=encE S:=by
  funext e
  cases e<;>simp [encE,h1]
 funext v
 cases v<;>simp [encT,h1,h2]
def isAlloc:Op→Bool
 |.alloc _|.box _ _|.buildSlice _ _ _=>true
 |_=>false
def RunsAs (P:Program)(B:Base D)(n:Nat)(ds:List Deferred)(a:Act)(w:World)(o:Oper)(S:Sto (Tg D.τ))(κ:TV D.τ→AS D→Option X)(x:X):Prop:=∀Q:Exit→Act→World→Prop,
 o.wp P a w (fun a' w'=>(isAlloc o.op=true→∃ob,w'=w.alloc ob)∧∃v,a'=a.put o.dst v∧Stp B n ds a κ x v w' fun S'=>isAlloc o.op=true→∀b,b<w.heap.size→S'.own b=S.own b) Q
structure CallOk (P:Program) (C:CallE D X):Prop where
 call:∀(f:FuncId) (vs:List (TV D.τ)) (st:D.σ) (κ:TV D.τ→List (LObj D.τ)→D.σ→List Nat→List Nat→Option X) (x:X),C.call f vs st κ=some x→
  ∃r L' st' pk gk,κ r L' st' pk gk=some x∧callOk P f=true∧∀S w,Rel ⟨S,w,st,pk,gk⟩ st [] [] S w→Calls P f (vs.map (encT S)).toArray w fun e w'=>
   ∃S1,e=.returned (encT S1 r)∧Rel ⟨S,w,st,pk,gk⟩ st' L' [] S1 w'
 op:∀(T:TabA) (B:Base D) (n:Nat) (ds:List Deferred) (s:AS D) (S:Sto (Tg D.τ)) (w:World) (a:Act) (o:Oper) (κ:TV D.τ→AS D→Option X) (x:X),T.Ok P→T.pk=B.pk→T.gk=B.gk→C.op T s o κ=some x→FrmA n ds a S s.fr→Rel B s.st s.L s.dk S w→RunsAs P B n ds a w o S κ x
 pc:∀(f:FuncId) (vs:List (TV D.τ)) (st:D.σ) (κ:TV D.τ→List (LObj D.τ)→D.σ→List Nat→List Nat→Option X) (κp:Value→D.σ→List Nat→List Nat→Option X) (x:X),C.pc f vs st κ κp=some x→
  callOk P f=true∧((∃r L' st' pk gk,κ r L' st' pk gk=some x∧∀S w,Rel ⟨S,w,st,pk,gk⟩ st [] [] S w→Calls P f (vs.map (encT S)).toArray w fun e w'=>∃S1,e=.returned (encT S1 r)∧Rel ⟨S,w,st,pk,gk⟩ st' L' [] S1 w')∨
   ∃v st' pk gk,κp v st' pk gk=some x∧∀S w,Rel ⟨S,w,st,pk,gk⟩ st [] [] S w→Calls P f (vs.map (encT S)).toArray w fun e w'=>e=.panicked [{v:=v,recovered:=false}]∧∃S1,Rel ⟨S,w,st,pk,gk⟩ st' [] [] S1 w')
theorem argsA_ok {fr:AFr D.τ}(hF:FrmA n ds a S fr):∀{xs:List Operand} {vs:List (TV D.τ)},argsA fr xs=some vs→xs.map a.eval=vs.map (encT S)
 |[],vs,h=>by simp[argsA] at h;subst h;rfl
 |x::r,vs,h=>by
  simp only[argsA] at h
  split at h
  ·rename_i v hv
   split at h
   ·rename_i vs' hvs
    simp only[Option.some.injEq] at h;subst h;simp[hF.eval hv,argsA_ok hF hvs]
   ·cases h
  ·cases h
theorem any_false {α:Type}{l:List α}{p:α→Bool}(h:l.any p=false){x:α}(hx:x∈l):p x=false:=by
 rw[List.any_eq_false] at h
 simpa using h x hx
theorem look_mem {τ:Type}:∀{fr:AFr τ} {t:Nat} {v:TV τ},lookA fr t=some v→(t,v)∈fr
 |[],_,_,h=>by cases h
 |(k,u)::r,t,v,h=>by
  unfold lookA at h
  split at h
  ·rename_i hk
   have hk':k=t:=by simpa using hk
   subst hk';rw[TV.ok_eq h];exact List.mem_cons_self ..
  ·exact List.mem_cons_of_mem _ (look_mem h)
theorem has_or {τ:Type}{q1 q2 q:Tg τ→Bool}(h:∀t,q t=true→q1 t=true∨q2 t=true){v:TV τ}(h1:v.has q1=false)(h2:v.has q2=false):v.has q=false:=by
 have hl:∀c:AL τ,c.has q1=false→c.has q2=false→c.has q=false:=fun c h1 h2=>by
  cases c with
  |v x=>rfl
  |p t k sz f=>
   cases hq:q t with
   |false=>exact hq
   |true=>
    rcases h t hq with h3|h3
    ·simp[AL.has,h3] at h1
    ·simp[AL.has,h3] at h2
  |sl t k sz f=>
   cases hq:q t with
   |false=>exact hq
   |true=>
    rcases h t hq with h3|h3
    ·simp[AL.has,h3] at h1
    ·simp[AL.has,h3] at h2
 have hls:∀cs:List (AL τ),cs.any (·.has q1)=false→cs.any (·.has q2)=false→cs.any (·.has q)=false:=fun cs h1 h2=>by
  rw[List.any_eq_false];intro c hc
  simpa using hl c (any_false h1 hc) (any_false h2 hc)
 cases v with
 |l c=>exact hl c h1 h2
 |agg xs=>exact hls xs h1 h2
 |tup xs=>
  simp only[TV.has] at h1 h2 ⊢;rw[List.any_eq_false];intro e he;have g1:=any_false h1 he;have g2:=any_false h2 he
  cases e with
  |inl c=>simpa using hl c g1 g2
  |inr ys=>
   have:=hls ys g1 g2
   simp only at this ⊢
   rw[this]
   simp
 |x=>rfl
theorem obj_or {τ:Type}{q1 q2 q:Tg τ→Bool}(h:∀t,q t=true→q1 t=true∨q2 t=true){ob:LObj τ}(h1:ob.has q1=false)(h2:ob.has q2=false):ob.has q=false:=by
 unfold LObj.has at*
 split
 ·rename_i xs hxs
  rw[hxs] at h1 h2;exact has_or (v:=.agg xs) h h1 h2
 ·rfl
theorem liveAll_ok {st:D.σ}{gk:List Nat}{o:Option X}{x:X}:∀{l:List D.τ},liveAll D st gk o l=some x→o=some x∧∀t∈l,deadT D st gk (.m t)=false
 |[],h=>⟨h,fun _ h=>by cases h⟩
 |t::r,h=>by
  simp only[liveAll] at h
  cases hg:gk.contains (D.kind t) with
  |false=>
   rw[hg] at h;obtain⟨h1,h2⟩:=liveAll_ok h;refine⟨h1,fun u hu=>?_⟩
   rcases List.mem_cons.1 hu with rfl|hu
   ·simp only[deadT,hg,Bool.false_and]
   ·exact h2 u hu
  |true=>
   rw[hg] at h;simp only[cond_true] at h
   cases hl:D.live st t with
   |false=>rw[hl] at h;cases h
   |true=>
    rw[hl] at h;obtain⟨h1,h2⟩:=liveAll_ok h;refine⟨h1,fun u hu=>?_⟩
    rcases List.mem_cons.1 hu with rfl|hu
    ·simp only[deadT,hl,Bool.not_true,Bool.and_false]
    ·exact h2 u hu
theorem tagsL_has {τ:Type}{q:Tg τ→Bool}(hq:∀j,q (.loc j)=false){a:AL τ}(h:∀t∈tagsL a,q (.m t)=false):a.has q=false:=by
 cases a with
 |v x=>rfl
 |p t k s f=>cases t with
  |m t=>exact h t (List.mem_singleton.2 rfl)
  |loc j=>exact hq j
 |sl t k s f=>cases t with
  |m t=>exact h t (List.mem_singleton.2 rfl)
  |loc j=>exact hq j
theorem tagsLs_has {τ:Type}{q:Tg τ→Bool}(hq:∀j,q (.loc j)=false){xs:List (AL τ)}(h:∀t∈xs.flatMap tagsL,q (.m t)=false):xs.any (·.has q)=false:=by
 rw[List.any_eq_false];intro a ha
 simpa using tagsL_has hq fun t ht=>h t (List.mem_flatMap.2 ⟨a,ha,ht⟩)
theorem tagsT_has {τ:Type}{q:Tg τ→Bool}(hq:∀j,q (.loc j)=false){v:TV τ}(h:∀t∈tagsT v,q (.m t)=false):v.has q=false:=by
 cases v with
 |l a=>exact tagsL_has hq h
 |agg xs=>exact tagsLs_has hq h
 |tup xs=>
  simp only[TV.has];rw[List.any_eq_false];intro e he
  cases e with
  |inl a=>simpa using tagsL_has hq fun t ht=>h t (List.mem_flatMap.2 ⟨.inl a,he,ht⟩)
  |inr ys=>
   have:=tagsLs_has hq (xs:=ys) fun t ht=>h t (List.mem_flatMap.2 ⟨.inr ys,he,ht⟩)
   simp only
   rw[this]
   simp
 |x=>rfl
theorem tagsO_has {τ:Type}{q:Tg τ→Bool}(hq:∀j,q (.loc j)=false){ob:LObj τ}(h:∀t∈tagsO ob,q (.m t)=false):ob.has q=false:=by
 unfold LObj.has
 split
 ·rename_i xs hxs
  exact tagsLs_has hq fun t ht=>h t (by unfold tagsO;rw[hxs];exact ht)
 ·rfl
theorem AS.back_ok (O:MdOk D){κ:TV D.τ→AS D→Option X}{x:X}{r:TV D.τ}{L':List (LObj D.τ)}{st2:D.σ}{pk gk:List Nat}(hpk:T.pk=B.pk)(hgk:T.gk=B.gk)(h1:s.back T κ r L' st2 pk gk=some x)(hdk:s.dk=[])(hF:FrmA n ds a S s.fr)(R:Rel B s.st s.L [] S w){S1:Sto (Tg D.τ)}{w':World}(R1:(L'.all objOk)=true→Rel ⟨S.down s.L,w,s.st,pk,gk⟩ st2 L' [] S1 w'):Stp B n ds a κ x (encT S1 r) w' fun _=>True:=by
 unfold AS.back at h1
 cases hb:(!(s.L.any (·.has (turnT D s.L.length pk)))&&L'.all objOk&&pk.all (fun k=>T.pk.contains k)&&gk.all (fun k=>T.gk.contains k||T.pk.contains k)) with
 |false=>rw[hb] at h1;cases h1
 |true=>
  rw[hb] at h1;simp only[cond_true] at h1;simp only[Bool.and_eq_true,Bool.not_eq_true'] at hb;obtain⟨⟨⟨b1,b2⟩,b5⟩,b6⟩:=hb;obtain⟨h1,hlv⟩:=liveAll_ok h1
  have b3:(s.L.any (·.has (deadT D s.st gk)))=false:=by
   rw[List.any_eq_false];intro ob hob
   simpa using tagsO_has (q:=deadT D s.st gk) (fun _=>rfl) fun t ht=>hlv t (List.mem_append_left _ (List.mem_flatMap.2 ⟨ob,hob,ht⟩))
  have b4:(s.fr.any fun e=>e.2.has (deadT D s.st gk))=false:=by
   rw[List.any_eq_false];intro e he
   simpa using tagsT_has (q:=deadT D s.st gk) (fun _=>rfl) fun t ht=>hlv t (List.mem_append_right _ (List.mem_flatMap.2 ⟨e,he,ht⟩))
  have R1:=R1 b2
  -- what turns
  let q:Tg D.τ→Bool:=fun t=>turnT D s.L.length pk t||deadT D s.st gk t
  have hq:∀t,q (.m t)=false→S1.loc (.m t)=S.loc (.m t):=fun t ht=>by
   simp only[q,turnT,deadT,Bool.or_eq_false_iff] at ht
   refine R1.turn t ht.1 fun hg=>?_
   have h5:=ht.2;have hg':gk.contains (D.kind t)=true:=hg;rw[hg'] at h5;exact O.live _ _ (by simpa using h5)
  have hql:∀j,s.L.length≤j→q (.loc j)=true:=fun j hj=>by
   have:Nat.blt j s.L.length=false:=by
    cases h:Nat.blt j s.L.length with
    |false=>rfl
    |true=>exact absurd (Nat.le_of_ble_eq_true h) (by omega)
   simp[q,turnT,this]
  have hor:∀t,q t=true→turnT D s.L.length pk t=true∨deadT D s.st gk t=true:=fun t ht=>by simpa [q] using ht
  have hLq:s.L.any (·.has q)=false:=by
   rw[List.any_eq_false];intro ob hob
   simpa using obj_or hor (any_false b1 hob) (any_false b3 hob)
  obtain⟨hR,hloc,hsh⟩:=R.up O (fun k hk=>by rw[←hpk];have:=List.all_eq_true.1 b5 k (by simpa using hk);simpa using this) (fun k hk=>by
   rw[←hpk,←hgk];have:=List.all_eq_true.1 b6 k (by simpa using hk)
   simpa using this) R1 q hq hql hLq (by
   rw[List.all_eq_true] at b2 ⊢;intro ob hob;have:=b2 ob hob;unfold objOk at this
   exact this)
  refine⟨_,_,S.up s.L S1,h1,fun r' hr'=>?_,⟨hF.defs,hF.size,fun t v hv=>?_⟩,hR,trivial⟩
  ·rw[TV.ok_eq hr',enc_shT hsh]
  ·obtain⟨g1,g2⟩:=look_purge hv
   rw[hF.get t v g1]
   refine (encT_eq hloc ?_).symm
   exact has_or hor g2 (any_false b4 (look_mem g1))
theorem lendV_ok {τ:Type}{t:τ}{S S':Sto (Tg τ)}{q:Tg τ→Bool}(hl:∀u,q u=false→S'.loc u=S.loc u):∀{vs:List (TV τ)} {j sz:Nat} {vs':List (TV τ)},lendV t vs=some (j,sz,vs')→S'.loc (.m t)=S.loc (.loc j)→vs.all (fun v=>!(v.has q))=true→vs'.map (encT S')=vs.map (encT S)
 |[],_,_,_,h,_,_=>by cases h
 |v::r,j,sz,vs',h,hj,hq=>by
  simp only[List.all_cons,Bool.and_eq_true,Bool.not_eq_true'] at hq
  have rest:∀{r:List (TV τ)},r.all (fun v=>!(v.has q))=true→r.map (encT S')=r.map (encT S):=fun {r} hr=>List.map_congr_left fun v hv=>encT_eq hl (by simpa using List.all_eq_true.1 hr v hv)
  unfold lendV at h
  split at h
  ·simp only[Option.some.injEq,Prod.mk.injEq] at h
   obtain⟨rfl,rfl,rfl⟩:=h;simp only[List.map_cons,rest hq.2,encT,encL,hj]
  ·split at h
   ·rename_i j' sz' r' hr
    simp only[Option.some.injEq,Prod.mk.injEq] at h;obtain⟨rfl,rfl,rfl⟩:=h;simp only[List.map_cons,lendV_ok hl hr hj hq.2,encT_eq hl hq.1]
   ·cases h
theorem AS.call_ok (O:MdOk D){C:CallE D X}(hC:CallOk P C){f:FuncId}{vs:List (TV D.τ)}{κ:TV D.τ→AS D→Option X}{x:X}(hpk:T.pk=B.pk)(hgk:T.gk=B.gk)(h:s.call T C f vs κ=some x)(hF:FrmA n ds a S s.fr)(R:Rel B s.st s.L s.dk S w):
  callOk P f=true∧Calls P f (vs.map (encT S)).toArray w fun e w'=>∃v,e=.returned v∧Stp B n ds a κ x v w' fun _=>True:=by
 unfold AS.call at h
 split at h
 case h_2=>cases h
 rename_i hdk;rw[hdk] at R
 split at h
 ·obtain⟨r,L',st',pk,gk,h1,h2,h3⟩:=hC.call _ _ _ _ _ h
  refine⟨h2,?_⟩;have hcall:=h3 (S.down s.L) w (R.down O pk gk);rw[encT_same (S:=S) (S':=S.down s.L) rfl] at hcall
  refine hcall.mono fun e w' he=>?_
  obtain⟨S1,he,R1⟩:=he;exact⟨_,he,AS.back_ok O hpk hgk h1 hdk hF R fun _=>R1⟩
 ·rename_i j sz vs' hlend
  split at h
  ·cases h
  ·rename_i ob hob
   split at h
   ·cases h
   ·rename_i o ho
    split at h
    ·cases h
    rename_i p hp
    cases hb:(p.vs&&o.fits ob.sz&&T.kinOk ob.ty ob.sz&&Nat.beq ob.sz (D.M.sz D.larg)&&Nat.beq sz ob.sz&&vs.all (fun v=>!(v.has (lentT D)))) with
    |false=>rw[hb] at h;cases h
    |true=>
     rw[hb] at h;simp only[cond_true] at h;simp only[Bool.and_eq_true,Nat.beq_eq] at hb;obtain⟨⟨⟨⟨⟨b1,b2⟩,b6⟩,b3⟩,b4⟩,b5⟩:=hb;obtain⟨pf,pfit,plen⟩:=LO.typed_ok b2 (typed_len (τ:=D.τ) b6) hp;obtain⟨st1,h1,c1,c2,c3,c4⟩:=O.ls _ _ _ _ h;obtain⟨r,L',st',pk,gk,h4,h2,h3⟩:=hC.call _ _ _ _ _ h1;refine⟨h2,?_⟩;have Rd:=R.down O pk gk;have Ht:=R.atLoc hob ho
     have hm:(metaA D s.L).sz (.loc j)=ob.sz:=by simp[metaA,hob]
     have hv:=LO.vs_ok b1;rw[←pf] at Ht
     have hlv:∀i a,p.flat[i]?=some a→LiveB s.L S (S.loc (.loc j)).b:=fun i a ha=>⟨j,ob,o,hob,ho,Ht.notNil (j:=i) (by simpa using (List.getElem?_eq_some_iff.1 ha).1),rfl⟩
     have Rl:=Rd.lend O (p:=S.loc (.loc j)) hv c1 c2 c3 (fun i a ha=>R.cell (t:=.loc j) (cs:=p.flat) (by simp[contA,hob,ho,pf]) ha) (fun hne=>by
      obtain⟨a,l,e⟩:=List.exists_cons_of_ne_nil hne
      have ha:p.flat[0]?=some a:=by rw[e];rfl
      refine⟨?_,Ht.notNil (j:=0) (by simpa using (List.getElem?_eq_some_iff.1 ha).1)⟩;have:=hlv 0 a ha
      simp[Sto.down,this]) (by
      obtain⟨n',e1,e2⟩:=Ht.len;rw[List.length_map,hm] at e1;rw[e1,b3]
      exact Nat.mul_le_mul_right _ e2)
     have hcall:=h3 _ w Rl
     have hl:∀u,lentT D u=false→((S.down s.L).move (.m D.larg) (S.loc (.loc j))).loc u=S.loc u:=fun u hu=>Sto.move_loc_ne _ _ fun e=>by
      subst e;simp[lentT] at hu
     rw[lendV_ok (S:=S) (q:=lentT D) hl hlend (Sto.move_loc _ _ _) b5] at hcall
     refine hcall.mono fun e w' he=>?_
     obtain⟨S1,he,R1⟩:=he
     cases hr:r.has (lentT D) with
     |true=>rw[hr] at h4;cases h4
     |false=>
      rw[hr] at h4;simp only[cond_false] at h4;refine⟨_,he,?_⟩
      have e1:encT S1 r=encT (S1.move (.m D.larg) ((S.down s.L).loc (.m D.larg))) r:=(encT_eq (q:=lentT D) (fun u hu=>Sto.move_loc_ne _ _ fun e=>by
       subst e
       simp[lentT] at hu) hr).symm
      rw[e1]
      exact AS.back_ok O hpk hgk h4 hdk hF R fun hL'=>Rd.unlend O c1 c2 R1 (by
       rw[List.all_eq_true] at hL' ⊢;intro ob hob;have:=hL' ob hob;unfold objOk at this
       exact this)
theorem AS.callP_ok (O:MdOk D){C:CallE D X}(hC:CallOk P C){f:FuncId}{vs:List (TV D.τ)}{κ:TV D.τ→AS D→Option X}{κp:Value→AS D→Option X}{x:X}(hpk:T.pk=B.pk)(hgk:T.gk=B.gk)(h:s.callP T C f vs κ κp=some x)(hF:FrmA n ds a S s.fr)(R:Rel B s.st s.L s.dk S w):
  callOk P f=true∧Calls P f (vs.map (encT S)).toArray w fun e w'=>(∃v,e=.returned v∧Stp B n ds a κ x v w' fun _=>True)∨
   ∃v s' S',e=.panicked [{v:=v,recovered:=false}]∧κp v s'=some x∧FrmA n ds a S' s'.fr∧Rel B s'.st s'.L s'.dk S' w':=by
 unfold AS.callP at h
 split at h
 case h_2=>cases h
 rename_i hdk;rw[hdk] at R;obtain⟨h2,h⟩:=hC.pc _ _ _ _ _ _ h;refine⟨h2,?_⟩
 rcases h with ⟨r,L',st',pk,gk,h1,h3⟩|⟨v,st',pk,gk,h1,h3⟩
 ·have hcall:=h3 (S.down s.L) w (R.down O pk gk)
  rw[encT_same (S:=S) (S':=S.down s.L) rfl] at hcall
  refine hcall.mono fun e w' he=>?_
  obtain⟨S1,he,R1⟩:=he;exact .inl ⟨_,he,AS.back_ok O hpk hgk h1 hdk hF R fun _=>R1⟩
 ·have hcall:=h3 (S.down s.L) w (R.down O pk gk)
  rw[encT_same (S:=S) (S':=S.down s.L) rfl] at hcall
  refine hcall.mono fun e w' he=>?_
  obtain⟨he,S1,R1⟩:=he
  obtain⟨r,s',S',g1,_,g3,g4,_⟩:=AS.back_ok O hpk hgk h1 hdk hF R (S1:=S1) fun _=>R1
  exact .inr ⟨v,s',S',he,g1,g3,g4⟩
theorem cells_store (hT:T.Ok P){t:Nat}{v:TV D.τ}{cs:List (AL D.τ)}(hcs:cellsOf v=some cs)(hb:stOk T t v cs.length=true):(encT S v).cells.toList=cs.map (encL S)∧(sizeOf t).run P w=.ok cs.length w:=by
 cases v with
 |l c=>
  simp only[cellsOf,Option.some.injEq] at hcs;subst hcs
  cases c with
  |v u=>
   simp only[stOk,Bool.and_eq_true] at hb;refine⟨?_,run_sizeOf_sca (Tab.ok_sca hT.base (t:=t) hb.1) w⟩;rw[encT,cells_enc S (.inl (show isV (.v u:AL D.τ)=true from hb.2))];rfl
  |p t k sz f=>exact⟨rfl,run_sizeOf_sca (Tab.ok_sca hT.base (t:=_) hb) w⟩
  |sl t k sz m=>exact⟨rfl,run_sizeOf_sca (Tab.ok_sca hT.base (t:=_) hb) w⟩
 |agg xs=>
  simp only[cellsOf,Option.some.injEq] at hcs;subst hcs;unfold stOk at hb
  simp only at hb
  split at hb
  ·rename_i m hm
   simp only[Nat.beq_eq] at hb;refine⟨by simp[encT,Value.cells],?_⟩;rw[hb];exact run_sizeOf_agg (hT.agOk hm) w
  ·cases hb
 |tup xs=>cases hcs
 |x=>cases hcs
theorem heavyA_ok (hT:T.Ok P)(O:MdOk D){C:CallE D X}(hC:CallOk P C)(hpk:T.pk=B.pk)(hgk:T.gk=B.gk){o:Oper}{κ:TV D.τ→AS D→Option X}{x:X}(h:heavyA T C s o κ=some x)(hF:FrmA n ds a S s.fr)(R:Rel B s.st s.L s.dk S w)(Q:Exit→Act→World→Prop):
  o.wp P a w (fun a' w'=>(isAlloc o.op=true→∃ob,w'=w.alloc ob)∧∃v,a'=a.put o.dst v∧Stp B n ds a κ x v w' fun S'=>isAlloc o.op=true→∀b,b<w.heap.size→S'.own b=S.own b) Q:=by
 have val:∀v w',(isAlloc o.op=true→∃ob,w'=w.alloc ob)→(execOp a.eval o).run P w=.ok (.value v) w'→(Stp B n ds a κ x v w' fun S'=>isAlloc o.op=true→∀b,b<w.heap.size→S'.own b=S.own b)→o.wp P a w (fun a' w'=>(isAlloc o.op=true→∃ob,w'=w.alloc ob)∧∃v,a'=a.put o.dst v∧Stp B n ds a κ x v w' fun S'=>isAlloc o.op=true→∀b,b<w.heap.size→S'.own b=S.own b) Q:=fun v w' hal hr hs=>by
  unfold Oper.wp;rw[hr];exact⟨hal,v,rfl,hs⟩
 have newobj:∀{t:TypeId} {cs:List (AL D.τ)},s.obj t 1 true (.cells cs) (fun s'=>κ (.l (.p (.loc s.L.length) 0 1 0)) s')=some x→(execOp a.eval o).run P w=.ok (.value (.pointer (some ⟨w.heap.size,0,none⟩))) (w.alloc (.cells (cs.map (encL S)).toArray t))→o.wp P a w (fun a' w'=>(isAlloc o.op=true→∃ob,w'=w.alloc ob)∧∃v,a'=a.put o.dst v∧Stp B n ds a κ x v w' fun S'=>isAlloc o.op=true→∀b,b<w.heap.size→S'.own b=S.own b) Q:=fun {t cs} h hr=>by
  obtain⟨h1,hF',hR⟩:=AS.obj_ok O h hF R
  refine val _ _ (fun _=>⟨_,rfl⟩) hr ⟨_,_,_,h1,fun r' hr'=>?_,hF',hR,fun _ b hb=>Sto.put_own S _ _ (Nat.ne_of_lt hb)⟩
  rw[TV.ok_eq hr'];simp[encT,encL,Sto.put_loc]
 obtain⟨dst,op,type,pos,after,guard⟩:=o
 cases op
 case alloc t=>
  simp only[heavyA] at h
  split at h
  ·rename_i zc hz
   obtain⟨i,z,hi,hzz,hzc⟩:=hT.zeOk hz
   refine newobj h ?_
   have e:((zc.map .v:List (AL D.τ)).map (encL S)).toArray=z.cells:=by
    apply Array.toList_inj.1
    rw[hzc];simp[Function.comp_def,encL]
   rw[e];simp[execOp,Instr.alloc,zeroValue,typeInfo,hi,hzz,newVar,newRow,newObj,program,Sem.run]
  ·cases h
 case box t x0=>
  simp only[heavyA] at h
  split at h
  ·rename_i v hv
   split at h
   ·rename_i cs hcs
    cases hb:cs.all oneC with
    |false=>rw[hb] at h;cases h
    |true=>
     rw[hb] at h;simp only[cond_true] at h
     refine newobj h ?_
     have e:(cs.map (encL S)).toArray=(encT S v).cells:=by
      cases v with
      |l c=>
       simp only[cellsOf,Option.some.injEq] at hcs;subst hcs;simp only[List.all_cons,List.all_nil,Bool.and_true] at hb;rw[encT,oneC_cells S hb];rfl
      |agg xs=>
       simp only[cellsOf,Option.some.injEq] at hcs;subst hcs;rfl
      |tup xs=>cases hcs
      |x=>cases hcs
     rw[e];simp[execOp,hF.eval hv,Instr.box,newVar,newRow,newObj,Sem.run]
   ·cases h
  ·cases h
 case buildSlice t len parts=>
  simp only[heavyA] at h
  split at h
  ·rename_i e size bytes hsl
   split at h
   ·rename_i cs hcs
    cases hb:(Nat.beq parts.size len&&Nat.blt 0 len&&Nat.ble (len*size) 16777216) with
    |false=>rw[hb] at h;cases h
    |true=>
     rw[hb] at h;simp only[cond_true] at h;simp only[Bool.and_eq_true,Nat.beq_eq] at hb;obtain⟨⟨b1,b2⟩,b3⟩:=hb;obtain⟨h1,hF',hR⟩:=AS.obj_ok O h hF R;have hr:=run_lit (w:=w) hT hsl hF hcs b1 (Nat.le_of_ble_eq_true b2) (Nat.le_of_ble_eq_true b3);obtain⟨c1,c2,c3,c4,c5,c6⟩:=AS.obj_chk h
     have hlen:(LO.cells cs).len size=len:=by
      obtain⟨vs,g1,g2,g3,g4⟩:=litA_vals hF parts.toList 0 cs hcs
      have e1:cs.length=len*size:=by
       have e2:(vs.flatMap fun v=>v.cells.toList).length=vs.length*size:=by
        clear g1 g3 g4
        induction vs with
        |nil=>simp
        |cons v vs ih=>
         simp only[List.flatMap_cons,List.length_append,List.length_cons];rw[ih (fun u hu=>g2 u (List.mem_cons_of_mem _ hu))];have:=g2 v (List.mem_cons_self ..);simp[this,Nat.add_mul];omega
       rw[←List.length_map (as:=cs) (f:=encL S),g3,e2,g4,Array.length_toList,b1]
      simp only[LO.len,e1];exact Nat.mul_div_cancel _ c5
     refine val (.slice (some ⟨w.heap.size,0,none⟩) len len) _ (fun _=>⟨_,rfl⟩) (by simp only[execOp,Sem.run_bind,hr,Result.andThen_ok];rfl) ⟨_,_,_,h1,fun r' hr'=>?_,hF',hR,fun _ b hb=>Sto.put_own S _ _ (Nat.ne_of_lt hb)⟩
     rw[TV.ok_eq hr'];simp[encT,encL,later_zero,Sto.put_loc,SL.val,SL.addr,hlen]
   ·cases h
  ·cases h
 case store t x0 y0=>
  simp only[heavyA] at h
  split at h
  ·rename_i tg k sz f hx
   cases hm:C.mst tg f with
   |true=>
    rw[hm] at h;exact hC.op _ _ _ _ _ _ _ _ _ _ _ hT hpk hgk h hF R Q
   |false=>
    rw[hm] at h;simp only[cond_false] at h
    split at h
    ·rename_i v hv
     split at h
     ·rename_i cs hcs
      cases hb:stOk T t v cs.length with
      |false=>rw[hb] at h;cases h
      |true=>
       rw[hb] at h;simp only[cond_true] at h;obtain⟨s',S',w',h1,hF',hR,hr⟩:=AS.store_ok (P:=P) O hpk h hF R;have hcells:=cells_store (P:=P) (w:=w) hT hcs hb (S:=S);have hst:=run_storeVar_cells (P:=P) (t:=t) hcells.2 hcells.1 (by simp) hr;unfold Oper.wp
       have e:(execOp a.eval (⟨dst,.store t x0 y0,type,pos,after,guard⟩:Oper)).run P w=.ok .skip w':=by
        have e1:a.eval x0=.pointer (some ⟨(S.loc tg).b,(S.loc tg).off+k*sz+f,none⟩):=hF.eval hx;simp only[execOp,e1,hF.eval hv,Instr.storeAt,Instr.sureAddr,Sem.run_bind];simp[hst]
       rw[e];exact⟨fun h=>(by cases h),undef,rfl,.x,s',S',h1,fun r' hr'=>(by cases hr'),hF',hR,fun h=>(by cases h)⟩
     ·cases h
    ·cases h
  ·cases h
 case call c=>
  simp only[heavyA] at h
  split at h
  ·rename_i hcal
   split at h
   ·rename_i x0 y0 t t' hargs hats
    cases hb:Nat.beq t t' with
    |false=>rw[hb] at h;cases h
    |true=>
     rw[hb] at h;simp only[cond_true] at h;simp only[Nat.beq_eq] at hb;subst hb
     split at h
     ·rename_i e size bytes b v hsl hx hv
      obtain⟨u,w',hr,hs⟩:=AS.app_ok (P:=P) hT O hsl type h hF R;obtain⟨r',s',S',g1,g2,g3,g4,_⟩:=hs
      refine val u w' (fun h=>by cases h) ?_ ⟨r',s',S',g1,g2,g3,g4,fun h=>by cases h⟩
      have e1:c.args.map a.eval=#[encT S b,encT S v]:=by
       apply Array.toList_inj.1
       rw[Array.toList_map,hargs];simp[hF.eval hx,hF.eval hv]
      have e2:c.argTypes=#[t,t]:=by apply Array.toList_inj.1;rw[hats]
      simp[execOp,resolve,hcal,invoke,builtin,e1,e2,hr]
     ·cases h
   ·cases h
  ·rename_i f hcal
   split at h
   ·rename_i vs hvs
    obtain⟨hok,hcall⟩:=AS.call_ok (P:=P) O hC hpk hgk h hF R
    have e1:c.args.map a.eval=(vs.map (encT S)).toArray:=by
     apply Array.toList_inj.1
     rw[Array.toList_map,argsA_ok hF hvs]
    have hr:(execOp a.eval (⟨dst,.call c,type,pos,after,guard⟩:Oper)).run P w=.ok (.enter f (vs.map (encT S)).toArray) w:=by
     simp[execOp,resolve,hcal,Act.eval,Deferred.ofValue,invoke,run_call hok];exact e1
    unfold Oper.wp;rw[hr];simp only[Oper.upon]
    refine hcall.mono fun e w' he=>?_
    obtain⟨v,rfl,r',s',S',g1,g2,g3,g4,_⟩:=he;exact⟨fun h=>(by cases h),v,rfl,r',s',S',g1,g2,g3,g4,fun h=>by cases h⟩
   ·cases h
  ·exact hC.op _ _ _ _ _ _ _ _ _ _ _ hT hpk hgk h hF R Q
 all_goals exact hC.op _ _ _ _ _ _ _ _ _ _ _ hT hpk hgk (by simpa only[heavyA] using h) hF R Q
theorem heavyApp_ok (hT:T.Ok P)(O:MdOk D){C:CallE D X}{o:Oper}{c:Call}{x0 y0:Operand}{base:TV D.τ}(hop:o.op=.call c)(hcal:c.callee=.builtin .append)(hargs:c.args.toList=[x0,y0])(hbase:evA s.fr x0=some base){κ:TV D.τ→AS D→Option X}{x:X}(h:heavyA T C s o κ=some x)(hF:FrmA n ds a S s.fr)(R:Rel B s.st s.L s.dk S w)(Q:Exit→Act→World→Prop):
  o.wp P a w (fun a' w'=>∃v,a'=a.put o.dst v∧Stp B n ds a κ x v w' fun S'=>(w.heap.size≤w'.heap.size∧MapsStay w w')∧∀b,b<w.heap.size→(∀u k sz n,base=.l (.sl u k sz n)→S.own b≠some u)→w'.heap[b]?=w.heap[b]?∧S'.own b=S.own b) Q:=by
 obtain⟨dst,op,type,pos,after,guard⟩:=o
 simp only at hop
 subst hop;simp only[heavyA,hcal,hargs] at h
 split at h
 ·rename_i x1 y1 t t' hargs' hats
  simp only[List.cons.injEq,and_true] at hargs';obtain⟨rfl,rfl⟩:=hargs'
  cases hb:Nat.beq t t' with
  |false=>rw[hb] at h;cases h
  |true=>
   rw[hb] at h;simp only[cond_true] at h;simp only[Nat.beq_eq] at hb;subst hb
   split at h
   ·rename_i e size bytes b v hsl hx hv
    rw[hbase] at hx
    injection hx with hx
    subst hx;obtain⟨u,w',hr,hs⟩:=AS.app_ok (P:=P) hT O hsl type h hF R;unfold Oper.wp
    have e1:c.args.map a.eval=#[encT S base,encT S v]:=by
     apply Array.toList_inj.1
     rw[Array.toList_map,hargs];simp[hF.eval hbase,hF.eval hv]
    have e2:c.argTypes=#[t,t]:=by apply Array.toList_inj.1;rw[hats]
    have hr':(execOp a.eval (⟨dst,.call c,type,pos,after,guard⟩:Oper)).run P w=.ok (.value u) w':=by
     simp[execOp,resolve,hcal,invoke,builtin,e1,e2,hr]
    rw[hr'];exact⟨u,rfl,hs⟩
   ·cases h
 ·cases h
end
end Go.Beat
end
section
namespace Go.Beat
open Go
section
variable {D:Md} {X:Type} {B:Base D} {s:AS D} {P:Program} {T:TabA} {n:Nat} {ds:List Deferred} {S:Sto (Tg D.τ)} {w:World} {a:Act}
def putA (n:Nat)(s:AS D)(d:Option Tmp)(v:TV D.τ)(κ:AS D→Option X):Option X:=
 match d with
 |none=>κ s
 |some d=>bif Nat.blt d n then κ {s with fr:=(d,v)::s.fr} else none
def guardA (n:Nat)(ops:Array Oper)(s:AS D)(o:Oper)(yes no:AS D→Option X):Option X:=
 match o.guard with
 |none=>yes s
 |some (j,want)=>match ops[j]? with
  |none=>none
  |some oj=>match oj.dst with
   |none=>none
   |some t=>bif Nat.blt t n then (match lookA s.fr t with
    |some (.l (.v (.bool b)))=>cond b (let s':={s with fr:=(t,.l (.v (.bool true)))::s.fr};cond want (yes s') (no s')) (let s':={s with fr:=(t,.l (.v (.bool false)))::s.fr};cond want (no s') (yes s'))
    |some (.tup [])=>no s
    |_=>none) else none
def lightOp:Op→Bool
 |.move _|.assign _|.nilCheck _|.fieldAddr _ _ _|.binOp _ _ _ _ _|.unOp _ _ _|.pick _ _ _|.extract _ _|.load _ _|.indexAddr _ _ _|.slice _ _ _ _ _|.build _ _|.makeInterface _ _=>true
 |.lookup _ _ _ ok=>!ok
 |.call c=>match c.callee with|.builtin .len=>true|_=>false
 |_=>false
def lit1 (T:TabA)(n:Nat)(ops:Array Oper)(s:AS D)(o:Oper)(κ:AS D→Option X):Option X:=
 guardA n ops s o (fun s=>lightA T s o fun r=>putA n s o.dst r κ) fun s=>putA n s o.dst (.tup []) κ
def any1 (T:TabA)(C:CallE D X)(n:Nat)(ops:Array Oper)(s:AS D)(o:Oper)(κ:AS D→Option X):Option X:=
 guardA n ops s o (fun s=>bif lightOp o.op then lightA T s o (fun r=>putA n s o.dst r κ) else heavyA T C s o fun r s'=>putA n s' o.dst r κ) fun s=>putA n s o.dst (.tup []) κ
def stillA (T:TabA)(n:Nat)(ops:Array Oper):List Oper→AS D→(AS D→Option X)→Option X
 |[],s,κ=>κ s
 |o::l,s,κ=>lit1 T n ops s o fun s'=>stillA T n ops l s' κ
theorem putA_ok {d:Option Tmp}{v:TV D.τ}{u:Value}{κ:AS D→Option X}{x:X}(h:putA n s d v κ=some x)(hF:FrmA n ds a S s.fr)(hu:∀v',v.ok=some v'→u=encT S v'):
  ∃s',κ s'=some x∧FrmA n ds (a.put d u) S s'.fr∧s'.st=s.st∧s'.L=s.L∧s'.dk=s.dk:=by
 unfold putA at h
 cases d with
 |none=>exact⟨s,h,hF,rfl,rfl,rfl⟩
 |some d=>
  simp only at h
  cases hb:Nat.blt d n with
  |false=>rw[hb] at h;cases h
  |true=>
   rw[hb] at h;exact⟨_,h,hF.put (Nat.le_of_ble_eq_true hb) hu,rfl,rfl,rfl⟩
theorem FrmA.lit {t:Nat}{b:Bool}(hF:FrmA n ds a S s.fr)(h:lookA s.fr t=some (.l (.v (.bool b)))):FrmA n ds a S ((t,.l (.v (.bool b)))::s.fr):=
 ⟨hF.defs,hF.size,fun t' v hv=>by
  unfold lookA at hv
  split at hv
  ·rename_i hk
   have hk':t=t':=by simpa using hk
   subst hk';rw[TV.ok_eq hv];exact hF.get t _ h
  ·exact hF.get t' v hv⟩
theorem read_lit2 (s:AS D)(t:Nat)(b:Bool)(o:Oper):readTag {s with fr:=(t,.l (.v (.bool b)))::s.fr} o=none∨readTag {s with fr:=(t,.l (.v (.bool b)))::s.fr} o=readTag s o:=by
 unfold readTag
 split
 ·rename_i t' x0 _
  cases x0 with
  |tmp u=>
   by_cases hu:t=u
   ·subst hu
    exact .inl (by simp[evA,lookA,TV.ok])
   ·have e:(t==u)=false:=by simp[hu]
    exact .inr (by simp only[evA,lookA,e,Bool.false_eq_true,if_false])
  |const v=>exact .inr rfl
  |global g=>exact .inr rfl
  |func f=>exact .inr rfl
 ·exact .inr rfl
 ·exact .inl rfl
theorem guardA_ok {ops:Array Oper}{o:Oper}{yes no:AS D→Option X}{x:X}(h:guardA n ops s o yes no=some x)(hF:FrmA n ds a S s.fr):
  ∃s',s'.st=s.st∧s'.L=s.L∧s'.dk=s.dk∧FrmA n ds a S s'.fr∧(readTag s' o=none∨readTag s' o=readTag s o)∧((Region.wanted o (yielded ops a.tmps)=true∧yes s'=some x)∨(Region.wanted o (yielded ops a.tmps)=false∧no s'=some x)):=by
 unfold guardA at h
 cases hg:o.guard with
 |none=>
  simp only[hg] at h;exact⟨s,rfl,rfl,rfl,hF,.inr rfl,.inl ⟨by simp[Region.wanted,hg],h⟩⟩
 |some jw=>
  obtain⟨j,want⟩:=jw;simp only[hg] at h
  cases hj:ops[j]? with
  |none=>simp only[hj] at h;cases h
  |some oj=>
   simp only[hj] at h
   cases ht:oj.dst with
   |none=>simp only[ht] at h;cases h
   |some t=>
    simp only[ht] at h
    cases hb:Nat.blt t n with
    |false=>rw[hb] at h;cases h
    |true=>
     rw[hb] at h;simp only[cond_true] at h;have hlt:t<n:=Nat.le_of_ble_eq_true hb
     have hy:∀v,lookA s.fr t=some v→a.tmps[t]?=some (encT S v):=fun v hv=>by
      have h1:=hF.get t v hv
      have h2:t<a.tmps.size:=by rw[hF.size];exact hlt
      simp only[Array.getD_eq_getD_getElem?] at h1;rw[Array.getElem?_eq_getElem h2] at h1 ⊢
      simpa using h1
     split at h
     ·rename_i b hb'
      have hw:Region.wanted o (yielded ops a.tmps)=(b==want):=by simp[Region.wanted,hg,yielded,hj,ht,hy _ hb',encT,encL]
      cases b with
      |true=>
       simp only[cond_true] at h;refine⟨{s with fr:=(t,.l (.v (.bool true)))::s.fr},rfl,rfl,rfl,FrmA.lit (s:=s) hF hb',read_lit2 s t true o,?_⟩
       cases want with
       |true=>exact .inl ⟨hw,h⟩
       |false=>exact .inr ⟨hw,h⟩
      |false=>
       simp only[cond_false] at h;refine⟨{s with fr:=(t,.l (.v (.bool false)))::s.fr},rfl,rfl,rfl,FrmA.lit (s:=s) hF hb',read_lit2 s t false o,?_⟩
       cases want with
       |true=>exact .inr ⟨hw,h⟩
       |false=>exact .inl ⟨hw,h⟩
     ·rename_i hb'
      have hw:Region.wanted o (yielded ops a.tmps)=false:=by simp[Region.wanted,hg,yielded,hj,ht,hy _ hb',encT]
      exact⟨s,rfl,rfl,rfl,hF,.inr rfl,.inr ⟨hw,h⟩⟩
     ·cases h
theorem tup_undef (S:Sto (Tg D.τ)):∀v',(TV.tup []:TV D.τ).ok=some v'→undef=encT S v':=fun v' h=>by
 rw[TV.ok_eq h];rfl
theorem lit1_ok (hT:T.Ok P)(O:MdOk D){ops:Array Oper}{o:Oper}{κ:AS D→Option X}{x:X}(h:lit1 T n ops s o κ=some x)(hF:FrmA n ds a S s.fr)(R:Rel B s.st s.L s.dk S w):
  ∃s' v,κ s'=some x∧s'.st=s.st∧s'.L=s.L∧s'.dk=s.dk∧FrmA n ds (a.put o.dst v) S s'.fr∧
   ((Region.wanted o (yielded ops a.tmps)=true∧∀w',SameAt S w w' (readTag s o)→(execOp a.eval o).run P w'=.ok (.value v) w')∨(Region.wanted o (yielded ops a.tmps)=false∧v=undef)):=by
 obtain⟨s1,e1,e2,e3,hF1,hrt,hc⟩:=guardA_ok h hF
 rcases hc with ⟨hw,hy⟩|⟨hw,hy⟩
 ·obtain⟨r,h1,h2⟩:=lightA_ok (n:=n) (ds:=ds) (B:=B) hT O hy
  obtain⟨s2,h3,hF2,e4,e5,e6⟩:=putA_ok (u:=encT S r) h1 hF1 (fun v' hv'=>by rw[TV.ok_eq hv']);refine⟨s2,encT S r,h3,e4.trans e1,e5.trans e2,e6.trans e3,hF2,.inl ⟨hw,fun w' hs=>h2 S a w hF1 (by rw[e1,e2,e3];exact R) w' ?_⟩⟩
  rcases hrt with hrt|hrt
  ·rw[hrt];trivial
  ·rw[hrt];exact hs
 ·obtain⟨s2,h3,hF2,e4,e5,e6⟩:=putA_ok (u:=undef) hy hF1 (tup_undef S)
  exact⟨s2,undef,h3,e4.trans e1,e5.trans e2,e6.trans e3,hF2,.inr ⟨hw,rfl⟩⟩
theorem any1_ok (hT:T.Ok P)(O:MdOk D){C:CallE D X}(hC:CallOk P C)(hpk:T.pk=B.pk)(hgk:T.gk=B.gk){ops:Array Oper}{o:Oper}{κ:AS D→Option X}{x:X}(h:any1 T C n ops s o κ=some x)(hF:FrmA n ds a S s.fr)(R:Rel B s.st s.L s.dk S w)(Q:Exit→Act→World→Prop){K:Act→World→Prop}(next:∀s' S' a' w',(lightOp o.op=true→w'=w∧S'=S)→(isAlloc o.op=true→(∃ob,w'=w.alloc ob)∧∀b,b<w.heap.size→S'.own b=S.own b)→κ s'=some x→FrmA n ds a' S' s'.fr→Rel B s'.st s'.L s'.dk S' w'→K a' w')(nextU:∀s' a',Region.wanted o (yielded ops a.tmps)=false→a'=a.put o.dst undef→κ s'=some x→FrmA n ds a' S s'.fr→Rel B s'.st s'.L s'.dk S w→K a' w):
  if Region.wanted o (yielded ops a.tmps) then o.wp P a w K Q else K (a.put o.dst undef) w:=by
 obtain⟨s1,e1,e2,e3,hF1,hrt,hc⟩:=guardA_ok h hF
 have R1:Rel B s1.st s1.L s1.dk S w:=by rw[e1,e2,e3];exact R
 rcases hc with ⟨hw,hy⟩|⟨hw,hy⟩
 ·rw[if_pos hw]
  cases hl:lightOp o.op with
  |true=>
   rw[hl] at hy;simp only[cond_true] at hy;obtain⟨r,h1,h2⟩:=lightA_ok (n:=n) (ds:=ds) (B:=B) hT O hy;obtain⟨s2,h3,hF2,e4,e5,e6⟩:=putA_ok (u:=encT S r) h1 hF1 (fun v' hv'=>by rw[TV.ok_eq hv']);have hr:=h2 S a w hF1 R1 w (by rcases readTag s1 o with _|_|_<;>simp [SameAt]);unfold Oper.wp;rw[hr];exact next s2 S _ w (fun _=>⟨rfl,rfl⟩) (fun hal=>by cases ho:o.op<;>simp_all [lightOp,isAlloc]) h3 hF2 (by rw[e4,e5,e6];exact R1)
  |false=>
   rw[hl] at hy;simp only[cond_false] at hy
   refine Oper.wp_mono (fun a' w' hh=>?_) (heavyA_ok hT O hC hpk hgk hy hF1 R1 Q)
   obtain⟨hal,v,rfl,r,s2,S2,h1,h2,h3,h4,hz⟩:=hh;obtain⟨s3,h5,hF3,e4,e5,e6⟩:=putA_ok (u:=v) h1 h3 h2;exact next s3 S2 _ w' (fun h=>by rw[hl] at h;cases h) (fun h=>⟨hal h,hz h⟩) h5 hF3 (by rw[e4,e5,e6];exact h4)
 ·rw[if_neg (by simp[hw])]
  obtain⟨s2,h3,hF2,e4,e5,e6⟩:=putA_ok (u:=undef) hy hF1 (tup_undef S);exact nextU s2 _ hw rfl h3 hF2 (by rw[e4,e5,e6];exact R1)
theorem stillA_ok (hT:T.Ok P)(O:MdOk D){ops:Array Oper}{Q:Act→Prop}{x:X}{κ:AS D→Option X}(R0:∀s':AS D,s'.st=s.st→s'.L=s.L→s'.dk=s.dk→Rel B s'.st s'.L s'.dk S w)(next:∀s' a',κ s'=some x→FrmA n ds a' S s'.fr→s'.st=s.st→s'.L=s.L→s'.dk=s.dk→Q a'):
  ∀(l:List Oper) (s1:AS D) (a:Act),stillA T n ops l s1 κ=some x→FrmA n ds a S s1.fr→s1.st=s.st→s1.L=s.L→s1.dk=s.dk→wpStill P ops w Q l a
 |[],s1,a,h,hF,e1,e2,e3=>next s1 a h hF e1 e2 e3
 |o::l,s1,a,h,hF,e1,e2,e3=>by
  obtain⟨s2,v,h1,e4,e5,e6,hF2,hc⟩:=lit1_ok hT O h hF (R0 s1 e1 e2 e3);unfold wpStill;have ih:=stillA_ok hT O R0 next l s2 _ h1 hF2 (e4.trans e1) (e5.trans e2) (e6.trans e3)
  rcases hc with ⟨hw,hr⟩|⟨hw,rfl⟩
  ·rw[if_pos hw]
   unfold Oper.still;rw[hr w (by rcases readTag s1 o with _|_|_<;>simp [SameAt])];exact⟨rfl,ih⟩
  ·rw[if_neg (by simp[hw])]
   exact ih
end
end Go.Beat
end
section
namespace Go.Beat
open Go
def sigL (md:Region.Mode)(ops:Array Oper):Nat→Array Bool→List (Nat×Nat)→Array Bool×List (Nat×Nat)
 |0,l,acc=>(l,acc)
 |f+1,l,acc=>match (Region.ready md ops l).find? fun i=>match ops[i]? with|some o=>lightOp o.op|none=>false with
  |none=>(l,acc)
  |some i=>sigL md ops f (l.setIfInBounds i true) ((i,match ops[i]? with|some o=>(match o.op with|.load _ _=>2|.lookup _ _ _ _=>2|_=>1)|none=>2)::acc)
def sigH (md:Region.Mode)(ops:Array Oper):Nat→Array Bool→List (Nat×Nat)→List (Nat×Nat)
 |0,_,acc=>acc
 |f+1,l,acc=>match Region.ready md ops l with
  |[]=>acc
  |i::_=>sigH md ops f (l.setIfInBounds i true) ((i,0)::acc)
def sigma (ops:Array Oper):List (Nat×Nat):=
 let r:=sigL .any ops ops.size (Array.replicate ops.size false) []
 (sigH .any ops ops.size r.1 r.2).reverse
def wkS (wk:List Nat):Bool:=!wk.isEmpty&&!(wk.contains 99)
def wkA (wk:List Nat):Bool:=!wk.isEmpty
def preOp (st ap:Bool):Op→Bool
 |.store _ _ _=>st
 |.call c=>(match c.callee with|.builtin .append=>ap|_=>false)||lightOp (.call c)
 |o=>lightOp o||isAlloc o
def prefixLen (ops:Array Oper)(wk:List Nat):List (Nat×Nat)→Nat
 |[]=>0
 |(i,_)::r=>match ops[i]? with
  |some o=>bif preOp (wkS wk) (wkA wk) o.op then prefixLen ops wk r+1 else 0
  |none=>0
section
variable {D:Md} {X:Type} {B:Base D} {s:AS D} {P:Program} {T:TabA} {n:Nat} {ds:List Deferred} {S:Sto (Tg D.τ)} {w:World} {a:Act}
def inK (D:Md)(wk:List Nat)(u:D.τ):Bool:=wk.any fun k=>Nat.beq (D.kind u) k
def storeP (T:TabA)(n:Nat)(ops:Array Oper)(wk:List Nat)(s:AS D)(o:Oper)(κ:AS D→Option X):Option X:=
 guardA n ops s o (fun s=>match o.op with
  |.store t x y=>(match evA s.fr x with
   |some (.l (.p (.m u) k sz f))=>(match evA s.fr y with
    |some v=>(match cellsOf v with
     |some cs=>bif stOk T t v cs.length&&inK D wk u&&Nat.beq sz (D.M.sz u)&&s.alive u&&Nat.blt 0 cs.length then D.wr s.st u k f cs fun st'=>putA n {s with st:=st'} o.dst .x κ else none
     |none=>none)
    |none=>none)
   |_=>none)
  |_=>none) fun s=>putA n s o.dst (.tup []) κ
def baseIn (D:Md)(wk:List Nat):TV D.τ→Bool
 |.l (.v (.slice none 0 0))=>true
 |.l (.sl (.m u) _ _ _)=>inK D wk u
 |_=>false
def appP (T:TabA)(C:CallE D X)(n:Nat)(ops:Array Oper)(wk:List Nat)(s:AS D)(o:Oper)(κ:AS D→Option X):Option X:=
 guardA n ops s o (fun s=>match o.op with
  |.call c=>(match c.callee with
   |.builtin .append=>(match c.args.toList with
    |[x,_]=>(match evA s.fr x with
     |some b=>bif baseIn D wk b then heavyA T C s o fun r s'=>putA n s' o.dst r κ else none
     |none=>none)
    |_=>none)
   |_=>none)
  |_=>none) fun s=>putA n s o.dst (.tup []) κ
def readOut (D:Md)(wk:List Nat):Option (Option (Tg D.τ))→Bool
 |some (some (.m u))=>!(inK D wk u)
 |_=>true
def schA (T:TabA)(C:CallE D X)(n:Nat)(ops:Array Oper)(wk:List Nat)(p:Nat):Nat→List (Nat×Nat)→Bool→AS D→(AS D→Option X)→Option X
 |_,[],_,s,κ=>κ s
 |k,(i,kd)::σ,ph,s,κ=>match ops[i]? with
  |none=>none
  |some o=>match kd with
   |0=>bif Nat.blt k p&&!(lightOp o.op||isAlloc o.op) then (match o.op with
     |.call _=>appP T C n ops wk s o fun s'=>schA T C n ops wk p (k+1) σ false s' κ
     |_=>storeP T n ops wk s o fun s'=>schA T C n ops wk p (k+1) σ false s' κ)
    else any1 T C n ops s o fun s'=>schA T C n ops wk p (k+1) σ false s' κ
   |1=>bif (match readTag s o with|none=>true|some _=>false) then lit1 T n ops s o fun s'=>schA T C n ops wk p (k+1) σ ph s' κ else none
   |_=>bif ph&&readOut D wk (readTag s o) then lit1 T n ops s o fun s'=>schA T C n ops wk p (k+1) σ ph s' κ else none
def Cls (D:Md)(wk:List Nat)(S0:Sto (Tg D.τ))(w0:World)(w:World):Prop:=
 (∀b,b<w0.heap.size→(∀u,inK D wk u=true→S0.own b≠some (.m u))→w.heap[b]?=w0.heap[b]?)∧MapsStay w0 w
theorem MapsStay.refl (w:World):MapsStay w w:=fun _ _ _ h=>h
theorem MapsStay.trans {w w1 w2:World}(h:MapsStay w w1)(k:MapsStay w1 w2):MapsStay w w2:=fun b es cl hb=>k b es cl (h b es cl hb)
theorem MapsStay.alloc (w:World)(ob:Obj):MapsStay w (w.alloc ob):=fun b es cl hb=>(heap_alloc_old w ob b (Array.getElem?_eq_some_iff.1 hb).1).trans hb
theorem storeP_ok (hT:T.Ok P)(O:MdOk D){ops:Array Oper}{wk:List Nat}{o:Oper}{κ:AS D→Option X}{x:X}(h:storeP T n ops wk s o κ=some x)(hF:FrmA n ds a S s.fr)(R:Rel B s.st s.L s.dk S w)(Q:Exit→Act→World→Prop){K:Act→World→Prop}(next:∀s' a' w',κ s'=some x→FrmA n ds a' S s'.fr→Rel B s'.st s'.L s'.dk S w'→(w'.heap.size=w.heap.size∧MapsStay w w')→(∀b,(∀u,inK D wk u=true→S.own b≠some (.m u))→w'.heap[b]?=w.heap[b]?)→K a' w'):
  if Region.wanted o (yielded ops a.tmps) then o.wp P a w K Q else K (a.put o.dst undef) w:=by
 obtain⟨s1,e1,e2,e3,hF1,hrt,hc⟩:=guardA_ok h hF
 have R1:Rel B s1.st s1.L s1.dk S w:=by rw[e1,e2,e3];exact R
 rcases hc with ⟨hw,hy⟩|⟨hw,hy⟩
 ·rw[if_pos hw]
  obtain⟨dst,op,type,pos,after,guard⟩:=o
  dsimp only at hy
  split at hy
  ·rename_i t x0 y0
   split at hy
   ·rename_i u k sz f hx
    split at hy
    ·rename_i v hv
     split at hy
     ·rename_i cs hcs
      cases hb:(stOk T t v cs.length&&inK D wk u&&Nat.beq sz (D.M.sz u)&&s1.alive u&&Nat.blt 0 cs.length) with
      |false=>rw[hb] at hy;cases hy
      |true=>
       rw[hb] at hy;simp only[cond_true] at hy;simp only[Bool.and_eq_true,Nat.beq_eq] at hb;obtain⟨⟨⟨⟨b1,b2⟩,rfl⟩,b4⟩,b5⟩:=hb;obtain⟨st',h1,hv1,w',hr,hR,hsz,hblk⟩:=R1.wrM (P:=P) O (AS.alive_not b4) hy;have hcells:=cells_store (P:=P) (w:=w) hT hcs b1 (S:=S);have hst:=run_storeVar_cells (P:=P) (t:=t) (ad:=⟨(S.loc (.m u)).b,(S.loc (.m u)).off+k*D.M.sz u+f,none⟩) hcells.2 hcells.1 (by simp) (by rw[add_cell];exact hr)
       have e:(execOp a.eval (⟨dst,.store t x0 y0,type,pos,after,guard⟩:Oper)).run P w=.ok .skip w':=by
        have e1:a.eval x0=.pointer (some ⟨(S.loc (.m u)).b,(S.loc (.m u)).off+k*D.M.sz u+f,none⟩):=hF1.eval hx;simp only[execOp,e1,hF1.eval hv,Instr.storeAt,Instr.sureAddr,Sem.run_bind];simp[hst]
       obtain⟨s3,h5,hF3,e4,e5,e6⟩:=putA_ok (u:=undef) (S:=S) h1 hF1 (fun v' hv'=>by cases hv');unfold Oper.wp;rw[e]
       refine next s3 _ w' h5 hF3 (by rw[e4,e5,e6];exact hR) hsz fun b hb=>?_
       by_cases hbu:b=(S.loc (.m u)).b
       ·subst hbu
        refine absurd ?_ (hb u b2)
        obtain⟨_,cs',g1,_,_,g4,_⟩:=O.wr _ _ _ _ _ _ _ hy;have b5':0<cs.length:=Nat.le_of_ble_eq_true b5;have Ht:=R1.H (.m u) (cs'.map (encL S)) (by simp[encC,contA,AS.alive_not b4,g1]);exact (Ht.blk (Ht.notNil (j:=0) (by rw[List.length_map];omega))).1
       ·exact hblk b hbu
     ·cases hy
    ·cases hy
   ·cases hy
  ·cases hy
 ·rw[if_neg (by simp[hw])]
  obtain⟨s2,h3,hF2,e4,e5,e6⟩:=putA_ok (u:=undef) hy hF1 (tup_undef S)
  exact next s2 _ w h3 hF2 (by rw[e4,e5,e6];exact R1) ⟨rfl,MapsStay.refl _⟩ fun _ _=>rfl
theorem appP_ok (hT:T.Ok P)(O:MdOk D){C:CallE D X}{ops:Array Oper}{wk:List Nat}{o:Oper}{κ:AS D→Option X}{x:X}(h:appP T C n ops wk s o κ=some x)(hF:FrmA n ds a S s.fr)(R:Rel B s.st s.L s.dk S w)(Q:Exit→Act→World→Prop){K:Act→World→Prop}(next:∀s' S' a' w',κ s'=some x→FrmA n ds a' S' s'.fr→Rel B s'.st s'.L s'.dk S' w'→(w.heap.size≤w'.heap.size∧MapsStay w w')→(∀b,b<w.heap.size→(∀u,inK D wk u=true→S.own b≠some (.m u))→w'.heap[b]?=w.heap[b]?∧S'.own b=S.own b)→K a' w'):
  if Region.wanted o (yielded ops a.tmps) then o.wp P a w K Q else K (a.put o.dst undef) w:=by
 obtain⟨s1,e1,e2,e3,hF1,hrt,hc⟩:=guardA_ok h hF
 have R1:Rel B s1.st s1.L s1.dk S w:=by rw[e1,e2,e3];exact R
 rcases hc with ⟨hw,hy⟩|⟨hw,hy⟩
 ·rw[if_pos hw]
  split at hy
  ·rename_i c hop
   split at hy
   ·rename_i hcal
    split at hy
    ·rename_i x0 y0 hargs
     split at hy
     ·rename_i b hbase
      cases hb:baseIn D wk b with
      |false=>rw[hb] at hy;cases hy
      |true=>
       rw[hb] at hy;simp only[cond_true] at hy
       refine Oper.wp_mono (fun a' w' hh=>?_) (heavyApp_ok hT O hop hcal hargs hbase hy hF1 R1 Q)
       obtain⟨v,rfl,r,s2,S2,h1,h2,h3,h4,hsz,hz⟩:=hh;obtain⟨s3,h5,hF3,e4,e5,e6⟩:=putA_ok (u:=v) h1 h3 h2
       refine next s3 S2 _ w' h5 hF3 (by rw[e4,e5,e6];exact h4) hsz fun q hq hn=>hz q hq fun u k sz n' e=>?_
       rw[e] at hb
       cases u with
       |m u=>exact hn u hb
       |loc j=>cases hb
     ·cases hy
    ·cases hy
   ·cases hy
  ·cases hy
 ·rw[if_neg (by simp[hw])]
  obtain⟨s2,h3,hF2,e4,e5,e6⟩:=putA_ok (u:=undef) hy hF1 (tup_undef S)
  exact next s2 S _ w h3 hF2 (by rw[e4,e5,e6];exact R1) ⟨Nat.le_refl _,MapsStay.refl _⟩ fun _ _ _=>⟨rfl,rfl⟩
theorem Cls.alloc {wk:List Nat}{S0:Sto (Tg D.τ)}{w0:World}(h:Cls D wk S0 w0 w)(hs:w0.heap.size≤w.heap.size)(ob:Obj):Cls D wk S0 w0 (w.alloc ob):=⟨fun b hb hn=>(heap_alloc_old w ob b (by omega)).trans (h.1 b hb hn),h.2.trans (MapsStay.alloc w ob)⟩
theorem schA_ok (hT:T.Ok P)(O:MdOk D){C:CallE D X}(hC:CallOk P C)(hpk:T.pk=B.pk)(hgk:T.gk=B.gk){ops:Array Oper}{wk:List Nat}{p:Nat}{Q:Exit→Act→World→Prop}{x:X}{κ:AS D→Option X}{S0:Sto (Tg D.τ)}{w0:World}(next:∀s' S' a' w',κ s'=some x→FrmA n ds a' S' s'.fr→Rel B s'.st s'.L s'.dk S' w'→Q .normal a' w'):
  ∀(σ:List (Nat×Nat)) (k:Nat) (ph:Bool) (s:AS D) (S:Sto (Tg D.τ)) (a:Act) (w:World),schA T C n ops wk p k σ ph s κ=some x→FrmA n ds a S s.fr→Rel B s.st s.L s.dk S w→
   (k≤p→Cls D wk S0 w0 w∧w0.heap.size≤w.heap.size∧∀b,b<w0.heap.size→(∀u,inK D wk u=true→S0.own b≠some (.m u))→S.own b=S0.own b)→(ph=true→S=S0∧w=w0)→wpSch P ops (Cls D wk S0 w0) Q p k σ a w
 |[],k,ph,s,S,a,w,h,hF,R,_,_=>next s S a w h hF R
 |(i,kd)::σ,k,ph,s,S,a,w,h,hF,R,hi,hph=>by
  simp only[schA] at h
  cases ho:ops[i]? with
  |none=>rw[ho] at h;cases h
  |some o=>
   rw[ho] at h
   simp only at h
   simp only[wpSch,ho]
   match kd,h with
   |0,h=>
    simp only at h ⊢
    cases hb:(Nat.blt k p&&!(lightOp o.op||isAlloc o.op)) with
    |true=>
     rw[hb] at h;simp only[cond_true] at h;simp only[Bool.and_eq_true] at hb;have hkp:k<p:=Nat.le_of_ble_eq_true hb.1;obtain⟨i1,i2,i3⟩:=hi (Nat.le_of_lt hkp)
     split at h
     ·have:=appP_ok hT O h hF R Q (K:=fun a' w'=>(k<p→Cls D wk S0 w0 w')∧wpSch P ops (Cls D wk S0 w0) Q p (k+1) σ a' w') fun s' S' a' w' h1 h2 h3 h4 h5=>by
        have hc:Cls D wk S0 w0 w':=⟨fun b hb hn=>((h5 b (by omega) fun u hu=>by rw[i3 b hb hn];exact hn u hu).1).trans (i1.1 b hb hn),i1.2.trans h4.2⟩;have h4':=h4.1;exact⟨fun _=>hc,schA_ok hT O hC hpk hgk next σ (k+1) false s' S' a' w' h1 h2 h3 (fun _=>⟨hc,by omega,fun b hb hn=>((h5 b (by omega) fun u hu=>by rw[i3 b hb hn];exact hn u hu).2).trans (i3 b hb hn)⟩) (fun h=>by cases h)⟩
      split
      · rename_i hw
        rw[if_pos hw] at this;exact .inl this
      · rename_i hw
        rw[if_neg hw] at this;exact this
     have:=storeP_ok hT O h hF R Q (K:=fun a' w'=>(k<p→Cls D wk S0 w0 w')∧wpSch P ops (Cls D wk S0 w0) Q p (k+1) σ a' w') fun s' a' w' h1 h2 h3 h4 h5=>by
      have hc:Cls D wk S0 w0 w':=⟨fun b hb hn=>(h5 b fun u hu=>by rw[i3 b hb hn];exact hn u hu).trans (i1.1 b hb hn),i1.2.trans h4.2⟩;have h4':=h4.1;exact⟨fun _=>hc,schA_ok hT O hC hpk hgk next σ (k+1) false s' S a' w' h1 h2 h3 (fun _=>⟨hc,by omega,i3⟩) (fun h=>by cases h)⟩
     split
     ·rename_i hw
      rw[if_pos hw] at this;exact .inl this
     ·rename_i hw
      rw[if_neg hw] at this;exact this
    |false=>
     rw[hb] at h;simp only[cond_false] at h
     have hal:k<p→(lightOp o.op||isAlloc o.op)=true:=fun hk=>by
      have e:Nat.blt k p=true:=Nat.ble_eq_true_of_le hk;rw[e] at hb
      cases h1:lightOp o.op<;>cases h2:isAlloc o.op<;>simp_all
     have:=any1_ok hT O hC hpk hgk h hF R Q (K:=fun a' w'=>(k<p→Cls D wk S0 w0 w')∧wpSch P ops (Cls D wk S0 w0) Q p (k+1) σ a' w')
      (fun s' S' a' w' g1 g2 h1 h2 h3=>by
        have key:k<p→Cls D wk S0 w0 w'∧w0.heap.size≤w'.heap.size∧∀b,b<w0.heap.size→(∀u,inK D wk u=true→S0.own b≠some (.m u))→S'.own b=S0.own b:=fun hk=>by
         obtain⟨i1,i2,i3⟩:=hi (Nat.le_of_lt hk);have hla:=hal hk;rw[Bool.or_eq_true] at hla
         rcases hla with hl|ha
         ·obtain⟨rfl,rfl⟩:=g1 hl
          exact⟨i1,i2,i3⟩
         ·obtain⟨⟨ob,rfl⟩,g4⟩:=g2 ha
          exact⟨i1.alloc i2 ob,by simp;omega,fun b hb hn=>(g4 b (by omega)).trans (i3 b hb hn)⟩
        exact⟨fun hk=>(key hk).1,schA_ok hT O hC hpk hgk next σ (k+1) false s' S' a' w' h1 h2 h3 (fun hk=>key hk) (fun h=>by cases h)⟩)
      (fun s' a' hw e h1 h2 h3=>⟨fun hk=>(hi (Nat.le_of_lt hk)).1,schA_ok hT O hC hpk hgk next σ (k+1) false s' S a' w h1 h2 h3 (fun hk=>hi (Nat.le_of_lt hk)) (fun h=>by cases h)⟩)
     split
     ·rename_i hw
      rw[if_pos hw] at this;exact .inl this
     ·rename_i hw
      rw[if_neg hw] at this;exact this
   |1,h=>
    simp only at h ⊢
    cases hb:(match readTag s o with|none=>true|some _=>false) with
    |false=>rw[hb] at h;cases h
    |true=>
     rw[hb] at h;simp only[cond_true] at h;obtain⟨s2,v,h1,e4,e5,e6,hF2,hc⟩:=lit1_ok hT O h hF R;refine⟨v,?_,schA_ok hT O hC hpk hgk next σ (k+1) ph s2 S _ w h1 hF2 (by rw[e4,e5,e6];exact R) (fun hk=>hi (by omega)) hph⟩
     rcases hc with ⟨hw,hr⟩|⟨hw,rfl⟩
     ·refine .inl ⟨hw,fun w' _=>hr w' ?_⟩
      cases hrt:readTag s o with
      |none=>trivial
      |some tg=>rw[hrt] at hb;cases hb
     ·exact .inr ⟨hw,rfl⟩
   |m+2,h=>
    simp only at h ⊢
    cases hb:(ph&&readOut D wk (readTag s o)) with
    |false=>rw[hb] at h;cases h
    |true=>
     rw[hb] at h;simp only[cond_true] at h;simp only[Bool.and_eq_true] at hb;obtain⟨rfl,rfl⟩:=hph hb.1;obtain⟨s2,v,h1,e4,e5,e6,hF2,hc⟩:=lit1_ok hT O h hF R;refine⟨⟨fun _ _ _=>rfl,MapsStay.refl _⟩,v,?_,schA_ok hT O hC hpk hgk next σ (k+1) ph s2 S _ w h1 hF2 (by rw[e4,e5,e6];exact R) (fun _=>⟨⟨fun _ _ _=>rfl,MapsStay.refl _⟩,Nat.le_refl _,fun _ _ _=>rfl⟩) fun _=>⟨rfl,rfl⟩⟩
     rcases hc with ⟨hw,hr⟩|⟨hw,rfl⟩
     ·refine .inl ⟨hw,fun w' hcl=>hr w' ?_⟩
      cases hrt:readTag s o with
      |none=>trivial
      |some otg=>cases otg with
       |none=>
        exact fun es cl hes=>hcl.2 _ es cl hes
       |some tg=>
        intro hown hlt
        exact hcl.1 _ hlt fun u hu e=>by
         rcases hown with h2|h2
         ·rw[h2] at e
          injection e with e
          subst e;have:=hb.2;rw[hrt] at this;simp only[readOut,hu] at this
          cases this
         ·rw[h2] at e
          cases e
     ·exact .inr ⟨hw,rfl⟩
end
end Go.Beat
end
section
namespace Go.Beat
open Go
inductive AK where
  |code (c:Code)
  |blk (id:Nat)
def AK.ki:AK→KI
 |.code c=>.code c
 |.blk id=>.blk id
def dropK (id:Nat):List AK→Option (List AK)
 |[]=>none
 |.blk id'::K=>if id==id' then some K else dropK id K
 |.code _::K=>dropK id K
inductive Stop (D:Md) where
  |norm (s:AS D)
  |ret (s:AS D)
  |exit (id:Nat) (s:AS D)
  |pan (v:Value) (s:AS D)
section
variable {D:Md} {X:Type} {B:Base D} {s:AS D} {P:Program} {T:TabA} {n:Nat} {ds:List Deferred} {S:Sto (Tg D.τ)} {w:World} {a:Act}
def opsP (T:TabA)(C:CallE D X)(n:Nat)(ops:Array Oper):List Oper→AS D→(AS D→Option X)→(Value→AS D→Option X)→Option X
 |[],s,κ,_=>κ s
 |o::l,s,κ,κp=>match o.op with
  |.panic x=>(match o.guard,evA s.fr x with
   |none,some (.l (.v (.iface t v)))=>κp (.iface t v) s
   |_,_=>none)
  |.call c=>(match c.callee with
   |.value (.func f)=>bif C.isp f then (match o.guard,argsA s.fr c.args.toList with
     |none,some vs=>s.callP T C f vs (fun r s'=>putA n s' o.dst r fun s'=>opsP T C n ops l s' κ κp) κp
     |_,_=>none)
    else any1 T C n ops s o fun s'=>opsP T C n ops l s' κ κp
   |_=>any1 T C n ops s o fun s'=>opsP T C n ops l s' κ κp)
  |_=>any1 T C n ops s o fun s'=>opsP T C n ops l s' κ κp
abbrev LoopE (D:Md)(X:Type):=Nat→AS D→(Stop D→Option X)→Option X
def leaveA (f:List AK→AS D→Option X)(K:List AK)(κ:Stop D→Option X):Stop D→Option X
 |.exit id s=>match dropK id K with
  |some K'=>f K' s
  |none=>κ (.exit id s)
 |.norm _=>none
 |o=>κ o
def run (T:TabA)(C:CallE D X)(Lp:LoopE D X)(wk:Nat→List Nat)(n:Nat):Nat→List AK→AS D→(Stop D→Option X)→Option X
 |0,_,_,_=>none
 |f+1,K,s,κ=>match K with
  |[]=>κ (.norm s)
  |.blk _::K=>run T C Lp wk n f K s κ
  |.code c::K=>match c with
   |.skip=>run T C Lp wk n f K s κ
   |.seq x y=>run T C Lp wk n f (.code x::.code y::K) s κ
   |.cond v x y=>(match evA s.fr v with
    |some (.l (.v (.bool b)))=>cond b (run T C Lp wk n f (.code x::K) s κ) (run T C Lp wk n f (.code y::K) s κ)
    |_=>none)
   |.block id (.loop _)=>Lp id s (leaveA (fun K' s'=>run T C Lp wk n f K' s' κ) (.blk id::K) κ)
   |.block id x=>run T C Lp wk n f (.code x::.blk id::K) s κ
   |.exit id=>(match dropK id K with
    |some K'=>run T C Lp wk n f K' s κ
    |none=>κ (.exit id s))
   |.ret=>κ (.ret s)
   |.region _ ops false=>opsP T C n ops ops.toList s (fun s'=>run T C Lp wk n f K s' κ) fun v s'=>κ (.pan v s')
   |.region id ops true=>bif Region.lexB .any ops&&ops.toList.all (fun o=>lightOp o.op) then stillA T n ops ops.toList s fun s'=>run T C Lp wk n f K s' κ
    else bif Region.noSelect ops&&(sigma ops).length==ops.size&&schB .any ops (sigma ops) (prefixLen ops (wk id) (sigma ops)) (sigma ops) (Array.replicate ops.size false) 0 then
     schA T C n ops (wk id) (prefixLen ops (wk id) (sigma ops)) 0 (sigma ops) true s fun s'=>run T C Lp wk n f K s' κ
    else none
   |_=>none
def Good (B:Base D)(n:Nat)(ds:List Deferred)(Q:Post):Stop D→Prop
 |.norm s=>∀S a w,FrmA n ds a S s.fr→Rel B s.st s.L s.dk S w→Q .normal a w
 |.ret s=>∀S a w,FrmA n ds a S s.fr→Rel B s.st s.L s.dk S w→Q .ret a w
 |.exit id s=>∀S a w,FrmA n ds a S s.fr→Rel B s.st s.L s.dk S w→Q (.exit id) a w
 |.pan v s=>∀S a w,FrmA n ds a S s.fr→Rel B s.st s.L s.dk S w→Q (.panic [{v:=v,recovered:=false}]) a w
theorem run_panic (t:TypeId)(v:Value)(w:World):(Instr.panic (.iface t v)).run P w=.halt (.panic (.iface t v)) w:=by
 simp[Instr.panic,goPanic,Sem.run]
theorem opsP_ok (hT:T.Ok P)(O:MdOk D){C:CallE D X}(hC:CallOk P C)(hpk:T.pk=B.pk)(hgk:T.gk=B.gk){ops:Array Oper}{Q:Exit→Act→World→Prop}{x:X}{κ:AS D→Option X}{κp:Value→AS D→Option X}(next:∀s' S' a' w',κ s'=some x→FrmA n ds a' S' s'.fr→Rel B s'.st s'.L s'.dk S' w'→Q .normal a' w')(nextP:∀v s' S' a' w',κp v s'=some x→FrmA n ds a' S' s'.fr→Rel B s'.st s'.L s'.dk S' w'→Q (.panic [{v:=v,recovered:=false}]) a' w'):
  ∀(l:List Oper) (s:AS D) (S:Sto (Tg D.τ)) (a:Act) (w:World),opsP T C n ops l s κ κp=some x→FrmA n ds a S s.fr→Rel B s.st s.L s.dk S w→wpList P ops Q l a w
 |[],s,S,a,w,h,hF,R=>next s S a w h hF R
 |o::l,s,S,a,w,h,hF,R=>by
  have one:any1 T C n ops s o (fun s'=>opsP T C n ops l s' κ κp)=some x→wpList P ops Q (o::l) a w:=fun h=>by
   have:=any1_ok hT O hC hpk hgk h hF R Q (K:=wpList P ops Q l) (fun s' S' a' w' _ _ h1 h2 h3=>opsP_ok hT O hC hpk hgk next nextP l s' S' a' w' h1 h2 h3) (fun s' a' _ _ h1 h2 h3=>opsP_ok hT O hC hpk hgk next nextP l s' S a' w h1 h2 h3);unfold wpList
   split
   ·rename_i hw
    rw[if_pos hw] at this;exact .inl this
   ·rename_i hw
    rw[if_neg hw] at this;exact this
  unfold opsP at h
  split at h
  ·rename_i x0 hop
   split at h
   ·rename_i t v hg hv
    unfold wpList;rw[if_pos (by simp[Region.wanted,hg])]
    refine .inl ?_
    unfold Oper.wp
    have hr:(execOp a.eval o).run P w=.halt (.panic (.iface t v)) w:=by
     have e:a.eval x0=.iface t v:=hF.eval hv;simp[execOp,hop,e,run_panic]
    rw[hr];exact nextP _ s S a w h hF R
   ·cases h
  ·rename_i c hop
   split at h
   ·rename_i f hcal
    cases hb:C.isp f with
    |false=>rw[hb] at h;exact one h
    |true=>
     rw[hb] at h;simp only[cond_true] at h
     split at h
     ·rename_i vs hg hvs
      obtain⟨hok,hcall⟩:=AS.callP_ok (P:=P) O hC hpk hgk h hF R
      have e1:c.args.map a.eval=(vs.map (encT S)).toArray:=by
       apply Array.toList_inj.1
       rw[Array.toList_map,argsA_ok hF hvs]
      unfold wpList;rw[if_pos (by simp[Region.wanted,hg])]
      refine .inl ?_
      have hr:(execOp a.eval o).run P w=.ok (.enter f (vs.map (encT S)).toArray) w:=by
       simp[execOp,hop,resolve,hcal,Act.eval,Deferred.ofValue,invoke,run_call hok];exact e1
      unfold Oper.wp;rw[hr];simp only[Oper.upon]
      refine hcall.mono fun e w' he=>?_
      rcases he with ⟨v,rfl,r',s',S',g1,g2,g3,g4,_⟩|⟨v,s',S',rfl,g1,g3,g4⟩
      ·obtain⟨s3,h5,hF3,e4,e5,e6⟩:=putA_ok (u:=v) g1 g3 g2
       exact opsP_ok hT O hC hpk hgk next nextP l s3 S' _ w' h5 hF3 (by rw[e4,e5,e6];exact g4)
      ·exact nextP v s' S' a w' g1 g3 g4
     ·cases h
   ·exact one h
  ·exact one h
def loopsOf:Code→List (Nat×Code)
 |.seq x y=>loopsOf x++loopsOf y
 |.cond _ x y=>loopsOf x++loopsOf y
 |.block id (.loop c)=>[(id,c)]
 |.block _ x=>loopsOf x
 |_=>[]
def LoopOk (P:Program)(B:Base D)(n:Nat)(ds:List Deferred)(Lp:LoopE D X)(id:Nat)(c:Code):Prop:=
 ∀(s:AS D) (κ:Stop D→Option X) (x:X),Lp id s κ=some x→∃o,κ o=some x∧(∀s',o≠.norm s')∧∀S a w Q,(∀c (d:Option Tmp) v a w,Q (.panic c) (a.put d v) w→Q (.panic c) a w)→FrmA n ds a S s.fr→Rel B s.st s.L s.dk S w→Good B n ds Q o→(Code.loop c).wp P Q a w
theorem dropK_ki {id:Nat}:∀{K K':List AK},dropK id K=some K'→dropTo id (K.map AK.ki)=some (K'.map AK.ki)
 |[],K',h=>by cases h
 |.blk id'::K,K',h=>by
  unfold dropK at h;simp only[List.map_cons,AK.ki,dropTo]
  split
  ·rename_i he
   rw[if_pos he] at h
   injection h with h
   rw[h]
  ·rename_i he
   rw[if_neg he] at h;exact dropK_ki h
 |.code c::K,K',h=>by
  unfold dropK at h;simp only[List.map_cons,AK.ki,dropTo];exact dropK_ki h
theorem dropK_none {id:Nat}:∀{K:List AK},dropK id K=none→dropTo id (K.map AK.ki)=none
 |[],_=>rfl
 |.blk id'::K,h=>by
  unfold dropK at h;simp only[List.map_cons,AK.ki,dropTo]
  split
  ·rename_i he
   rw[if_pos he] at h;cases h
  ·rename_i he
   rw[if_neg he] at h;exact dropK_none h
 |.code c::K,h=>by
  unfold dropK at h;simp only[List.map_cons,AK.ki,dropTo];exact dropK_none h
theorem dropK_sub {id:Nat}:∀{K K':List AK},dropK id K=some K'→∀k∈K',k∈K
 |[],K',h=>by cases h
 |.blk id'::K,K',h=>by
  unfold dropK at h
  split at h
  ·injection h with h
   subst h
   exact fun k hk=>List.mem_cons_of_mem _ hk
  ·exact fun k hk=>List.mem_cons_of_mem _ (dropK_sub h k hk)
 |.code c::K,K',h=>fun k hk=>List.mem_cons_of_mem _ (dropK_sub (by unfold dropK at h;exact h) k hk)
def Within (LS:List (Nat×Code))(K:List AK):Prop:=∀k∈K,∀c,k=.code c→∀e∈loopsOf c,e∈LS
theorem run_ok (hT:T.Ok P)(O:MdOk D)(hm:P.follows .mixedOrders=true){C:CallE D X}(hC:CallOk P C)(hpk:T.pk=B.pk)(hgk:T.gk=B.gk){Lp:LoopE D X}{wk:Nat→List Nat}{LS:List (Nat×Code)}(hL:∀e∈LS,LoopOk P B n ds Lp e.1 e.2){Q:Post}{D0:World→Prop}(hQ:∀c (d:Option Tmp) v a w,Q (.panic c) (a.put d v) w→Q (.panic c) a w){x:X}{κ:Stop D→Option X}(good:∀o,κ o=some x→Good B n ds Q o):
  ∀(f:Nat) (K:List AK) (s:AS D) (S:Sto (Tg D.τ)) (a:Act) (w:World),run T C Lp wk n f K s κ=some x→Within LS K→FrmA n ds a S s.fr→Rel B s.st s.L s.dk S w→WPK P D0 (K.map AK.ki) Q a w
 |0,K,s,S,a,w,h,_,_,_=>by cases h
 |f+1,K,s,S,a,w,h,hW,hF,R=>by
  have ih:=run_ok hT O hm hC hpk hgk (wk:=wk) hL (D0:=D0) hQ good f;unfold run at h
  split at h
  ·exact good _ h S a w hF R
  ·rename_i id K
   simp only[List.map_cons,AK.ki];rw[WPK_blk];exact ih K s S a w h (fun k hk=>hW k (List.mem_cons_of_mem _ hk)) hF R
  ·rename_i c K
   have hW':Within LS K:=fun k hk=>hW k (List.mem_cons_of_mem _ hk)
   have hWc:∀e∈loopsOf c,e∈LS:=hW (.code c) (List.mem_cons_self ..) c rfl
   have within1:∀x,(∀e∈loopsOf x,e∈LS)→∀K',Within LS K'→Within LS (.code x::K'):=fun x hx K' hK' k hk c hc=>by
    rcases List.mem_cons.1 hk with rfl|hk
    ·injection hc with hc
     subst hc;exact hx
    ·exact hK' k hk c hc
   have within2:∀id K',Within LS K'→Within LS (.blk id::K'):=fun id K' hK' k hk c hc=>by
    rcases List.mem_cons.1 hk with rfl|hk
    ·cases hc
    ·exact hK' k hk c hc
   simp only[List.map_cons,AK.ki]
   split at h
   ·exact K_skip (ih K s S a w h hW' hF R)
   ·rename_i x0 y0
    refine K_seq ?_
    exact ih (.code x0::.code y0::K) s S a w h (within1 _ (fun e he=>hWc e (by simp[loopsOf,he])) _ (within1 _ (fun e he=>hWc e (by simp[loopsOf,he])) _ hW')) hF R
   ·rename_i v x0 y0
    split at h
    ·rename_i b hv
     refine K_cond (t:=b) (hF.eval hv) ?_
     cases b with
     |true=>exact ih (.code x0::K) s S a w h (within1 _ (fun e he=>hWc e (by simp[loopsOf,he])) _ hW') hF R
     |false=>exact ih (.code y0::K) s S a w h (within1 _ (fun e he=>hWc e (by simp[loopsOf,he])) _ hW') hF R
    ·cases h
   ·rename_i id b
    obtain⟨o,h1,h2,h3⟩:=hL (id,b) (hWc _ (by simp[loopsOf])) s _ x h
    refine K_block ?_
    rw[WPK_code]
    refine h3 S a w _ (postK_put hQ) hF R ?_
    cases o with
    |norm s'=>exact absurd rfl (h2 s')
    |ret s'=>
     simp only[leaveA] at h1
     exact fun S' a' w' hF' R'=>postK_ret (K:=.blk id::K.map AK.ki) (good _ h1 S' a' w' hF' R')
    |pan v s'=>
     simp only[leaveA] at h1
     exact fun S' a' w' hF' R'=>(postK_panic (K:=.blk id::K.map AK.ki)).2 (good _ h1 S' a' w' hF' R')
    |exit id' s'=>
     simp only[leaveA] at h1;intro S' a' w' hF' R'
     split at h1
     ·rename_i K' hd
      refine dropTo_exit (K:=.blk id::K.map AK.ki) (dropK_ki (K:=.blk id::K) hd) ?_
      have:=ih K' s' S' a' w' h1 (fun k hk=>within2 id K hW' k (dropK_sub hd k hk)) hF' R';exact this
     ·rename_i hd
      exact postK_exit_out (K:=.blk id::K.map AK.ki) (dropK_none (K:=.blk id::K) hd) (good _ h1 S' a' w' hF' R')
   ·rename_i id x0 hne
    refine K_block ?_
    refine ih (.code x0::.blk id::K) s S a w h (within1 _ (fun e he=>hWc e ?_) _ (within2 id K hW')) hF R
    have e1:loopsOf (.block id x0)=loopsOf x0:=by
     cases x0<;>first
     |rfl
     |exact (hne _ rfl).elim
    rw[e1];exact he
   ·rename_i id
    split at h
    ·rename_i K' hd
     exact K_exit (dropTo_exit (dropK_ki hd) (ih K' s S a w h (fun k hk=>hW' k (dropK_sub hd k hk)) hF R))
    ·rename_i hd
     exact K_exit (postK_exit_out (dropK_none hd) (good _ h S a w hF R))
   ·exact K_ret (postK_ret (good _ h S a w hF R))
   ·rename_i id ops
    refine K_region ?_
    rw[WPK_ops]
    refine opsP_ok hT O hC hpk hgk (fun s' S' a' w' h1 h2 h3=>ih K s' S' a' w' h1 hW' h2 h3) (fun v s' S' a' w' h1 h2 h3=>postK_panic.2 (good (.pan v s') h1 S' a' w' h2 h3)) ops.toList s S a w h hF R
   ·rename_i id ops
    have Rd:Rel B s.st s.L s.dk S {w with drawn:=w.drawn+1}:=R.same ⟨rfl,rfl,rfl,rfl⟩ O
    cases hb:(Region.lexB .any ops&&ops.toList.all (fun o=>lightOp o.op)) with
    |true=>
     rw[hb] at h;simp only[cond_true] at h;simp only[Bool.and_eq_true] at hb;rw[WPK_code]
     refine wp_region_still hm hb.1 (stillA_ok (s:=s) (S:=S) (B:=B) (n:=n) (ds:=ds) hT O (fun s' e1 e2 e3=>by rw[e1,e2,e3];exact Rd) (fun s' a' h1 h2 e1 e2 e3=>?_) ops.toList s a h hF rfl rfl rfl)
     exact ih K s' S a' _ h1 hW' h2 (by rw[e1,e2,e3];exact Rd)
    |false=>
     rw[hb] at h;simp only[cond_false] at h
     cases hb2:(Region.noSelect ops&&(sigma ops).length==ops.size&&schB .any ops (sigma ops) (prefixLen ops (wk id) (sigma ops)) (sigma ops) (Array.replicate ops.size false) 0) with
     |false=>rw[hb2] at h;cases h
     |true=>
      rw[hb2] at h;simp only[cond_true] at h;rw[WPK_code]
      refine wp_region_sch (C:=Cls D (wk id) S {w with drawn:=w.drawn+1}) (sigma ops) _ hm hb2 (postK_put hQ) ?_
      exact schA_ok hT O hC hpk hgk (fun s' S' a' w' h1 h2 h3=>ih K s' S' a' w' h1 hW' h2 h3) (sigma ops) 0 true s S a _ h hF Rd (fun _=>⟨⟨fun _ _ _=>rfl,MapsStay.refl _⟩,Nat.le_refl _,fun _ _ _=>rfl⟩) fun _=>⟨rfl,rfl⟩
   ·cases h
end
end Go.Beat
end
section
namespace Go.Beat
open Go
inductive Ret (D:Md) where
  |ok (r:TV D.τ) (st:D.σ) (L:List (LObj D.τ))
  |pan (v:Value) (st:D.σ)
section
variable {D:Md} {X:Type} {B:Base D} {s:AS D} {P:Program} {T:TabA} {n:Nat} {ds:List Deferred} {S:Sto (Tg D.τ)} {w:World} {a:Act}
def resA (T:TabA)(s:AS D):List ResultVar→(List (AL D.τ ⊕ List (AL D.τ))→Option X)→Option X
 |[],κ=>κ []
 |.tmp t::r,κ=>match lookA s.fr t with
  |some (.l c)=>resA T s r fun xs=>κ (.inl c::xs)
  |some (.agg ys)=>resA T s r fun xs=>κ (.inr ys::xs)
  |_=>none
 |.cell t ty::r,κ=>match lookA s.fr t with
  |some (.l (.p tg k sz f))=>bif T.sca.contains ty then s.rd tg k sz f 1 (fun as=>match as with|[c]=>resA T s r fun xs=>κ (.inl c::xs)|_=>none)
   else (match T.ag ty with|some m=>s.rd tg k sz f m (fun as=>resA T s r fun xs=>κ (.inr as::xs))|none=>none)
  |_=>none
def packR {τ:Type}:List (AL τ ⊕ List (AL τ))→TV τ
 |[.inl c]=>.l c
 |[.inr ys]=>.agg ys
 |xs=>.tup xs
def anyLoc {τ:Type}:Tg τ→Bool
 |.loc _=>true
 |.m _=>false
def finA (T:TabA)(rs:List ResultVar):Stop D→Option (Ret D)
 |.ret s=>match s.dk with
  |[]=>resA T s rs fun xs=>some (.ok (packR xs) s.st (bif (packR xs).has anyLoc then s.L else []))
  |_=>none
 |.norm s=>match s.dk with
  |[]=>resA T s rs fun xs=>some (.ok (packR xs) s.st (bif (packR xs).has anyLoc then s.L else []))
  |_=>none
 |.pan v s=>match s.dk with
  |[]=>some (.pan v s.st)
  |_=>none
 |.exit _ _=>none
def rv (P:Program)(tmps:Array Value)(r:ResultVar):Sem Value:=match r with
 |.tmp t=>pure (tmps.getD t undef)
 |.cell a t=>do loadVar t (←asAddr (tmps.getD a undef))
theorem resA_ok (hT:T.Ok P)(O:MdOk D)(hF:FrmA n ds a S s.fr)(R:Rel B s.st s.L s.dk S w):∀(rs:List ResultVar) (κ:List (AL D.τ ⊕ List (AL D.τ))→Option X) (x:X),resA T s rs κ=some x→
  ∃xs,κ xs=some x∧(rs.mapM (rv P a.tmps)).run P w=.ok (xs.map (encE S)) w
 |[],κ,x,h=>⟨[],h,by simp⟩
 |.tmp t::r,κ,x,h=>by
  simp only[resA] at h
  split at h
  ·rename_i c hc
   obtain⟨xs,h1,h2⟩:=resA_ok hT O hF R r _ x h;refine⟨_,h1,?_⟩;have:=hF.get t _ hc;simp only[List.mapM_cons,Sem.run_bind,rv,this,h2];simp[h2,encT,encE]
  ·rename_i ys hc
   obtain⟨xs,h1,h2⟩:=resA_ok hT O hF R r _ x h;refine⟨_,h1,?_⟩;have:=hF.get t _ hc;simp only[List.mapM_cons,Sem.run_bind,rv,this,h2];simp[h2,encT,encE]
  ·cases h
 |.cell t ty::r,κ,x,h=>by
  simp only[resA] at h
  split at h
  ·rename_i tg k sz f hc
   have hg:=hF.get t _ hc
   cases hb:T.sca.contains ty with
   |true=>
    rw[hb] at h;simp only[cond_true] at h;obtain⟨as,h1,h2,h3⟩:=AS.rd_ok (B:=B) O h
    split at h1
    ·rename_i c
     obtain⟨xs,h4,h5⟩:=resA_ok hT O hF R r _ x h1;refine⟨_,h4,?_⟩;obtain⟨hcell,_⟩:=h3 S w R 0 c rfl;simp only[Nat.add_zero] at hcell;have hl:=run_loadVar_sca (P:=P) (Tab.ok_sca hT.base hb) hcell;simp only[List.mapM_cons,Sem.run_bind,rv,hg,encT,encL,asAddr];simp[hl,h5,encE]
    ·cases h1
   |false=>
    rw[hb] at h;simp only[cond_false] at h
    split at h
    ·rename_i m hm
     obtain⟨as,h1,h2,h3⟩:=AS.rd_ok (B:=B) O h;obtain⟨xs,h4,h5⟩:=resA_ok hT O hF R r _ x h1;refine⟨_,h4,?_⟩;have hag:=hT.agOk hm
     have hl:=run_loadVar_agg (P:=P) (t:=ty) (vs:=as.map (encL S)) (a:=⟨(S.loc tg).b,(S.loc tg).off+k*sz+f,none⟩) (w:=w) (by rw[List.length_map,h2];exact hag) (fun j u hu=>by
      simp only[List.getElem?_map,Option.map_eq_some_iff] at hu;obtain⟨a0,ha0,rfl⟩:=hu;rw[Addr.add_lit]
      exact (h3 S w R j a0 ha0).1)
     simp only[List.mapM_cons,Sem.run_bind,rv,hg,encT,encL,asAddr];simp[hl,h5,encE]
    ·cases h
  ·cases h
theorem pack_enc {τ:Type}(S:Sto (Tg τ))(xs:List (AL τ ⊕ List (AL τ))):(if h:(xs.map (encE S)).toArray.size=1 then (xs.map (encE S)).toArray[0] else .tuple (xs.map (encE S)).toArray)=encT S (packR xs):=by
 match xs with
 |[]=>rfl
 |[.inl c]=>rfl
 |[.inr ys]=>rfl
 |x::y::r=>
  have e:packR (x::y::r)=.tup (x::y::r):=by cases x<;>rfl
  rw[e];simp[encT]
theorem run_results {fn:Func}(hT:T.Ok P)(O:MdOk D)(hF:FrmA n ds a S s.fr)(R:Rel B s.st s.L s.dk S w){κ:List (AL D.τ ⊕ List (AL D.τ))→Option X}{x:X}(h:resA T s fn.results.toList κ=some x):
  ∃xs,κ xs=some x∧(results fn a.tmps).run P w=.ok (encT S (packR xs)) w:=by
 obtain⟨xs,h1,h2⟩:=resA_ok hT O hF R _ _ _ h;refine⟨xs,h1,?_⟩
 have e:(fn.results.mapM (rv P a.tmps)).run P w=.ok (xs.map (encE S)).toArray w:=by
  rw[Array.mapM_eq_mapM_toList];simp[h2]
 have e3:results fn a.tmps=(fn.results.mapM (rv P a.tmps)>>=fun vs=>pure (if h:vs.size=1 then vs[0] else .tuple vs)):=by
  unfold results
  congr 1
 rw[e3,Sem.run_bind,e,Result.andThen_ok,pack_enc];rfl
def argsFr {τ:Type}:Nat→List (TV τ)→AFr τ
 |_,[]=>[]
 |i,v::vs=>(i,v)::argsFr (i+1) vs
theorem look_args {τ:Type}:∀(vs:List (TV τ)) (i t:Nat) (v:TV τ),lookA (argsFr i vs) t=some v→i≤t∧vs[t - i]?=some v
 |[],i,t,v,h=>by cases h
 |u::vs,i,t,v,h=>by
  unfold argsFr lookA at h
  split at h
  ·rename_i hit
   have hit':i=t:=by simpa using hit
   subst hit';rw[TV.ok_eq h]
   simp
  ·obtain⟨h1,h2⟩:=look_args vs (i+1) t v h
   refine⟨by omega,?_⟩;rw[show t - i=(t - (i+1))+1 from by omega]
   simpa using h2
def RetPost (B:Base D):Ret D→Ending→World→Prop
 |.ok v st' L',e,w'=>∃S1,e=.returned (encT S1 v)∧Rel B st' L' [] S1 w'
 |.pan v st',e,w'=>e=.panicked [{v:=v,recovered:=false}]∧∃S1,Rel B st' [] [] S1 w'
def Fulfils (D:Md)(P:Program)(f:FuncId)(vs:List (TV D.τ))(st:D.σ)(pk gk:List Nat)(r:Ret D):Prop:=∀S w,Rel ⟨S,w,st,pk,gk⟩ st [] [] S w→Calls P f (vs.map (encT S)).toArray w (RetPost ⟨S,w,st,pk,gk⟩ r)
theorem Rel.forget {st:D.σ}{L:List (LObj D.τ)}{dk:List D.τ}(R:Rel B st L dk S w)(m:Nat):Rel B st (L.take m) dk S w:=by
 refine⟨?_,R.fresh,R.kp,R.ro,R.ex,R.stab,R.mono,R.rob,R.turn⟩
 have key:∀i,(L.take m)[i]?=L[i]?∨(L.take m)[i]?=none:=fun i=>by
  rcases Nat.lt_or_ge i m with h|h
  ·exact .inl (List.getElem?_take_of_lt h)
  ·exact .inr (List.getElem?_eq_none (by simp;omega))
 refine (R.H.congr (c':=encC S (contA st dk (L.take m))) fun t cs ht=>?_).mta fun t cs ht=>?_
 ·cases t with
  |m t=>exact ht
  |loc i=>
   simp only[encC,contA] at ht ⊢
   rcases key i with h|h
   ·rw[h] at ht;exact ht
   ·rw[h] at ht;simp at ht
 ·cases t with
  |m t=>exact⟨rfl,rfl,rfl⟩
  |loc i=>
   simp only[encC,contA] at ht
   rcases key i with h|h
   ·simp only[metaA,h]
    exact⟨trivial,trivial,trivial⟩
   ·rw[h] at ht;simp at ht
open Classical in
/-- Object j alone of those from m on: it is object m now. -/
theorem Rel.compact {st:D.σ} {L:List (LObj D.τ)} {dk:List D.τ} (R:Rel B st L dk S w) (O:MdOk D) {m j:Nat} (hmj:m<j) {ob:LObj D.τ} (hj:L[j]?=some ob) {o:LO D.τ} (ho:ob.o=some o) (hob:ob.has (isLoc m)=false) (hL:(L.take m).any (·.has (isLoc m))=false):
  ∃S',Rel B st (L.take m++[ob]) dk S' w∧(∀t,isLoc m t=false→S'.loc t=S.loc t)∧S'.loc (.loc m)=S.loc (.loc j):=by
 have hjl:=(List.getElem?_eq_some_iff.1 hj).1
 have hlen:(L.take m).length=m:=by simp;omega
 have hcj:contA st dk L (.loc j)=some o.flat:=by simp[contA,hj,ho]
 have hne:(Tg.loc j:Tg D.τ)≠.loc m:=fun e=>by injection e with e;omega
 let M':=metaA D (L.take m++[ob])
 let M2:Meta (Tg D.τ):=⟨fun t=>if t=.loc j then ob.ty else M'.ty t,fun t=>if t=.loc j then ob.sz else M'.sz t,fun t=>if t=.loc j then ob.fix else M'.fix t⟩
 let c0:Cont (Tg D.τ):=fun t=>match t with
  |.m u=>encC S (contA st dk L) (.m u)
  |.loc i=>if i<m∨i=j then encC S (contA st dk L) (.loc i) else none
 have elt:∀i,i<m→(L.take m++[ob])[i]?=L[i]?:=fun i hi=>by
  rw[List.getElem?_append_left (by omega),List.getElem?_take_of_lt hi]
 have em:(L.take m++[ob])[m]?=some ob:=by
  rw[List.getElem?_append_right (by omega),hlen]
  simp
 have H0:Holds M2 S w.heap c0:=(R.H.congr (c':=c0) fun t cs ht=>by
  cases t with
  |m u=>exact ht
  |loc i=>
   simp only[c0] at ht
   split at ht
   ·exact ht
   ·cases ht).mta fun t cs ht=>by
  cases t with
  |m u=>exact⟨if_neg (fun e=>by cases e),if_neg (fun e=>by cases e),if_neg (fun e=>by cases e)⟩
  |loc i=>
   simp only[c0] at ht
   split at ht
   ·rename_i hi
    by_cases hij:i=j
    ·subst hij
     simp[M2,metaA,hj]
    ·have hi:i<m:=hi.resolve_right hij
     simp[M2,M',metaA,elt i hi,hij]
   ·cases ht
 have H1:=H0.ren (x:=.loc j) (y:=.loc m) (cs:=o.flat.map (encL S)) (by simp[c0,encC,hcj]) hne (by
  have e1:¬(Tg.loc m:Tg D.τ)=.loc j:=fun e=>hne e.symm
  simp[M2,M',metaA,em,e1])
 have hl:∀t,isLoc m t=false→(S.ren (.loc j) (.loc m) (S.loc (.loc j))).loc t=S.loc t:=fun t ht=>Sto.ren_loc_ne S _ _ (locne ht)
 refine⟨S.ren (.loc j) (.loc m) (S.loc (.loc j)),?_,hl,Sto.ren_loc _ _ _ _⟩
 refine R.step O (Evn.ren S _ _ _ w) ?_ (Fresh.ren R.fresh _ _ _) (fun t _=>hl _ rfl) rfl (fun _ _ h=>h) fun _ _ h=>h
 have hcn:=cont_new (st:=st) (dk:=dk) (L:=L.take m) O (j:=m) hl hL
 have cont:∀t cs,encC (S.ren (.loc j) (.loc m) (S.loc (.loc j))) (contA st dk (L.take m++[ob])) t=some cs→t≠.loc j∧renC c0 (.loc j) (.loc m) (o.flat.map (encL S)) t=some cs:=fun t cs ht=>by
  cases t with
  |m u=>
   refine⟨(fun e=>by cases e),?_⟩;have e1:encC (S.ren (.loc j) (.loc m) (S.loc (.loc j))) (contA st dk (L.take m++[ob])) (.m u)=encC (S.ren (.loc j) (.loc m) (S.loc (.loc j))) (contA st dk (L.take m)) (.m u):=rfl;rw[e1,hcn] at ht;unfold renC;rw[if_neg (fun e=>by cases e),if_neg (fun e=>by cases e)];exact ht
  |loc i=>
   rcases Nat.lt_trichotomy i m with hi|hi|hi
   ·have e0:(Tg.loc i:Tg D.τ)≠.loc j:=fun e=>by injection e with e;omega
    have e2:(Tg.loc i:Tg D.τ)≠.loc m:=fun e=>by injection e with e;omega
    refine⟨e0,?_⟩
    have e1:encC (S.ren (.loc j) (.loc m) (S.loc (.loc j))) (contA st dk (L.take m++[ob])) (.loc i)=encC (S.ren (.loc j) (.loc m) (S.loc (.loc j))) (contA st dk (L.take m)) (.loc i):=by
     simp[encC,contA,elt i hi,List.getElem?_take_of_lt hi]
    rw[e1,hcn] at ht;unfold renC;rw[if_neg e2,if_neg e0];simp only[c0];rw[if_pos (.inl hi)]
    simpa [encC,contA,List.getElem?_take_of_lt hi] using ht
   ·subst hi
    refine⟨fun e=>hne e.symm,?_⟩;unfold renC;rw[if_pos rfl];simp only[encC,contA,em,ho,Option.map_some,Option.some.injEq] at ht;rw[←ht];exact congrArg some (flat_enc hl hob ho).symm
   ·have:(L.take m++[ob])[i]?=none:=List.getElem?_eq_none (by simp;omega)
    simp[encC,contA,this] at ht
 refine (H1.congr fun t cs ht=>(cont t cs ht).2).mta fun t cs ht=>?_
 have e:=(cont t cs ht).1;exact⟨(if_neg e).symm,(if_neg e).symm,(if_neg e).symm⟩
theorem fn_fulfils (hT:T.Ok P)(O:MdOk D)(hm:P.follows .mixedOrders=true){C:CallE D (Ret D)}(hC:CallOk P C){Lp:LoopE D (Ret D)}{wk:Nat→List Nat}{f:FuncId}{fn:Func}{c:Code}(hf:P.funcs[f]?=some fn)(hb:fn.body=some c)(hL:∀B:Base D,T.pk=B.pk→T.gk=B.gk→∀e∈loopsOf c,LoopOk P B fn.ntmps [] Lp e.1 e.2){vs:List (TV D.τ)}{st:D.σ}{r:Ret D}(hn:vs.length≤fn.ntmps)(N:Nat)(h:run T C Lp wk fn.ntmps N [.code c] ⟨argsFr 0 vs,st,[],[]⟩ (finA T fn.results.toList)=some r):Fulfils D P f vs st T.pk T.gk r:=by
 intro S w R
 let R':Ending→World→Prop:=RetPost ⟨S,w,st,T.pk,T.gk⟩ r
 refine calls_of_wp hf hb ?_
 have hF:FrmA fn.ntmps [] {tmps:=(vs.map (encT S)).toArray++Array.replicate (fn.ntmps - (vs.map (encT S)).toArray.size) undef,defers:=[]} S (argsFr 0 vs):=by
  refine⟨rfl,by simp;omega,fun t v ht=>?_⟩;obtain⟨_,h2⟩:=look_args vs 0 t v ht;have hlt:t<vs.length:=(List.getElem?_eq_some_iff.1 h2).1;simp only[Nat.sub_zero] at h2;have h3:vs[t]=v:=(List.getElem?_eq_some_iff.1 h2).2;simp[Array.getElem?_append,hlt,h3]
 have done:∀(s:AS D) (S1:Sto (Tg D.τ)) (a:Act) (w1:World),(match s.dk with|[]=>resA T s fn.results.toList fun xs=>some (Ret.ok (packR xs) s.st (bif (packR xs).has anyLoc then s.L else []))|_=>none)=some r→FrmA fn.ntmps [] a S1 s.fr→Rel ⟨S,w,st,T.pk,T.gk⟩ s.st s.L s.dk S1 w1→
   a.defers=[]∧∃v,(results fn a.tmps).run P w1=.ok v w1∧R' (.returned v) w1:=fun s S1 a w1 h hF R=>by
  split at h
  ·rename_i hdk
   rw[hdk] at R
   obtain⟨xs,h1,h2⟩:=run_results (s:={s with dk:=[]}) (fn:=fn) hT O hF R (show resA T {s with dk:=[]} fn.results.toList _=some r from by
    have e:({s with dk:=[]}:AS D)=s:=by cases s;simp_all
    rw[e]
    exact h)
   refine⟨hF.defs,_,h2,?_⟩;simp only[Option.some.injEq] at h1
   show RetPost _ r _ _
   rw[←h1];refine⟨S1,rfl,?_⟩
   cases (packR xs).has anyLoc with
   |true=>exact R
   |false=>exact R.forget 0
  ·cases h
 have:=run_ok (D0:=fun _=>True) hT O hm hC (B:=⟨S,w,st,T.pk,T.gk⟩) rfl rfl (Lp:=Lp) (wk:=wk) (LS:=loopsOf c) (n:=fn.ntmps) (ds:=[]) (hL _ rfl rfl) (Q:=bodyPost P fn R') body_put (x:=r) (κ:=finA T fn.results.toList) (fun o ho=>by
  cases o with
  |norm s=>exact fun S1 a w1 hF R=>done s S1 a w1 ho hF R
  |ret s=>exact fun S1 a w1 hF R=>done s S1 a w1 ho hF R
  |exit id s=>cases ho
  |pan v s=>
   intro S1 a w1 hF R;simp only[finA] at ho
   split at ho
   ·rename_i hdk
    simp only[Option.some.injEq] at ho;rw[hdk] at R;refine⟨hF.defs,?_⟩
    show RetPost _ r _ _
    rw[←ho];exact⟨rfl,S1,R.forget 0⟩
   ·cases ho) N [.code c] ⟨argsFr 0 vs,st,[],[]⟩ S _ w h (fun k hk c' hc' e he=>by
    rw[List.mem_singleton] at hk;subst hk
    injection hc' with hc'
    subst hc'
    exact he) hF R
 simp only[List.map_cons,List.map_nil,AK.ki] at this;rw[WPK_code] at this
 have e2:postK P (fun _=>True) [] (bodyPost P fn R')=bodyPost P fn R':=by funext e a w;cases e<;>rfl
 rw[e2] at this;exact this
def keepA {τ:Type}(fr:AFr τ):List Nat→Option (AFr τ)
 |[]=>some []
 |k::ks=>match lookA fr k with
  |none=>none
  |some v=>match keepA fr ks with
   |some r=>some ((k,v)::r)
   |none=>none
theorem look_keep {τ:Type}{fr:AFr τ}:∀(ks:List Nat) (fr':AFr τ),keepA fr ks=some fr'→∀t v,lookA fr' t=some v→lookA fr t=some v
 |[],fr',h,t,v,hv=>by
  simp only[keepA,Option.some.injEq] at h;subst h
  cases hv
 |k::ks,fr',h,t,v,hv=>by
  simp only[keepA] at h
  split at h
  ·cases h
  ·rename_i u hu
   split at h
   ·rename_i r hr
    simp only[Option.some.injEq] at h;subst h;unfold lookA at hv
    split at hv
    ·rename_i hk
     have hk':k=t:=by simpa using hk
     subst hk';rw[TV.ok_eq hv];exact hu
    ·exact look_keep ks r hr t v hv
   ·cases h
def renO {τ:Type}(q j m:Nat):AFr τ→AFr τ
 |[]=>[]
 |e::r=>(match e.2 with
  |.l (.sl (.loc i) k sz n)=>bif Nat.beq e.1 q&&Nat.beq i j then (e.1,.l (.sl (.loc m) k sz n)) else e
  |_=>e)::renO q j m r
def nrm (ks:List Nat)(m:Nat)(ok:Option Nat)(s:AS D):Option (AS D):=match keepA s.fr ks with
 |none=>none
 |some fr=>match ok with
  |none=>some {s with fr:=fr,L:=s.L.take m}
  |some q=>match lookA fr q with
   |some (.l (.sl (.loc j) _ _ _))=>bif Nat.blt m j then (match s.L[j]? with
     |some ob=>bif !((s.L.take m).any (·.has (isLoc m)))&&!(ob.has (isLoc m))&&(match ob.o with|some _=>true|none=>false) then some {s with fr:=renO q j m (purge (isLoc m) fr),L:=s.L.take m++[ob]} else none
     |none=>none)
    else some {s with fr:=fr,L:=s.L.take (m+1)}
   |_=>some {s with fr:=fr,L:=s.L.take m}
theorem renO_look {τ:Type}{q j m:Nat}{S:Sto (Tg τ)}(hS:S.loc (.loc m)=S.loc (.loc j)):∀{fr:AFr τ} {t:Nat} {v:TV τ},lookA (renO q j m fr) t=some v→∃v0,lookA fr t=some v0∧encT S v0=encT S v
 |[],t,v,h=>by cases h
 |e::r,t,v,h=>by
  obtain⟨t0,u⟩:=e;simp only[renO] at h
  have keep:lookA ((t0,u)::renO q j m r) t=some v→∃v0,lookA ((t0,u)::r) t=some v0∧encT S v0=encT S v:=fun hv=>by
   unfold lookA at hv ⊢
   split at hv
   ·rename_i ht
    rw[if_pos ht];exact⟨v,hv,rfl⟩
   ·rename_i ht
    rw[if_neg ht];exact renO_look hS hv
  split at h
  ·rename_i i k sz n
   cases hb:(Nat.beq t0 q&&Nat.beq i j) with
   |false=>rw[hb] at h;exact keep h
   |true=>
    rw[hb] at h;simp only[Bool.and_eq_true,Nat.beq_eq] at hb;obtain⟨rfl,rfl⟩:=hb;simp only[cond_true] at h;unfold lookA at h ⊢
    split at h
    ·rename_i ht
     rw[if_pos ht];simp only[TV.ok,Option.some.injEq] at h;subst h;exact⟨_,rfl,by simp[encT,encL,hS]⟩
    ·rename_i ht
     rw[if_neg ht];exact renO_look hS h
  ·exact keep h
theorem nrm_ok (O:MdOk D){ks:List Nat}{m:Nat}{ok:Option Nat}{s s':AS D}(h:nrm ks m ok s=some s')(hF:FrmA n ds a S s.fr)(R:Rel B s.st s.L s.dk S w):∃S',FrmA n ds a S' s'.fr∧Rel B s'.st s'.L s'.dk S' w:=by
 unfold nrm at h
 split at h
 ·cases h
 ·rename_i fr hk
  have hF1:FrmA n ds a S fr:=⟨hF.defs,hF.size,fun t v hv=>hF.get t v (look_keep ks fr hk t v hv)⟩
  split at h
  ·simp only[Option.some.injEq] at h
   subst h;exact⟨S,hF1,R.forget m⟩
  ·split at h
   ·rename_i q j k sz n' hq
    cases hb:Nat.blt m j with
    |false=>
     rw[hb] at h;simp only[cond_false,Option.some.injEq] at h;subst h;exact⟨S,hF1,R.forget (m+1)⟩
    |true=>
     rw[hb] at h;simp only[cond_true] at h
     split at h
     ·rename_i ob hob
      cases hb2:(!((s.L.take m).any (·.has (isLoc m)))&&!(ob.has (isLoc m))&&(match ob.o with|some _=>true|none=>false)) with
      |false=>rw[hb2] at h;cases h
      |true=>
       rw[hb2] at h;simp only[cond_true,Option.some.injEq] at h;subst h;simp only[Bool.and_eq_true,Bool.not_eq_true'] at hb2;obtain⟨⟨h1,h2⟩,h3⟩:=hb2
       split at h3
       ·rename_i o ho
        obtain⟨S',R',hl,hm⟩:=R.compact O (Nat.le_of_ble_eq_true hb) hob ho h2 h1;have hF2:FrmA n ds a S' (purge (isLoc m) fr):=hF1.purge hl
        have ej:S'.loc (.loc j)=S.loc (.loc j):=hl _ (by
         have:m<j:=Nat.le_of_ble_eq_true hb
         cases hc:Nat.beq j m with
         |false=>exact hc
         |true=>simp only[Nat.beq_eq] at hc;omega)
        refine⟨S',⟨hF2.defs,hF2.size,fun t v hv=>?_⟩,R'⟩;obtain⟨v0,g1,g2⟩:=renO_look (S:=S') (by rw[hm,ej]) hv;rw[hF2.get t v0 g1,g2]
       ·cases h3
     ·cases h
   ·simp only[Option.some.injEq] at h
    subst h;exact⟨S,hF1,R.forget m⟩
def keepO {τ:Type}(fr:AFr τ):List Nat→AFr τ
 |[]=>[]
 |k::ks=>match lookA fr k with
  |none=>keepO fr ks
  |some v=>(k,v)::keepO fr ks
theorem look_keepO {τ:Type}{fr:AFr τ}:∀(ks:List Nat) (t:Nat) (v:TV τ),lookA (keepO fr ks) t=some v→lookA fr t=some v
 |[],t,v,hv=>by cases hv
 |k::ks,t,v,hv=>by
  simp only[keepO] at hv
  split at hv
  ·exact look_keepO ks t v hv
  ·rename_i u hu
   unfold lookA at hv
   split at hv
   ·rename_i hk
    have hk':k=t:=by simpa using hk
    subst hk';rw[TV.ok_eq hv];exact hu
   ·exact look_keepO ks t v hv
def nrmX (kx:List Nat)(L:List (LObj D.τ))(s:AS D):AS D:={s with fr:=keepO s.fr kx,L:=L}
def cutO (ks kx:List Nat)(m mx:Nat)(ok:Option Nat):Stop D→Option (Stop D)
 |.norm s=>(match nrm ks m ok s with|some s'=>some (.norm s')|none=>none)
 |.ret s=>some (.ret (nrmX kx (s.L.take mx) s))
 |.exit id s=>some (.exit id (nrmX kx (s.L.take mx) s))
 |.pan v s=>some (.pan v (nrmX [] [] s))
def roundA (T:TabA)(C:CallE D (Stop D))(Lp:LoopE D (Stop D))(wk:Nat→List Nat)(n N:Nat)(c:Code)(ks kx:List Nat)(m mx:Nat)(ok:Option Nat)(s:AS D):Option (Stop D):=run T C Lp wk n N [.code c] s (cutO ks kx m mx ok)
def iterA (T:TabA)(C:CallE D (Stop D))(Lp:LoopE D (Stop D))(wk:Nat→List Nat)(n N:Nat)(c:Code)(ks kx:List Nat)(m mx:Nat)(ok:Option Nat):Nat→AS D→Option (Stop D)
 |0,_=>none
 |k+1,s=>match roundA T C Lp wk n N c ks kx m mx ok s with
  |none=>none
  |some (.norm s')=>iterA T C Lp wk n N c ks kx m mx ok k s'
  |some o=>some o
theorem cut_good {ks kx:List Nat}{m mx:Nat}{ok:Option Nat}{Q:Post}{o o':Stop D}(h:cutO ks kx m mx ok o=some o')(hn:∀s,o≠.norm s)(g:Good B n ds Q o'):Good B n ds Q o:=by
 have hk:∀{S:Sto (Tg D.τ)} {a:Act} {fr:AFr D.τ} {kx:List Nat},FrmA n ds a S fr→FrmA n ds a S (keepO fr kx):=fun hF=>⟨hF.defs,hF.size,fun t v hv=>hF.get t v (look_keepO _ t v hv)⟩
 cases o with
 |norm s=>exact (hn s rfl).elim
 |ret s=>
  simp only[cutO,Option.some.injEq] at h;subst h
  exact fun S a w hF R=>g S a w (hk hF) (R.forget mx)
 |exit id s=>
  simp only[cutO,Option.some.injEq] at h;subst h
  exact fun S a w hF R=>g S a w (hk hF) (R.forget mx)
 |pan v s=>
  simp only[cutO,Option.some.injEq] at h;subst h
  exact fun S a w hF R=>g S a w (hk hF) (R.forget 0)
theorem loop_iter (hT:T.Ok P)(O:MdOk D)(hm:P.follows .mixedOrders=true){C:CallE D (Stop D)}(hC:CallOk P C)(hpk:T.pk=B.pk)(hgk:T.gk=B.gk){Lp:LoopE D (Stop D)}{wk:Nat→List Nat}{N m mx:Nat}{ok:Option Nat}{c:Code}{ks kx:List Nat}(hL:∀e∈loopsOf c,LoopOk P B n ds Lp e.1 e.2){o:Stop D}{Q:Post}(hQ:∀c (d:Option Tmp) v a w,Q (.panic c) (a.put d v) w→Q (.panic c) a w)(good:Good B n ds Q o)(k:Nat)(h:iterA T C Lp wk n N c ks kx m mx ok k s=some o)(hF:FrmA n ds a S s.fr)(R:Rel B s.st s.L s.dk S w):(Code.loop c).wp P Q a w:=by
 refine wp_loop_ghost (fun g a w=>∃s S,iterA T C Lp wk n N c ks kx m mx ok g s=some o∧FrmA n ds a S s.fr∧Rel B s.st s.L s.dk S w) k ⟨s,S,h,hF,R⟩ fun g a w hI=>?_
 obtain⟨s,S,h,hF,R⟩:=hI
 cases g with
 |zero=>cases h
 |succ g=>
  simp only[iterA] at h
  cases hr:roundA T C Lp wk n N c ks kx m mx ok s with
  |none=>rw[hr] at h;cases h
  |some x=>
   rw[hr] at h
   have e2:∀Q':Post,postK P (fun _=>True) [] Q'=Q':=fun Q'=>by funext e a w;cases e<;>rfl
   have:=run_ok (D0:=fun _=>True) hT O hm hC hpk hgk (Lp:=Lp) (wk:=wk) (LS:=loopsOf c) hL (Q:=Exit.then (fun a' w'=>∃g',g'<g+1∧∃s S,iterA T C Lp wk n N c ks kx m mx ok g' s=some o∧FrmA n ds a' S s.fr∧Rel B s.st s.L s.dk S w') Q) (then_put hQ) (x:=x) (κ:=cutO ks kx m mx ok) (fun o' ho=>by
    have ex:∀o1,cutO ks kx m mx ok o'=some o1→(∀s,o'≠.norm s)→o1=o→Good B n ds Q o':=fun o1 h1 h2 h3=>cut_good h1 h2 (h3 ▸ good)
    cases o' with
    |norm s1=>
     intro S1 a1 w1 hF1 R1;simp only[cutO] at ho
     split at ho
     ·rename_i s'' hn
      simp only[Option.some.injEq] at ho;subst ho;obtain⟨S2,hF2,R2⟩:=nrm_ok O hn hF1 R1;exact⟨g,Nat.lt_succ_self g,_,S2,h,hF2,R2⟩
     ·cases ho
    |ret s1=>
     refine ex _ ho (fun s h=>by cases h) ?_
     simp only[cutO,Option.some.injEq] at ho;subst ho
     simpa using h
    |exit id s1=>
     refine ex _ ho (fun s h=>by cases h) ?_
     simp only[cutO,Option.some.injEq] at ho;subst ho
     simpa using h
    |pan v s1=>
     refine ex _ ho (fun s h=>by cases h) ?_
     simp only[cutO,Option.some.injEq] at ho;subst ho
     simpa using h) N [.code c] s S a w hr (fun k hk c' hc' e he=>by
    rw[List.mem_singleton] at hk;subst hk
    injection hc' with hc'
    subst hc'
    exact he) hF R
   simp only[List.map_cons,List.map_nil,AK.ki] at this;rw[WPK_code] at this
   rwa [e2] at this
theorem iterA_norm {C:CallE D (Stop D)}{Lp:LoopE D (Stop D)}{wk:Nat→List Nat}{N m mx:Nat}{ok:Option Nat}{c:Code}{ks kx:List Nat}:∀(k:Nat) (s:AS D) (o:Stop D),iterA T C Lp wk n N c ks kx m mx ok k s=some o→∀s',o≠.norm s'
 |0,s,o,h,_=>by cases h
 |k+1,s,o,h,s'=>by
  simp only[iterA] at h
  split at h
  ·cases h
  ·exact iterA_norm k _ o h s'
  ·rename_i o' hne hr
   simp only[Option.some.injEq] at h;subst h;exact hne s'
structure LoopD (D:Md) where
 id:Nat
 ks:List Nat
 kx:List Nat
 m:Nat
 mx:Nat
 ok:Option Nat
 g:{X:Type}→List (TV D.τ)→D.σ→List (LObj D.τ)→List D.τ→(Stop D→Option X)→Option X
def lp1 (d:LoopD D)(s:AS D)(κ:Stop D→Option X):Option X:=match nrm d.ks d.m d.ok s with
 |some s'=>d.g (s'.fr.map (·.2)) s'.st s'.L s'.dk κ
 |none=>none
def lpOf:List (LoopD D)→(X:Type)→LoopE D X
 |[],_=>fun _ _ _=>none
 |d::r,X=>fun id s κ=>bif Nat.beq d.id id then lp1 d s κ else lpOf r X id s κ
def zipK {τ:Type}:List Nat→List (TV τ)→AFr τ
 |k::ks,v::vs=>(k,v)::zipK ks vs
 |_,_=>[]
def loopC (l:List (Nat×Code))(id:Nat):Code:=match l.find? fun e=>Nat.beq e.1 id with
 |some e=>e.2
 |none=>.skip
def nodupB:List Nat→Bool
 |[]=>true
 |x::r=>!(r.any (Nat.beq x))&&nodupB r
def LpOk (P:Program)(T:TabA)(D:Md)(n:Nat)(LS:List (Nat×Code))(l:List (LoopD D)):Prop:=∀d∈l,∀(X:Type) (B:Base D) (ds:List Deferred),T.pk=B.pk→T.gk=B.gk→LoopOk P B n ds (fun _=>lp1 (X:=X) d) d.id (loopC LS d.id)
theorem zip_keep {τ:Type}{fr:AFr τ}:∀(ks:List Nat) (fr':AFr τ),keepA fr ks=some fr'→fr'=zipK ks (fr'.map (·.2))
 |[],fr',h=>by
  simp only[keepA,Option.some.injEq] at h;subst h;rfl
 |k::ks,fr',h=>by
  simp only[keepA] at h
  split at h
  ·cases h
  ·split at h
   ·rename_i r hr
    simp only[Option.some.injEq] at h;subst h;simp only[List.map_cons,zipK];rw[←zip_keep ks r hr]
   ·cases h
theorem zip_map {τ:Type}(f:Nat×TV τ→TV τ):∀{fr:AFr τ} {ks:List Nat},fr=zipK ks (fr.map (·.2))→fr.map (fun e=>(e.1,f e))=zipK ks ((fr.map (fun e=>(e.1,f e))).map (·.2))
 |[],ks,_=>by cases ks<;>rfl
 |e::r,[],h=>by cases h
 |e::r,k::ks,h=>by
  simp only[List.map_cons,zipK,List.cons.injEq] at h ⊢;refine⟨?_,zip_map f h.2⟩;have:=congrArg Prod.fst h.1
  simp only at this
  rw[this]
theorem renO_map {τ:Type}(q j m:Nat):∀fr:AFr τ,renO q j m fr=fr.map fun e=>(e.1,match e.2 with|.l (.sl (.loc i) k sz n)=>bif Nat.beq e.1 q&&Nat.beq i j then .l (.sl (.loc m) k sz n) else e.2|u=>u)
 |[]=>rfl
 |e::r=>by
  simp only[renO,List.map_cons,renO_map q j m r,List.cons.injEq,and_true];obtain⟨t,u⟩:=e
  simp only
  split
  ·rename_i i k sz n
   cases (Nat.beq t q&&Nat.beq i j)<;>simp
  ·rfl
theorem nrm_zip {ks:List Nat}{m:Nat}{ok:Option Nat}{s s':AS D}(h:nrm ks m ok s=some s'):s'=⟨zipK ks (s'.fr.map (·.2)),s'.st,s'.L,s'.dk⟩:=by
 have key:s'.fr=zipK ks (s'.fr.map (·.2)):=by
  unfold nrm at h
  split at h
  ·cases h
  ·rename_i fr hk
   have hz:=zip_keep ks fr hk
   split at h
   ·simp only[Option.some.injEq] at h
    subst h;exact hz
   ·split at h
    ·rename_i q j k sz n' hq
     cases hb:Nat.blt m j with
     |false=>
      rw[hb] at h;simp only[cond_false,Option.some.injEq] at h;subst h;exact hz
     |true=>
      rw[hb] at h;simp only[cond_true] at h
      split at h
      ·rename_i ob hob
       cases hb2:(!((s.L.take m).any (·.has (isLoc m)))&&!(ob.has (isLoc m))&&(match ob.o with|some _=>true|none=>false)) with
       |false=>rw[hb2] at h;cases h
       |true=>
        rw[hb2] at h;simp only[cond_true,Option.some.injEq] at h;subst h;simp only[renO_map,purge];exact zip_map _ (zip_map _ hz)
      ·cases h
    ·simp only[Option.some.injEq] at h
     subst h;exact hz
 rw[←key]
theorem nodup_find:∀{l:List (Nat×Code)} {e:Nat×Code},nodupB (l.map (·.1))=true→e∈l→loopC l e.1=e.2
 |[],_,_,h=>by cases h
 |x::r,e,hn,he=>by
  simp only[List.map_cons,nodupB,Bool.and_eq_true,Bool.not_eq_true'] at hn;unfold loopC
  rcases List.mem_cons.1 he with rfl|he
  ·simp
  ·have:Nat.beq x.1 e.1=false:=by
    have h1:=hn.1;rw[List.any_eq_false] at h1;have h2:=h1 e.1 (List.mem_map_of_mem he)
    cases hb:Nat.beq x.1 e.1 with
    |false=>rfl
    |true=>exact (h2 hb).elim
   rw[List.find?_cons,this];exact nodup_find hn.2 he
theorem lpOf_ok {LS:List (Nat×Code)}(hd:nodupB (LS.map (·.1))=true)(hpk:T.pk=B.pk)(hgk:T.gk=B.gk):∀{l:List (LoopD D)},LpOk P T D n LS l→∀e∈LS,LoopOk P B n ds (lpOf l X) e.1 e.2
 |[],_,e,he=>fun _ _ _ h=>by cases h
 |d::r,h,e,he=>by
  intro s κ x hx;simp only[lpOf] at hx
  cases hb:Nat.beq d.id e.1 with
  |true=>
   rw[hb] at hx;simp only[Nat.beq_eq] at hb;have:=h d (List.mem_cons_self ..) X B ds hpk hgk;rw[hb,nodup_find hd he] at this;exact this s κ x hx
  |false=>
   rw[hb] at hx;exact lpOf_ok hd hpk hgk (fun d hd'=>h d (List.mem_cons_of_mem _ hd')) e he s κ x hx
theorem LpOk.nil {LS:List (Nat×Code)}:LpOk P T D n LS []:=fun _ h=>by cases h
theorem LpOk.cons (hT:T.Ok P)(O:MdOk D)(hm:P.follows .mixedOrders=true){C:CallE D (Stop D)}(hC:CallOk P C){LS:List (Nat×Code)}{l:List (LoopD D)}(hl:LpOk P T D n LS l){d:LoopD D}{li:List (LoopD D)}{wk:Nat→List Nat}{N:Nat}(hi:LpOk P T D n (loopsOf (loopC LS d.id)) li)(hd:nodupB ((loopsOf (loopC LS d.id)).map (·.1))=true)(h:∀{X:Type} (vs:List (TV D.τ)) (st:D.σ) (L:List (LObj D.τ)) (dk:List D.τ) (κ:Stop D→Option X) (x:X),d.g vs st L dk κ=some x→∃k o,iterA T C (lpOf li _) wk n N (loopC LS d.id) d.ks d.kx d.m d.mx d.ok k ⟨zipK d.ks vs,st,L,dk⟩=some o∧κ o=some x):LpOk P T D n LS (d::l):=fun d' hd'=>by
 rcases List.mem_cons.1 hd' with rfl|hd'
 ·intro X B ds hpk hgk s κ x hx
  simp only[lp1] at hx
  split at hx
  ·rename_i s' hk
   obtain⟨k,o,h1,h2⟩:=h _ _ _ _ _ _ hx;rw[←nrm_zip hk] at h1
   exact⟨o,h2,iterA_norm k _ o h1,fun S a w Q hQ hF R good=>by
    obtain⟨S2,hF2,R2⟩:=nrm_ok O hk hF R
    exact loop_iter hT O hm hC hpk hgk (lpOf_ok hd hpk hgk hi) hQ good k h1 hF2 R2⟩
  ·cases hx
 ·exact hl d' hd'
end
end Go.Beat
end
