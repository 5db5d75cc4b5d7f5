/-
  Texts joined by a program (shake.py), without what the claim does not use; printed walks among them (print.sh), and own ones.
-/
import Derived.Test.YtejjedooecephaaSleep16
section
namespace Go.Beat
open Go
section
variable {D:Md} {B:Base D} {st st':D.σ} {L:List (LObj D.τ)} {dk dk':List D.τ} {S:Sto (Tg D.τ)} {w:World} {P:Program}
open Classical in
noncomputable def Sto.nils {τ:Type} (S:Sto τ) (qs:List τ):Sto τ:={own:=S.own,loc:=fun t=>if t∈qs then SL.none else S.loc t}
open Classical in
noncomputable def nilC {τ:Type} (c:Cont τ) (qs:List τ):Cont τ:=fun t=>if t∈qs then some [] else c t
theorem Holds.nils {τ:Type}{M:Meta τ}{S:Sto τ}{h:Heap}{c:Cont τ}(H:Holds M S h c)(qs:List τ)(hq:∀q∈qs,0<M.sz q∧M.fix q=false):Holds M (S.nils qs) h (nilC c qs):=fun t cs ht=>by
 by_cases hm:t∈qs
 ·simp only[nilC,hm,if_true,Option.some.injEq] at ht
  subst ht
  have e:(S.nils qs).loc t=SL.none:=by simp[Sto.nils,hm]
  refine⟨⟨0,by simp,Nat.zero_le _⟩,by rw[e];simp[SL.none],(hq t hm).1,fun h=>?_,fun _=>by rw[e];exact⟨rfl,rfl⟩,fun h=>?_⟩
  ·rw[(hq t hm).2] at h;cases h
  ·rw[e] at h;cases h
 ·simp only[nilC,hm,if_false] at ht
  exact (H t cs ht).other (by simp[Sto.nils,hm]) (fun b _ ho=>ho) fun b _ _=>rfl
theorem Evn.nils {τ:Type}(S:Sto τ)(w:World)(qs:List τ):Evn S w (S.nils qs) w:=⟨⟨rfl,rfl,rfl,Nat.le_refl _,fun b _=>Iff.rfl,fun _ _ _=>rfl⟩,fun _ _ _ h=>h⟩
open Classical in
theorem Rel.adopt (R:Rel B st L dk S w) (O:MdOk D) {t y z:D.τ} {i:Nat} {qs:List D.τ} (hpk:B.pk.contains (D.kind z)=true) (hgy:B.gk.contains (D.kind y)=true) (hgq:∀q∈qs,B.gk.contains (D.kind q)=true)
  (hz:D.hm t i=some z) (htd:t∉dk) {cs:List (AL D.τ)} (hc:D.c st t=some cs) (hi:i<cs.length)
  {j1 j2:Nat} (hj:j1≠j2) {ob1 ob2:LObj D.τ} (h1:L[j1]?=some ob1) (h2:L[j2]?=some ob2) {o1 o2:LO D.τ} (ho1:ob1.o=some o1) (ho2:ob2.o=some o2)
  (m1:D.M.ty y=ob1.ty∧D.M.sz y=ob1.sz∧D.M.fix y=ob1.fix) (m2:D.M.ty z=ob2.ty∧D.M.sz z=ob2.sz∧D.M.fix z=ob2.fix)
  (hy:D.isro y=false∧D.exk y=false∧D.M.fix y=true) (hq:∀q∈qs,D.M.fix q=false∧D.isro q=false∧D.exk q=false∧0<D.M.sz q)
  (hyz:y≠z) (hyt:y≠t) (hzq:z∉qs) (htq:t∉qs) (hyq:y∉qs) (hyn:D.c st y=none) (hqn:∀q∈qs,D.c st q=none)
  {n:Nat} {ys zs:List (AL D.τ)} (hst:∀u,D.c st' u=if u=y then some ys else if u=z then some zs else if u∈qs then some [] else if u=t then some (cs.set i (.sl (.m z) 0 (D.M.sz z) n)) else D.c st u)
  (hys:∀S':Sto (Tg D.τ),(∀q∈qs,S'.loc (.m q)=SL.none)→ys.map (encL S')=o1.flat.map (encL S))
  (hzs:∀S':Sto (Tg D.τ),S'.loc (.m y)=S.loc (.loc j1)→(∀u,u≠y→u≠z→u∉qs→S'.loc (.m u)=S.loc (.m u))→zs.map (encL S')=o2.flat.map (encL S))
  (hnoy:∀u cs',D.c st u=some cs'→∀k s f,AL.p (.m y) k s f∉cs') (hhy:∀u q i,q∈qs→D.hm u i=some q→u=y)
  (hro:D.ro st'=D.ro st) (hex:∀S w,D.ex st S w→D.ex st' S w) (hdk:∀u,u≠z→(u∈dk'↔u∈dk)) (hzd:z∉dk')
  {q0:Tg D.τ→Bool} (hq0:∀u,q0 u=false→u≠.m y∧u≠.m z∧∀q∈qs,u≠.m q) (hfree:∀j ob,j≠j1→j≠j2→L[j]?=some ob→ob.has q0=false):
  ∃S',Rel B st' ((L.set j1 {ob1 with o:=none}).set j2 {ob2 with o:=none}) dk' S' (w.setCell ⟨(S.loc (.m t)).b,(S.loc (.m t)).off+i,none⟩ (encL S (.sl (.loc j2) 0 ob2.sz n)))∧w.cell? ⟨(S.loc (.m t)).b,(S.loc (.m t)).off+i,none⟩=some (encL S cs[i])∧
   w.frozen? ⟨(S.loc (.m t)).b,(S.loc (.m t)).off+i,none⟩=false∧∀u,q0 u=false→S'.loc u=S.loc u:=by
 obtain⟨kft,kfz,kroz,kexz,kne,kpos,ksz⟩:=O.hmk _ _ _ hz;have l1:=(List.getElem?_eq_some_iff.1 h1).1;have l2:=(List.getElem?_eq_some_iff.1 h2).1
 have c1:contA st dk L (.loc j1)=some o1.flat:=by simp[contA,h1,ho1]
 have c2:contA st dk L (.loc j2)=some o2.flat:=by simp[contA,h2,ho2]
 have ct:contA st dk L (.m t)=some cs:=by simp[contA,htd,hc]
 have a1:(metaA D L).ty (.loc j1)=ob1.ty∧(metaA D L).sz (.loc j1)=ob1.sz∧(metaA D L).fix (.loc j1)=ob1.fix:=by simp[metaA,h1]
 have a2:(metaA D L).ty (.loc j2)=ob2.ty∧(metaA D L).sz (.loc j2)=ob2.sz∧(metaA D L).fix (.loc j2)=ob2.fix:=by simp[metaA,h2]
 have n12:(Tg.loc j2:Tg D.τ)≠.loc j1:=fun e=>hj (by injection e with e;exact e.symm)
 have H1:=R.H.ren (x:=.loc j1) (y:=.m y) (cs:=o1.flat.map (encL S)) (by simp[encC,c1]) (fun e=>by cases e) ⟨by rw[a1.1];exact m1.1,by rw[a1.2.1];exact m1.2.1,by rw[a1.2.2];exact m1.2.2⟩
 let S1:=S.ren (.loc j1) (.m y) (S.loc (.loc j1))
 have H2:=H1.ren (x:=.loc j2) (y:=.m z) (cs:=o2.flat.map (encL S)) (by simp[renC,encC,c2,n12]) (fun e=>by cases e) ⟨by rw[a2.1];exact m2.1,by rw[a2.2.1];exact m2.2.1,by rw[a2.2.2];exact m2.2.2⟩
 let S2:=S1.ren (.loc j2) (.m z) (S1.loc (.loc j2))
 have H3:=H2.nils (qs.map .m) (fun q hqm=>by obtain⟨q',hqm',rfl⟩:=List.mem_map.1 hqm;exact⟨(hq q' hqm').2.2.2,(hq q' hqm').1⟩)
 let S3:=S2.nils (qs.map .m)
 have inq:∀u:D.τ,(Tg.m u:Tg D.τ)∈qs.map .m↔u∈qs:=fun u=>by simp
 have notl:∀j:Nat,(Tg.loc j:Tg D.τ)∉qs.map .m:=fun j h=>by simp at h
 have s1:S1.loc (.loc j2)=S.loc (.loc j2):=Sto.ren_loc_ne _ _ _ (fun e=>by cases e)
 have ly:S3.loc (.m y)=S.loc (.loc j1):=by
  show (S2.nils _).loc _=_
  simp only[Sto.nils,inq,hyq,if_false]
  show (S1.ren _ _ _).loc _=_
  rw[Sto.ren_loc_ne _ _ _ (fun e=>hyz (by injection e))];exact Sto.ren_loc _ _ _ _
 have lz:S3.loc (.m z)=S.loc (.loc j2):=by
  show (S2.nils _).loc _=_
  simp only[Sto.nils,inq,hzq,if_false]
  show (S1.ren _ _ _).loc _=_
  rw[Sto.ren_loc,s1]
 have lq:∀q∈qs,S3.loc (.m q)=SL.none:=fun q hqm=>by
  show (S2.nils _).loc _=_
  simp only[Sto.nils,inq,hqm,if_true]
 have lo:∀u,u≠.m y→u≠.m z→(∀q∈qs,u≠.m q)→S3.loc u=S.loc u:=fun u e1 e2 e3=>by
  show (S2.nils _).loc _=_
  have:u∉qs.map .m:=fun h=>by obtain⟨q,hqm,e⟩:=List.mem_map.1 h;exact e3 q hqm e.symm
  simp only[Sto.nils,this,if_false]
  show (S1.ren _ _ _).loc _=_
  rw[Sto.ren_loc_ne _ _ _ e2];exact Sto.ren_loc_ne _ _ _ e1
 have lom:∀u,u≠y→u≠z→u∉qs→S3.loc (.m u)=S.loc (.m u):=fun u e1 e2 e3=>lo _ (fun e=>e1 (by injection e)) (fun e=>e2 (by injection e)) fun q hqm e=>e3 (by injection e with e;rw[e];exact hqm)
 have lt:S3.loc (.m t)=S.loc (.m t):=lom t (Ne.symm hyt) (Ne.symm kne) htq
 have hct3:nilC (renC (renC (encC S (contA st dk L)) (.loc j1) (.m y) (o1.flat.map (encL S))) (.loc j2) (.m z) (o2.flat.map (encL S))) (qs.map .m) (.m t)=some (cs.map (encL S)):=by
  have e1:(Tg.m t:Tg D.τ)≠.m z:=fun e=>kne (by injection e with e;exact e.symm)
  have e2:(Tg.m t:Tg D.τ)≠.m y:=fun e=>hyt (by injection e with e;exact e.symm)
  simp[nilC,htq,renC,e1,e2,encC,ct]
 have H4:=H3.store (w:=w) hct3 (j:=i) (by simpa using hi) (encL S (.sl (.loc j2) 0 ob2.sz n));have ev:Evn S w S3 w:=((Evn.ren S _ _ _ w).trans (Evn.ren S1 _ _ _ w)).trans (Evn.nils S2 w _);have k4:=Kp.store H3 hct3 (j:=i) (by simpa using hi) (encL S (.sl (.loc j2) 0 ob2.sz n)) ((S3.loc (.m t)).off+i);rw[show ((S.ren (.loc j1) (.m y) (S.loc (.loc j1))).ren (.loc j2) (.m z) ((S.ren (.loc j1) (.m y) (S.loc (.loc j1))).loc (.loc j2))).nils (qs.map .m)=S3 from rfl,lt] at H4 k4;have evk:=ev.trans k4;have frs1:Fresh S1 w:=Fresh.ren R.fresh _ _ _;have frs2:Fresh S2 w:=Fresh.ren frs1 _ _ _;have frs:Fresh S3 w:=frs2
 have mta':metaA D ((L.set j1 {ob1 with o:=none}).set j2 {ob2 with o:=none})=metaA D L:=by
  have e2':(L.set j1 {ob1 with o:=none})[j2]?=some ob2:=by rw[List.getElem?_set_ne hj];exact h2
  rw[meta_set (L:=L.set j1 {ob1 with o:=none}) e2' none,meta_set h1 none]
 -- what old contents speak of stays
 have old:∀u cs' j a,D.c st u=some cs'→cs'[j]?=some a→¬(u=t∧j=i)→encL S3 a=encL S a:=fun u cs' j a hcu hj' hut=>by
  have ha:=List.mem_of_getElem? hj';have hcell:=O.cell _ _ _ hcu a ha
  cases a with
  |v x=>rfl
  |p tg k s f=>
   cases tg with
   |loc j=>exact hcell.elim
   |m v=>
    have hf:D.M.fix v=true:=hcell
    have e1:v≠y:=fun e=>hnoy u cs' hcu k s f (e ▸ ha)
    have e2:v≠z:=fun e=>by rw[e,kfz] at hf;cases hf
    have e3:v∉qs:=fun h=>by rw[(hq v h).1] at hf;cases hf
    simp only[encL,lom v e1 e2 e3]
  |sl tg k s m=>
   cases tg with
   |loc j=>exact hcell.elim
   |m v=>
    have e2:v≠z:=fun e=>by
     subst e;exact hut (O.inj _ _ _ _ _ (O.home _ _ _ _ _ _ _ _ hcu hj' kroz) hz)
    have e3:v∉qs:=fun h=>by
     have:=hhy _ _ _ h (O.home _ _ _ _ _ _ _ _ hcu hj' (hq v h).2.1);subst this
     rw[hyn] at hcu;cases hcu
    have e1:v≠y:=fun e=>by
     subst e;have:=(O.hmk _ _ _ (O.home _ _ _ _ _ _ _ _ hcu hj' hy.1)).2.1;rw[hy.2.2] at this
     cases this
    simp only[encL,lom v e1 e2 e3]
 have stable:∀v,(D.M.fix v=true∧(D.c B.st v).isSome=true)∨D.isro v=true∨D.exk v=true→S3.loc (.m v)=S.loc (.m v):=fun v hv=>by
  refine lom v (fun e=>?_) (fun e=>?_) fun h=>?_
  ·subst e
   rcases hv with hv|hv|hv
   ·have:=R.mono _ hv.1 hv.2
    rw[hyn] at this
    cases this
   ·rw[hy.1] at hv;cases hv
   ·rw[hy.2.1] at hv;cases hv
  ·subst e
   rcases hv with hv|hv|hv
   ·rw[kfz] at hv;cases hv.1
   ·rw[kroz] at hv;cases hv
   ·rw[kexz] at hv;cases hv
  ·rcases hv with hv|hv|hv
   ·rw[(hq v h).1] at hv;cases hv.1
   ·rw[(hq v h).2.1] at hv;cases hv
   ·rw[(hq v h).2.2.1] at hv;cases hv
 refine⟨S3,⟨?_,fun b hb=>frs b (by simpa using hb),R.kp.trans evk.toKp,fun u cs' hu=>?_,hex _ _ (O.ex _ _ _ _ _ R.ex evk fun v hv=>stable v (.inr (.inr hv))),fun v hv=>?_,fun v e1 e2=>?_,hro.trans R.rob,fun v e1 e2=>?_⟩,?_,?_,fun u hu=>?_⟩
 ·rw[mta']
  refine H4.congr fun u cs' hu=>?_
  unfold encC at hu
  cases hcu:contA st' dk' ((L.set j1 {ob1 with o:=none}).set j2 {ob2 with o:=none}) u with
  |none=>rw[hcu] at hu;cases hu
  |some xs=>
   rw[hcu] at hu;simp only[Option.map_some,Option.some.injEq] at hu;subst hu
   cases u with
   |loc j=>
    have e2:j2≠j:=fun e=>by subst e;simp[contA,l2] at hcu
    have e1:j1≠j:=fun e=>by
     subst e;simp only[contA,List.getElem?_set_ne e2,List.getElem?_set_self l1,Option.map_none] at hcu
     cases hcu
    simp only[contA,List.getElem?_set_ne e2,List.getElem?_set_ne e1] at hcu
    have e3:(Tg.loc j:Tg D.τ)≠.m t:=fun e=>by cases e
    have e4:(Tg.loc j:Tg D.τ)≠.m z:=fun e=>by cases e
    have e5:(Tg.loc j:Tg D.τ)≠.m y:=fun e=>by cases e
    have e6:(Tg.loc j:Tg D.τ)≠.loc j2:=fun e=>e2 (by injection e with e;exact e.symm)
    have e7:(Tg.loc j:Tg D.τ)≠.loc j1:=fun e=>e1 (by injection e with e;exact e.symm)
    rw[upd_other _ _ e3];simp only[nilC,notl,if_false,renC,e4,e5,e6,e7,encC,contA]
    cases hLj:L[j]? with
    |none=>simp[hLj] at hcu
    |some ob=>
     simp only[hLj] at hcu;obtain⟨o,ho,rfl⟩:=Option.map_eq_some_iff.1 hcu;simp only[ho,Option.map_some,Option.some.injEq];exact (flat_enc (fun u hu=>lo u (hq0 u hu).1 (hq0 u hu).2.1 (hq0 u hu).2.2) (hfree j ob (Ne.symm e1) (Ne.symm e2) hLj) ho).symm
   |m u=>
    by_cases hud:u∈dk'
    ·simp[contA,hud] at hcu
    ·simp only[contA,hud,if_false] at hcu
     rw[hst] at hcu
     by_cases huy:u=y
     ·subst huy
      simp only[if_true,Option.some.injEq] at hcu;subst hcu
      have e1:(Tg.m u:Tg D.τ)≠.m t:=fun e=>hyt (by injection e)
      have e2:(Tg.m u:Tg D.τ)≠.m z:=fun e=>hyz (by injection e)
      rw[upd_other _ _ e1]
      have e3:(Tg.m u:Tg D.τ)≠.loc j2:=fun e=>by cases e
      simp only[nilC,inq,hyq,if_false,renC,e2,e3,if_true,Option.some.injEq];exact (hys _ lq).symm
     ·rw[if_neg huy] at hcu
      by_cases huz:u=z
      ·subst huz
       simp only[if_true,Option.some.injEq] at hcu;subst hcu
       have e1:(Tg.m u:Tg D.τ)≠.m t:=fun e=>kne (by injection e)
       rw[upd_other _ _ e1];simp only[nilC,inq,hzq,if_false,renC,if_true,Option.some.injEq];exact (hzs _ ly lom).symm
      ·rw[if_neg huz] at hcu
       by_cases huq:u∈qs
       ·simp only[huq,if_true,Option.some.injEq] at hcu
        subst hcu
        have e1:(Tg.m u:Tg D.τ)≠.m t:=fun e=>htq (by injection e with e;rw[←e];exact huq)
        rw[upd_other _ _ e1];simp[nilC,huq]
       ·rw[if_neg huq] at hcu
        by_cases hut:u=t
        ·subst hut
         simp only[if_true,Option.some.injEq] at hcu;subst hcu;rw[upd_same,List.map_set]
         congr 1
         have en:encL S3 (.sl (.m z) 0 (D.M.sz z) n)=encL S (.sl (.loc j2) 0 ob2.sz n):=by
          simp only[encL,later_zero,lz]
         rw[en]
         apply List.ext_getElem?
         intro j
         by_cases hij:i=j
         ·subst hij
          simp[hi]
         ·rw[List.getElem?_set_ne hij,List.getElem?_set_ne hij]
          simp only[List.getElem?_map]
          cases hcj:cs[j]? with
          |none=>rfl
          |some a=>
           simp only[Option.map_some,Option.some.injEq];exact (old _ _ j a hc hcj fun h=>hij h.2.symm).symm
        ·rw[if_neg hut] at hcu
         have e1:(Tg.m u:Tg D.τ)≠.m t:=fun e=>hut (by injection e)
         have e2:(Tg.m u:Tg D.τ)≠.m z:=fun e=>huz (by injection e)
         have e3:(Tg.m u:Tg D.τ)≠.m y:=fun e=>huy (by injection e)
         have hud2:u∉dk:=fun h=>hud ((hdk u huz).2 h)
         have e4:(Tg.m u:Tg D.τ)≠.loc j1:=fun e=>by cases e
         have e5:(Tg.m u:Tg D.τ)≠.loc j2:=fun e=>by cases e
         rw[upd_other _ _ e1];simp only[nilC,inq,huq,if_false,renC,e2,e3,e4,e5,encC,contA,hud2,hcu,Option.map_some,Option.some.injEq]
         refine List.map_congr_left fun a ha=>?_
         obtain⟨j,hj'⟩:=List.getElem?_of_mem ha;exact (old _ _ j a hcu hj' fun h=>hut h.1).symm
 ·rw[hro] at hu
  refine (R.ro u cs' hu).kp evk.toKp (stable u (.inr (.inl (O.rois _ _ _ hu)))) fun a ha=>?_
  have:=O.rocell _ _ _ hu a ha
  cases a with
  |v x=>rfl
  |p t k sz f=>cases t<;>exact absurd this (by simp[rcell])
  |sl t k sz n=>
   cases t with
   |m z=>simp only[encL,stable z (.inr (.inl this))]
   |loc j=>exact absurd this (by simp[rcell])
 ·rw[stable v (hv.imp id .inl),R.stab v hv]
 ·have:=R.mono v e1 e2
  rw[hst]
  split
  ·rfl
  ·split
   ·rfl
   ·split
    ·rfl
    ·split
     ·rfl
     ·exact this
 ·rw[←R.turn v e1 e2]
  refine lom v (fun e=>?_) (fun e=>?_) fun h=>?_
  ·subst e
   have:=e2 hgy;have h3:=R.mono _ this.1 this.2;rw[hyn] at h3
   cases h3
  ·subst e
   rw[hpk] at e1
   cases e1
  ·have:=(e2 (hgq v h)).1
   rw[(hq v h).1] at this
   cases this
 ·exact R.cell ct (by simp[hi])
 ·have Ht:=H3 _ _ hct3
  have:=Ht.frozen (Ht.notNil (j:=i) (by simpa using hi)) ((S.loc (.m t)).off+i) rfl;have e:((S.ren (.loc j1) (.m y) (S.loc (.loc j1))).ren (.loc j2) (.m z) ((S.ren (.loc j1) (.m y) (S.loc (.loc j1))).loc (.loc j2))).nils (qs.map .m)=S3:=rfl;rw[e,lt] at this;exact this
 ·exact lo u (hq0 u hu).1 (hq0 u hu).2.1 (hq0 u hu).2.2
end
end Go.Beat
end
section
namespace Go.Beat
open Go _root_.Beat
def findP (ty:Nat):List (LObj TI)→Nat→Option (Nat×List (AL TI))
 |[],_=>none
 |ob::r,j=>bif Nat.beq ob.ty ty&&Nat.beq ob.sz 1&&ob.fix then (match ob.o with|some (.cells zs)=>some (j,zs)|_=>findP ty r (j+1)) else findP ty r (j+1)
theorem findP_ok {ty:Nat}:∀{L:List (LObj TI)} {i j:Nat} {zs:List (AL TI)},findP ty L i=some (j,zs)→∃ob,i≤j∧L[j - i]?=some ob∧ob.ty=ty∧ob.sz=1∧ob.fix=true∧ob.o=some (.cells zs)
 |[],_,_,_,h=>by cases h
 |ob::r,i,j,zs,h=>by
  have next:findP ty r (i+1)=some (j,zs)→∃ob',i≤j∧(ob::r)[j - i]?=some ob'∧ob'.ty=ty∧ob'.sz=1∧ob'.fix=true∧ob'.o=some (.cells zs):=fun h=>by
   obtain⟨ob',h1,h2,h3⟩:=findP_ok h;exact⟨ob',by omega,by rw[show j - i=(j - (i+1))+1 from by omega];simpa using h2,h3⟩
  unfold findP at h
  cases hb:(Nat.beq ob.ty ty&&Nat.beq ob.sz 1&&ob.fix) with
  |false=>rw[hb] at h;exact next h
  |true=>
   rw[hb] at h;simp only[cond_true] at h;simp only[Bool.and_eq_true,Nat.beq_eq] at hb
   split at h
   ·rename_i zs' ho
    simp only[Option.some.injEq,Prod.mk.injEq] at h;obtain⟨rfl,rfl⟩:=h;exact⟨ob,Nat.le_refl _,by simp,hb.1.1,hb.1.2,hb.2,ho⟩
   ·exact next h
def newTask:List (AL TI)→Option Int
 |[.v (.int .i64 b),.v (.int .i64 0),.v (.slice none 0 0),.v (.int .i64 0),.v (.int .i64 0),.v (.int .i64 0),.v (.int .i64 0),.v (.int .i64 0),.v (.int .i64 0),.v (.int .i64 0),.v (.int .i64 0),.v (.int .i64 (-1)),.v (.int .i64 0),.v (.int .i64 0),.v (.slice none 0 0),.v (.int .i64 0),.v (.int .i64 0)]=>some b
 |_=>none
def newChan:List (AL TI)→Option Int
 |[.v (.int .i64 r),.v (.bool false),.v (.slice none 0 0),.v (.slice none 0 0),.v (.slice none 0 0)]=>some r
 |_=>none
def kindsT (ks:List Nat):Tg TI→Bool
 |.m u=>ks.contains u.num
 |.loc _=>false
def dead2 (L:List (LObj TI))(j1 j2:Nat):List (LObj TI):=match L[j1]?,L[j2]? with
 |some a,some b=>(L.set j1 {a with o:=none}).set j2 {b with o:=none}
 |_,_=>L
def freeB (q:Tg TI→Bool)(j1 j2:Nat):List (LObj TI)→Nat→Bool
 |[],_=>true
 |ob::r,j=>(Nat.beq j j1||Nat.beq j j2||!(ob.has q))&&freeB q j1 j2 r (j+1)
theorem freeB_ok {q:Tg TI→Bool}{j1 j2:Nat}:∀{L:List (LObj TI)} {i:Nat},freeB q j1 j2 L i=true→∀j ob,i+j≠j1→i+j≠j2→L[j]?=some ob→ob.has q=false
 |[],_,_,_,_,_,_,h=>by simp at h
 |ob::r,i,h,j,ob',h1,h2,h3=>by
  simp only[freeB,Bool.and_eq_true,Bool.or_eq_true,Bool.not_eq_true',Nat.beq_eq] at h
  match j,h3 with
  |0,h3=>
   simp at h3
   subst h3
   rcases h.1 with (h4|h4)|h4
   ·omega
   ·omega
   ·exact h4
  |j+1,h3=>
   simp at h3
   exact freeB_ok h.2 j ob' (by omega) (by omega) h3
open Classical in
noncomputable def takeT (G:GI) (T:TabA) {X:Type} (s:AS (mdI G)) (j2 n:Nat) (κ:TV TI→AS (mdI G)→Option X):Option X:=
 match findP G.Y.task s.L 0 with
 |none=>none
 |some (j1,zs)=>match newTask zs with
  |none=>none
  |some b=>match s.L[j2]? with
   |none=>none
   |some ob=>match ob.o with
    |some (.cells xs)=>bif T.pk.contains 3&&T.gk.contains 6&&T.gk.contains 7&&T.gk.contains 8&&!(Nat.beq j1 j2)&&Nat.beq ob.ty G.Y.taskP&&Nat.beq ob.sz 1&&!ob.fix&&freeB (kindsT [3,6,7,8]) j1 j2 s.L 0&&s.alive .mach then
      (if xs=ptrsL TI.task (IM.tasks s.st).length++[.p (.loc j1) 0 1 0]∧n=(IM.tasks s.st).length+1 then undead (mdI G) .tasks s.dk fun dk'=>
       κ .x {fr:=purge (kindsT [3,6,7,8]) s.fr,st:=IM.wTasks s.st (IM.tasks s.st++[{body:=b}]),L:=dead2 s.L j1 j2,dk:=dk'} else none)
     else none
    |_=>none
open Classical in
noncomputable def takeC (G:GI) (T:TabA) {X:Type} (s:AS (mdI G)) (j2 n:Nat) (κ:TV TI→AS (mdI G)→Option X):Option X:=
 match findP G.Y.chan s.L 0 with
 |none=>none
 |some (j1,zs)=>match newChan zs with
  |none=>none
  |some b=>match s.L[j2]? with
   |none=>none
   |some ob=>match ob.o with
    |some (.cells xs)=>bif T.pk.contains 5&&T.gk.contains 9&&T.gk.contains 10&&T.gk.contains 11&&T.gk.contains 12&&!(Nat.beq j1 j2)&&Nat.beq ob.ty G.Y.chanP&&Nat.beq ob.sz 1&&!ob.fix&&freeB (kindsT [5,9,10,11,12]) j1 j2 s.L 0&&s.alive .mach then
      (if xs=ptrsL TI.chan (IM.chans s.st).length++[.p (.loc j1) 0 1 0]∧n=(IM.chans s.st).length+1 then undead (mdI G) .chans s.dk fun dk'=>
       κ .x {fr:=purge (kindsT [5,9,10,11,12]) s.fr,st:=IM.wChansL s.st (IM.chans s.st++[{room:=b}]),L:=dead2 s.L j1 j2,dk:=dk'} else none)
     else none
    |_=>none
noncomputable def opJ (G : GI) : OpH (mdI G) :=
  { op := fun T s o κ => match o.op with
      | .store t x y => (match evA s.fr x, evA s.fr y with
        | some (.l (.p (.m .mach) k sz f)), some (.l (.sl (.loc j2) k2 sz2 n)) => bif Nat.beq k 0 && Nat.beq sz 1 && Nat.beq k2 0 && Nat.beq sz2 1 && T.sca.contains t then
            (bif Nat.beq f 11 then takeT G T s j2 n κ else bif Nat.beq f 13 then takeC G T s j2 n κ else none)
          else none
        | _, _ => none)
      | _ => (opI G).op T s o κ
    mst := fun tg f => match tg with | .m .mach => Nat.beq f 11 || Nat.beq f 13 | _ => false }

theorem newTask_some {zs:List (AL TI)}{b:Int}(h:newTask zs=some b):zs=[.v (i64 b),.v (i64 0),.v (.slice none 0 0),.v (i64 0),.v (i64 0),.v (i64 0),.v (i64 0),.v (i64 0),.v (i64 0),.v (i64 0),.v (i64 0),.v (i64 (-1)),.v (i64 0),.v (i64 0),.v (.slice none 0 0),.v (i64 0),.v (i64 0)]:=by
 unfold newTask at h
 split at h
 ·simp only[Option.some.injEq] at h
  subst h;rfl
 ·cases h
theorem newChan_some {zs:List (AL TI)}{b:Int}(h:newChan zs=some b):zs=[.v (i64 b),.v (.bool false),.v (.slice none 0 0),.v (.slice none 0 0),.v (.slice none 0 0)]:=by
 unfold newChan at h
 split at h
 ·simp only[Option.some.injEq] at h
  subst h;rfl
 ·cases h
theorem ptrs_succ (f:Nat→TI)(n:Nat):ptrsL f (n+1)=ptrsL f n++[.p (.m (f n)) 0 1 0]:=by simp[ptrsL,List.range_succ]
theorem ptrs_mem {f:Nat→TI}{n:Nat}{a:AL TI}(h:a∈ptrsL f n):∃k,k<n∧a=.p (.m (f k)) 0 1 0:=by
 simp only[ptrsL,List.mem_map,List.mem_range] at h;obtain⟨k,hk,rfl⟩:=h;exact⟨k,hk,rfl⟩
theorem get_push {α:Type}(xs:List α)(x:α)(k:Nat):(xs++[x])[k]?=if k=xs.length then some x else xs[k]?:=by
 by_cases h:k<xs.length
 ·rw[List.getElem?_append_left h,if_neg (by omega)]
 ·by_cases h2:k=xs.length
  ·subst h2;simp
  ·rw[if_neg h2,List.getElem?_eq_none (by simp;omega),List.getElem?_eq_none (by omega)]
theorem cI_ptr {G:GI}{m:IM}{t z:TI}{cs:List (AL TI)}{k s f:Nat}(h:cI G m t=some cs)(ha:AL.p (.m z) k s f∈cs):(∃i,i<m.tasks.length∧z=.task i)∨(∃c,c<m.chans.length∧z=.chan c)∨z=.mach:=by
 cases t<;>simp only[cI] at h
 case tasks=>simp only[Option.some.injEq] at h;subst h;obtain⟨i,hi,e⟩:=ptrs_mem ha;injection e with e;injection e with e;exact .inl ⟨i,hi,e⟩
 case chans=>simp only[Option.some.injEq] at h;subst h;obtain⟨i,hi,e⟩:=ptrs_mem ha;injection e with e;injection e with e;exact .inr (.inl ⟨i,hi,e⟩)
 case cell=>simp only[Option.some.injEq] at h;subst h;simp only[List.mem_cons,List.not_mem_nil,or_false] at ha;injection ha with e;injection e with e;exact .inr (.inr e)
 all_goals exfalso
 all_goals first
 |(cases h;done)
 |(simp only[Option.some.injEq] at h;subst h;simp[machCells,LO.flat,natsL,rowCells] at ha;done)
 |(obtain⟨x,_,rfl⟩:=Option.map_eq_some_iff.1 h;simp[taskCells,chanCells,LO.flat,natsL,rowCells] at ha;done)
section
variable {P:Program} {G:GI} {X:Type} {B:Base (mdI G)} {s:AS (mdI G)} {T:TabA} {n:Nat} {ds:List Deferred} {S:Sto (Tg TI)} {w:World} {a:Act}
theorem dead2_eq {L:List (LObj TI)}{j1 j2:Nat}{a b:LObj TI}(h1:L[j1]?=some a)(h2:L[j2]?=some b):dead2 L j1 j2=(L.set j1 {a with o:=none}).set j2 {b with o:=none}:=by
 unfold dead2;rw[h1,h2]
theorem tasks_new (G:GI)(m:IM)(x:ITask)(hb:x.blocks=[])(hc:x.chans=[])(u:TI):cI G (m.wTasks (m.tasks++[x])) u=
  if u=.task m.tasks.length then some (taskCells m.tasks.length x) else if u=.tasks then some (ptrsL .task (m.tasks.length+1)) else if u∈[TI.tblocks m.tasks.length,TI.tchans m.tasks.length] then some []
  else if u=.mach then some ((machCells G m).set 11 (.sl (.m .tasks) 0 1 (m.tasks.length+1))) else cI G m u:=by
 cases u<;>simp only[cI,IM.wTasks,machCells,List.length_append,List.length_singleton,get_push,reduceCtorEq,TI.task.injEq,TI.tblocks.injEq,TI.tchans.injEq,List.mem_cons,List.not_mem_nil,or_false,false_or,if_true,if_false]
 case mach=>rfl
 all_goals (split<;>simp_all [hb,hc,LO.flat,natsL])
theorem chans_new (G:GI)(m:IM)(x:IChan)(hb:x.nums=[])(hc:x.senders=[])(hd:x.takers=[])(u:TI):cI G (m.wChansL (m.chans++[x])) u=
  if u=.chan m.chans.length then some (chanCells m.chans.length x) else if u=.chans then some (ptrsL .chan (m.chans.length+1)) else if u∈[TI.nums m.chans.length,TI.senders m.chans.length,TI.takers m.chans.length] then some []
  else if u=.mach then some ((machCells G m).set 13 (.sl (.m .chans) 0 1 (m.chans.length+1))) else cI G m u:=by
 cases u<;>simp only[cI,IM.wChansL,machCells,List.length_append,List.length_singleton,get_push,reduceCtorEq,TI.chan.injEq,TI.nums.injEq,TI.senders.injEq,TI.takers.injEq,List.mem_cons,List.not_mem_nil,or_false,false_or,if_true,if_false]
 case mach=>rfl
 all_goals (split<;>simp_all [hb,hc,hd,LO.flat,natsL])
theorem task_enc {n:Nat}{b:Int}(S S':Sto (Tg TI))(h:∀q:TI,q∈[TI.tblocks n,TI.tchans n]→S'.loc (.m q)=SL.none):(taskCells n {body:=b}).map (encL S')=
  (LO.cells [.v (i64 b),.v (i64 0),.v (.slice none 0 0),.v (i64 0),.v (i64 0),.v (i64 0),.v (i64 0),.v (i64 0),.v (i64 0),.v (i64 0),.v (i64 0),.v (i64 (-1)),.v (i64 0),.v (i64 0),.v (.slice none 0 0),.v (i64 0),.v (i64 0)]:LO TI).flat.map (encL S):=by
 simp only[List.mem_cons,List.not_mem_nil,or_false,forall_eq_or_imp,forall_eq] at h;simp[taskCells,LO.flat,encL,later_zero,h,SL.val,SL.none,SL.addr]
theorem chan_enc {n:Nat}{b:Int}(S S':Sto (Tg TI))(h:∀q:TI,q∈[TI.nums n,TI.senders n,TI.takers n]→S'.loc (.m q)=SL.none):(chanCells n {room:=b}).map (encL S')=
  (LO.cells [.v (i64 b),.v (.bool false),.v (.slice none 0 0),.v (.slice none 0 0),.v (.slice none 0 0)]:LO TI).flat.map (encL S):=by
 simp only[List.mem_cons,List.not_mem_nil,or_false,forall_eq_or_imp,forall_eq] at h;simp[chanCells,LO.flat,encL,later_zero,h,SL.val,SL.none,SL.addr]
theorem ptrs_enc {f:Nat→TI}{n j:Nat}(S S':Sto (Tg TI))(hy:S'.loc (.m (f n))=S.loc (.loc j))(h:∀k,k<n→S'.loc (.m (f k))=S.loc (.m (f k))):(ptrsL f (n+1)).map (encL S')=(LO.cells (ptrsL f n++[.p (.loc j) 0 1 0])).flat.map (encL S):=by
 rw[ptrs_succ];simp only[LO.flat,List.map_append,List.map_cons,List.map_nil,encL,hy]
 congr 1
 refine List.map_congr_left fun c hcm=>?_
 obtain⟨k,hk,rfl⟩:=ptrs_mem hcm;simp only[encL,h k hk]
open Classical in
theorem adoptT {m:IM} {L:List (LObj TI)} {dk dk':List TI} {j1 j2:Nat} {zs xs:List (AL TI)} {b:Int} {ob1 ob2:LObj TI} (R:Rel (D:=mdI G) B m L dk S w) (hpk:B.pk.contains (TI.num TI.tasks)=true) (hgk:∀q∈TI.task 0::[TI.tblocks 0,TI.tchans 0],B.gk.contains (TI.num q)=true)
  (hmd:TI.mach∉dk) (hne:j1≠j2) (h1:L[j1]?=some ob1) (h2:L[j2]?=some ob2) (ho1:ob1.o=some (.cells zs)) (ho2:ob2.o=some (.cells xs)) (t1:ob1.ty=G.Y.task∧ob1.sz=1∧ob1.fix=true) (t2:ob2.ty=G.Y.taskP∧ob2.sz=1∧ob2.fix=false)
  (hb:newTask zs=some b) (hx:xs=ptrsL TI.task m.tasks.length++[.p (.loc j1) 0 1 0]) (hdk:∀u,u≠TI.tasks→(u∈dk'↔u∈dk)) (hzd:TI.tasks∉dk') (hfree:freeB (kindsT [3,6,7,8]) j1 j2 L 0=true):
  ∃S',Rel (D:=mdI G) B (m.wTasks (m.tasks++[({body:=b}:ITask)])) ((L.set j1 {ob1 with o:=none}).set j2 {ob2 with o:=none}) dk' S' (w.setCell ⟨(S.loc (.m TI.mach)).b,(S.loc (.m TI.mach)).off+11,none⟩ (encL S (.sl (.loc j2) 0 1 (m.tasks.length+1))))∧(∃v,w.cell? ⟨(S.loc (.m TI.mach)).b,(S.loc (.m TI.mach)).off+11,none⟩=some v)∧
   w.frozen? ⟨(S.loc (.m TI.mach)).b,(S.loc (.m TI.mach)).off+11,none⟩=false∧∀u,kindsT [3,6,7,8] u=false→S'.loc u=S.loc u:=by
 obtain⟨ty2,sz2,fx2,oo2⟩:=ob2;obtain⟨t2,t3,t4⟩:=t2
 dsimp only at t2 t3 t4 ho2
 subst t3;have hz:=newTask_some hb
 have nt:∀{α β:Type} (xs:List α) (f:α→β),xs[xs.length]?.map f=none:=fun xs f=>by simp
 have qm:∀q:TI,q∈[TI.tblocks m.tasks.length,TI.tchans m.tasks.length]→TI.num q∈([TI.tblocks 0,TI.tchans 0]).map TI.num∧(MI G.Y).fix q=false∧(mdI G).isro q=false∧(mdI G).exk q=false∧0<(MI G.Y).sz q∧cI G m q=none∧∀u i,hmI u i=some q→u=TI.task m.tasks.length:=fun q hq=>by
  simp only[List.mem_cons,List.not_mem_nil,or_false] at hq
  rcases hq with rfl|rfl
  all_goals
   refine⟨of_decide_eq_true rfl,rfl,rfl,rfl,of_decide_eq_true rfl,nt _ _,fun u i hm=>?_⟩
   rcases hmI_spec hm with ⟨_,hh⟩|⟨k,rfl,hh⟩|⟨k,rfl,hh⟩<;>simp at hh<;>rw [hh.2]
 have hgq:∀q:TI,q∈[TI.tblocks m.tasks.length,TI.tchans m.tasks.length]→B.gk.contains (TI.num q)=true:=fun q hq=>by
  obtain⟨q',h3,h4⟩:=List.mem_map.1 (qm q hq).1;rw[←h4];exact hgk _ (List.mem_cons_of_mem _ h3)
 have n1:TI.task m.tasks.length≠TI.tasks:=by simp
 have n2:TI.task m.tasks.length≠TI.mach:=by simp
 have n3:TI.tasks∉[TI.tblocks m.tasks.length,TI.tchans m.tasks.length]:=by simp
 have n4:TI.mach∉[TI.tblocks m.tasks.length,TI.tchans m.tasks.length]:=by simp
 have n5:TI.task m.tasks.length∉[TI.tblocks m.tasks.length,TI.tchans m.tasks.length]:=by simp
 have n6:∀k,TI.task k∉[TI.tblocks m.tasks.length,TI.tchans m.tasks.length]:=by simp
 have hk:∀u:Tg TI,kindsT [3,6,7,8] u=false→u≠.m (TI.task m.tasks.length)∧u≠.m TI.tasks∧∀q∈[TI.tblocks m.tasks.length,TI.tchans m.tasks.length],u≠.m q:=fun u hu=>by
  refine⟨fun e=>?_,fun e=>?_,fun q hq e=>?_⟩
  ·subst e;cases hu
  ·subst e;cases hu
  ·subst e
   simp only[List.mem_cons,List.not_mem_nil,or_false] at hq
   rcases hq with rfl|rfl<;>cases hu
 obtain⟨S',hR,hcell,hfz,hl⟩:=Rel.adopt (D:=mdI G) R (mdI_ok G) (t:=TI.mach) (y:=TI.task m.tasks.length) (z:=TI.tasks) (i:=11) (qs:=[TI.tblocks m.tasks.length,TI.tchans m.tasks.length]) (st':=m.wTasks (m.tasks++[({body:=b}:ITask)])) (dk':=dk') (n:=m.tasks.length+1) (ys:=taskCells m.tasks.length {body:=b}) (zs:=ptrsL TI.task (m.tasks.length+1))
  hpk (hgk _ (List.mem_cons_self ..)) hgq
  rfl hmd (cs:=machCells G m) rfl (show 11<19 by decide) hne h1 h2 ho1 ho2 ⟨t1.1.symm,t1.2.1.symm,t1.2.2.symm⟩ ⟨t2.symm,rfl,t4.symm⟩ ⟨rfl,rfl,rfl⟩ (fun q hq=>⟨(qm q hq).2.1,(qm q hq).2.2.1,(qm q hq).2.2.2.1,(qm q hq).2.2.2.2.1⟩)
  n1 n2 n3 n4 n5 (nt _ _) (fun q hq=>(qm q hq).2.2.2.2.2.1)
  (fun u=>by
   refine (tasks_new G m {body:=b} rfl rfl u).trans ?_
   congr)
  (fun S' hq=>by
   have e1:∀q:TI,q∈[TI.tblocks m.tasks.length,TI.tchans m.tasks.length]→S'.loc (.m q)=SL.none:=hq;rw[hz]
   exact task_enc S S' e1)
  (fun S' hy ho'=>by
   rw[hx]
   exact ptrs_enc S S' hy fun k hk=>ho' (TI.task k) (fun e=>by injection e with e;omega) (fun e=>by cases e) (n6 k))
  (fun u cs' hcu k sz f hm=>by
   rcases cI_ptr hcu hm with ⟨i,hi,e⟩|⟨i,hi,e⟩|e
   ·first|(cases e;done)|(injection e with e;omega)
   ·first|(cases e;done)|(injection e with e;omega)
   ·cases e)
  (fun u q i hq hm=>(qm q hq).2.2.2.2.2.2 u i hm)
  rfl (fun S w e=>exI_wait (m:=m) rfl rfl S w e) hdk hzd (q0:=kindsT [3,6,7,8]) hk (fun j ob' e1 e2 e3=>freeB_ok hfree j ob' (by omega) (by omega) e3)
 exact⟨S',hR,⟨_,hcell⟩,hfz,hl⟩
theorem takeT_ok {j2 nn:Nat}{κ:TV TI→AS (mdI G)→Option X}{x:X}(hpk:T.pk=B.pk)(hgk:T.gk=B.gk)(h:takeT G T s j2 nn κ=some x)(hF:FrmA n ds a S s.fr)(R:Rel B s.st s.L s.dk S w):
  ∃s' S',κ .x s'=some x∧FrmA n ds a S' s'.fr∧Rel B s'.st s'.L s'.dk S' (w.setCell ⟨(S.loc (.m TI.mach)).b,(S.loc (.m TI.mach)).off+11,none⟩ (encL S (.sl (.loc j2) 0 1 nn)))∧(∃v,w.cell? ⟨(S.loc (.m TI.mach)).b,(S.loc (.m TI.mach)).off+11,none⟩=some v)∧
   w.frozen? ⟨(S.loc (.m TI.mach)).b,(S.loc (.m TI.mach)).off+11,none⟩=false:=by
 unfold takeT at h
 split at h
 ·cases h
 rename_i j1 zs hfp
 split at h
 ·cases h
 rename_i b hb
 split at h
 ·cases h
 rename_i ob hob
 split at h
 case h_2=>cases h
 rename_i xs ho
 cases hc:(T.pk.contains 3&&T.gk.contains 6&&T.gk.contains 7&&T.gk.contains 8&&!(Nat.beq j1 j2)&&Nat.beq ob.ty G.Y.taskP&&Nat.beq ob.sz 1&&!ob.fix&&freeB (kindsT [3,6,7,8]) j1 j2 s.L 0&&s.alive .mach) with
 |false=>rw[hc] at h;cases h
 |true=>
  rw[hc] at h;simp only[cond_true] at h;simp only[Bool.and_eq_true,Bool.not_eq_true',Nat.beq_eq] at hc;obtain⟨⟨⟨⟨⟨⟨⟨⟨⟨g0,g1⟩,g2⟩,g3⟩,h5⟩,h6⟩,h7⟩,h8⟩,h9⟩,h10⟩:=hc
  split at h
  case isFalse=>cases h
  rename_i hx;obtain⟨hx,rfl⟩:=hx;obtain⟨dk',h1,h2,h3⟩:=undead_ok h;obtain⟨ob1,_,hob1,t1,t2,t3,t4⟩:=findP_ok hfp;simp only[Nat.sub_zero] at hob1
  have hne:j1≠j2:=fun e=>by subst e;simp at h5
  rw[dead2_eq hob1 hob] at h1
  obtain⟨S',hR,hcell,hfz,hl⟩:=adoptT (m:=s.st) R (by rw[←hpk];exact g0) (fun q hq=>by
    rw[←hgk];simp only[List.mem_cons,List.not_mem_nil,or_false] at hq
    rcases hq with rfl|rfl|rfl<;>assumption) (AS.alive_not h10) hne hob1 hob t4 ho ⟨t1,t2,t3⟩ ⟨h6,h7,h8⟩ hb hx h2 h3 h9
  exact⟨_,S',h1,hF.purge hl,hR,hcell,hfz⟩
open Classical in
theorem adoptC {m:IM} {L:List (LObj TI)} {dk dk':List TI} {j1 j2:Nat} {zs xs:List (AL TI)} {b:Int} {ob1 ob2:LObj TI} (R:Rel (D:=mdI G) B m L dk S w) (hpk:B.pk.contains (TI.num TI.chans)=true) (hgk:∀q∈TI.chan 0::[TI.nums 0,TI.senders 0,TI.takers 0],B.gk.contains (TI.num q)=true)
  (hmd:TI.mach∉dk) (hne:j1≠j2) (h1:L[j1]?=some ob1) (h2:L[j2]?=some ob2) (ho1:ob1.o=some (.cells zs)) (ho2:ob2.o=some (.cells xs)) (t1:ob1.ty=G.Y.chan∧ob1.sz=1∧ob1.fix=true) (t2:ob2.ty=G.Y.chanP∧ob2.sz=1∧ob2.fix=false)
  (hb:newChan zs=some b) (hx:xs=ptrsL TI.chan m.chans.length++[.p (.loc j1) 0 1 0]) (hdk:∀u,u≠TI.chans→(u∈dk'↔u∈dk)) (hzd:TI.chans∉dk') (hfree:freeB (kindsT [5,9,10,11,12]) j1 j2 L 0=true):
  ∃S',Rel (D:=mdI G) B (m.wChansL (m.chans++[({room:=b}:IChan)])) ((L.set j1 {ob1 with o:=none}).set j2 {ob2 with o:=none}) dk' S' (w.setCell ⟨(S.loc (.m TI.mach)).b,(S.loc (.m TI.mach)).off+13,none⟩ (encL S (.sl (.loc j2) 0 1 (m.chans.length+1))))∧(∃v,w.cell? ⟨(S.loc (.m TI.mach)).b,(S.loc (.m TI.mach)).off+13,none⟩=some v)∧
   w.frozen? ⟨(S.loc (.m TI.mach)).b,(S.loc (.m TI.mach)).off+13,none⟩=false∧∀u,kindsT [5,9,10,11,12] u=false→S'.loc u=S.loc u:=by
 obtain⟨ty2,sz2,fx2,oo2⟩:=ob2;obtain⟨t2,t3,t4⟩:=t2
 dsimp only at t2 t3 t4 ho2
 subst t3;have hz:=newChan_some hb
 have nt:∀{α β:Type} (xs:List α) (f:α→β),xs[xs.length]?.map f=none:=fun xs f=>by simp
 have qm:∀q:TI,q∈[TI.nums m.chans.length,TI.senders m.chans.length,TI.takers m.chans.length]→TI.num q∈([TI.nums 0,TI.senders 0,TI.takers 0]).map TI.num∧(MI G.Y).fix q=false∧(mdI G).isro q=false∧(mdI G).exk q=false∧0<(MI G.Y).sz q∧cI G m q=none∧∀u i,hmI u i=some q→u=TI.chan m.chans.length:=fun q hq=>by
  simp only[List.mem_cons,List.not_mem_nil,or_false] at hq
  rcases hq with rfl|rfl|rfl
  all_goals
   refine⟨of_decide_eq_true rfl,rfl,rfl,rfl,of_decide_eq_true rfl,nt _ _,fun u i hm=>?_⟩
   rcases hmI_spec hm with ⟨_,hh⟩|⟨k,rfl,hh⟩|⟨k,rfl,hh⟩<;>simp at hh<;>rw [hh.2]
 have hgq:∀q:TI,q∈[TI.nums m.chans.length,TI.senders m.chans.length,TI.takers m.chans.length]→B.gk.contains (TI.num q)=true:=fun q hq=>by
  obtain⟨q',h3,h4⟩:=List.mem_map.1 (qm q hq).1;rw[←h4];exact hgk _ (List.mem_cons_of_mem _ h3)
 have n1:TI.chan m.chans.length≠TI.chans:=by simp
 have n2:TI.chan m.chans.length≠TI.mach:=by simp
 have n3:TI.chans∉[TI.nums m.chans.length,TI.senders m.chans.length,TI.takers m.chans.length]:=by simp
 have n4:TI.mach∉[TI.nums m.chans.length,TI.senders m.chans.length,TI.takers m.chans.length]:=by simp
 have n5:TI.chan m.chans.length∉[TI.nums m.chans.length,TI.senders m.chans.length,TI.takers m.chans.length]:=by simp
 have n6:∀k,TI.chan k∉[TI.nums m.chans.length,TI.senders m.chans.length,TI.takers m.chans.length]:=by simp
 have hk:∀u:Tg TI,kindsT [5,9,10,11,12] u=false→u≠.m (TI.chan m.chans.length)∧u≠.m TI.chans∧∀q∈[TI.nums m.chans.length,TI.senders m.chans.length,TI.takers m.chans.length],u≠.m q:=fun u hu=>by
  refine⟨fun e=>?_,fun e=>?_,fun q hq e=>?_⟩
  ·subst e;cases hu
  ·subst e;cases hu
  ·subst e
   simp only[List.mem_cons,List.not_mem_nil,or_false] at hq
   rcases hq with rfl|rfl|rfl<;>cases hu
 obtain⟨S',hR,hcell,hfz,hl⟩:=Rel.adopt (D:=mdI G) R (mdI_ok G) (t:=TI.mach) (y:=TI.chan m.chans.length) (z:=TI.chans) (i:=13) (qs:=[TI.nums m.chans.length,TI.senders m.chans.length,TI.takers m.chans.length]) (st':=m.wChansL (m.chans++[({room:=b}:IChan)])) (dk':=dk') (n:=m.chans.length+1) (ys:=chanCells m.chans.length {room:=b}) (zs:=ptrsL TI.chan (m.chans.length+1))
  hpk (hgk _ (List.mem_cons_self ..)) hgq
  rfl hmd (cs:=machCells G m) rfl (show 13<19 by decide) hne h1 h2 ho1 ho2 ⟨t1.1.symm,t1.2.1.symm,t1.2.2.symm⟩ ⟨t2.symm,rfl,t4.symm⟩ ⟨rfl,rfl,rfl⟩ (fun q hq=>⟨(qm q hq).2.1,(qm q hq).2.2.1,(qm q hq).2.2.2.1,(qm q hq).2.2.2.2.1⟩)
  n1 n2 n3 n4 n5 (nt _ _) (fun q hq=>(qm q hq).2.2.2.2.2.1)
  (fun u=>by
   refine (chans_new G m {room:=b} rfl rfl rfl u).trans ?_
   congr)
  (fun S' hq=>by
   have e1:∀q:TI,q∈[TI.nums m.chans.length,TI.senders m.chans.length,TI.takers m.chans.length]→S'.loc (.m q)=SL.none:=hq;rw[hz]
   exact chan_enc S S' e1)
  (fun S' hy ho'=>by
   rw[hx]
   exact ptrs_enc S S' hy fun k hk=>ho' (TI.chan k) (fun e=>by injection e with e;omega) (fun e=>by cases e) (n6 k))
  (fun u cs' hcu k sz f hm=>by
   rcases cI_ptr hcu hm with ⟨i,hi,e⟩|⟨i,hi,e⟩|e
   ·first|(cases e;done)|(injection e with e;omega)
   ·first|(cases e;done)|(injection e with e;omega)
   ·cases e)
  (fun u q i hq hm=>(qm q hq).2.2.2.2.2.2 u i hm)
  rfl (fun S w e=>exI_wait (m:=m) rfl rfl S w e) hdk hzd (q0:=kindsT [5,9,10,11,12]) hk (fun j ob' e1 e2 e3=>freeB_ok hfree j ob' (by omega) (by omega) e3)
 exact⟨S',hR,⟨_,hcell⟩,hfz,hl⟩
theorem takeC_ok {j2 nn:Nat}{κ:TV TI→AS (mdI G)→Option X}{x:X}(hpk:T.pk=B.pk)(hgk:T.gk=B.gk)(h:takeC G T s j2 nn κ=some x)(hF:FrmA n ds a S s.fr)(R:Rel B s.st s.L s.dk S w):
  ∃s' S',κ .x s'=some x∧FrmA n ds a S' s'.fr∧Rel B s'.st s'.L s'.dk S' (w.setCell ⟨(S.loc (.m TI.mach)).b,(S.loc (.m TI.mach)).off+13,none⟩ (encL S (.sl (.loc j2) 0 1 nn)))∧(∃v,w.cell? ⟨(S.loc (.m TI.mach)).b,(S.loc (.m TI.mach)).off+13,none⟩=some v)∧
   w.frozen? ⟨(S.loc (.m TI.mach)).b,(S.loc (.m TI.mach)).off+13,none⟩=false:=by
 unfold takeC at h
 split at h
 ·cases h
 rename_i j1 zs hfp
 split at h
 ·cases h
 rename_i b hb
 split at h
 ·cases h
 rename_i ob hob
 split at h
 case h_2=>cases h
 rename_i xs ho
 cases hc:(T.pk.contains 5&&T.gk.contains 9&&T.gk.contains 10&&T.gk.contains 11&&T.gk.contains 12&&!(Nat.beq j1 j2)&&Nat.beq ob.ty G.Y.chanP&&Nat.beq ob.sz 1&&!ob.fix&&freeB (kindsT [5,9,10,11,12]) j1 j2 s.L 0&&s.alive .mach) with
 |false=>rw[hc] at h;cases h
 |true=>
  rw[hc] at h;simp only[cond_true] at h;simp only[Bool.and_eq_true,Bool.not_eq_true',Nat.beq_eq] at hc;obtain⟨⟨⟨⟨⟨⟨⟨⟨⟨⟨g0,g1⟩,g2⟩,g3⟩,g4⟩,h5⟩,h6⟩,h7⟩,h8⟩,h9⟩,h10⟩:=hc
  split at h
  case isFalse=>cases h
  rename_i hx;obtain⟨hx,rfl⟩:=hx;obtain⟨dk',h1,h2,h3⟩:=undead_ok h;obtain⟨ob1,_,hob1,t1,t2,t3,t4⟩:=findP_ok hfp;simp only[Nat.sub_zero] at hob1
  have hne:j1≠j2:=fun e=>by subst e;simp at h5
  rw[dead2_eq hob1 hob] at h1
  obtain⟨S',hR,hcell,hfz,hl⟩:=adoptC (m:=s.st) R (by rw[←hpk];exact g0) (fun q hq=>by
    rw[←hgk];simp only[List.mem_cons,List.not_mem_nil,or_false] at hq
    rcases hq with rfl|rfl|rfl|rfl<;>assumption) (AS.alive_not h10) hne hob1 hob t4 ho ⟨t1,t2,t3⟩ ⟨h6,h7,h8⟩ hb hx h2 h3 h9
  exact⟨_,S',h1,hF.purge hl,hR,hcell,hfz⟩
theorem run_store1 {P:Program}{t:TypeId}{ad:Addr}{u v:Value}{w:World}(hs:(sizeOf t).run P w=.ok 1 w)(h1:v.oneCell'=true)(hc:v.cells.toList=[v])(hcell:w.cell? ad=some u)(hfz:w.frozen? ad=false):(storeVar t ad v).run P w=.ok () (w.setCell ad v):=by
 refine run_storeVar_cells hs hc rfl ?_
 have e:ad.add 0=ad:=by simp[Addr.add]
 simp only[storeCells,e,Sem.run_bind];rw[run_store P w _ v _ h1];simp[hcell,hfz]
theorem opJ_ok:OpOk P (opJ G):=⟨fun _ _ _ _ _ _ h=>(by cases h),by
 intro X T B n ds s S w a o κ x hT hpk hgk h hF R Q;obtain⟨dst,op,type,pos,after,guard⟩:=o
 cases op
 case store t x0 y0=>
  simp only[opJ] at h
  split at h
  ·rename_i k sz f j2 k2 sz2 nn hx hy
   cases hb:(Nat.beq k 0&&Nat.beq sz 1&&Nat.beq k2 0&&Nat.beq sz2 1&&T.sca.contains t) with
   |false=>rw[hb] at h;cases h
   |true=>
    rw[hb] at h;simp only[cond_true] at h;simp only[Bool.and_eq_true,Nat.beq_eq] at hb;obtain⟨⟨⟨⟨rfl,rfl⟩,rfl⟩,rfl⟩,hsc⟩:=hb
    have fin:∀{i:Nat} {s':AS (mdI G)} {S':Sto (Tg TI)},f=i→κ .x s'=some x→FrmA n ds a S' s'.fr→Rel B s'.st s'.L s'.dk S' (w.setCell ⟨(S.loc (.m TI.mach)).b,(S.loc (.m TI.mach)).off+i,none⟩ (encL S (.sl (.loc j2) 0 1 nn)))→(∃v,w.cell? ⟨(S.loc (.m TI.mach)).b,(S.loc (.m TI.mach)).off+i,none⟩=some v)→
      w.frozen? ⟨(S.loc (.m TI.mach)).b,(S.loc (.m TI.mach)).off+i,none⟩=false→RunsAs P B n ds a w ⟨dst,.store t x0 y0,type,pos,after,guard⟩ S κ x:=fun {i s' S'} hi h1 h2 h3 ⟨u,hcell⟩ hfz Q=>by
     subst hi;unfold Oper.wp
     have e:(execOp a.eval (⟨dst,.store t x0 y0,type,pos,after,guard⟩:Oper)).run P w=.ok .skip (w.setCell ⟨(S.loc (.m TI.mach)).b,(S.loc (.m TI.mach)).off+f,none⟩ (encL S (.sl (.loc j2) 0 1 nn))):=by
      have e1:a.eval x0=.pointer (some ⟨(S.loc (.m TI.mach)).b,(S.loc (.m TI.mach)).off+0*1+f,none⟩):=hF.eval hx;have e2:a.eval y0=encL S (.sl (.loc j2) 0 1 nn):=hF.eval hy;have hst:=run_store1 (P:=P) (w:=w) (t:=t) (cells_store (P:=P) (w:=w) hT (t:=t) (v:=(.l (.sl (.loc j2) 0 1 nn):TV TI)) (D:=mdI G) (cs:=[.sl (.loc j2) 0 1 nn]) rfl (show stOk T t _ 1=true from hsc) (S:=S)).2 (v:=encL S (.sl (.loc j2) 0 1 nn)) rfl rfl hcell hfz;simp only[execOp,e1,e2,Instr.storeAt,Instr.sureAddr,Sem.run_bind,Nat.zero_mul,Nat.add_zero];simp[hst]
     rw[e];exact⟨fun h=>(by cases h),undef,rfl,.x,s',S',h1,fun r' hr'=>(by cases hr'),h2,h3,fun h=>(by cases h)⟩
    cases h11:Nat.beq f 11 with
    |true=>
     rw[h11] at h;obtain⟨s',S',h1,h2,h3,h4,h5⟩:=takeT_ok hpk hgk h hF R;exact fin (Nat.eq_of_beq_eq_true h11) h1 h2 h3 h4 h5 Q
    |false=>
     rw[h11] at h;simp only[cond_false] at h
     cases h13:Nat.beq f 13 with
     |true=>
      rw[h13] at h;obtain⟨s',S',h1,h2,h3,h4,h5⟩:=takeC_ok hpk hgk h hF R;exact fin (Nat.eq_of_beq_eq_true h13) h1 h2 h3 h4 h5 Q
     |false=>rw[h13] at h;cases h
  ·cases h
 all_goals (simp only[opJ] at h;exact (opI_ok G).2 X T B n ds s S w a _ κ x hT hpk hgk h hF R Q)⟩
end
end Go.Beat
end
