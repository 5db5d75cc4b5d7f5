/-
  Texts joined by a program (shake.py), without what the claim does not use; printed walks among them (print.sh), and own ones.
-/
import Derived.Test.YtejjedooecephaaSleep14
section
namespace Go.Beat
open Go
section
variable {D:Md} {B:Base D} {st st':D.σ} {L L':List (LObj D.τ)} {dk dk':List D.τ} {S S':Sto (Tg D.τ)} {w w':World} {P:Program}
theorem heap_set_ne (h:Heap){b0 b:Nat}(o:Obj)(hne:b≠b0):(h.setIfInBounds b0 o)[b]?=h[b]?:=by
 rw[Array.getElem?_setIfInBounds];simp[Ne.symm hne]
theorem Holds.mapSet {τ:Type}{M:Meta τ}{S:Sto τ}{h:Heap}{c:Cont τ}(H:Holds M S h c){b0:Nat}{es:Array MapEntry}{cl:Nat}(hb:h[b0]?=some (Obj.map es cl))(o:Obj):Holds M S (h.setIfInBounds b0 o) c:=fun t cs ht=>by
 have Ht:=H t cs ht;refine⟨Ht.len,Ht.cap,Ht.pos,Ht.fix,Ht.nil,fun hn=>?_⟩;obtain⟨h1,pre,post,h2,h3⟩:=Ht.blk hn;refine⟨h1,pre,post,?_,h3⟩;rw[heap_set_ne _ _ (fun e=>by rw[e,hb] at h2;cases h2)];exact h2
def mset (w:World)(b0:Nat)(o:Obj):World:={w with heap:=w.heap.setIfInBounds b0 o}
open Classical in
theorem Rel.mapFin (R:Rel B st L dk S w) (O:MdOk D) {z:D.τ} (hpk:B.pk.contains (D.kind z)=true) (hexz:D.exk z=true) (hroz:D.isro z=false) (hfz:D.M.fix z=false) {b0:Nat} {es:Array MapEntry} {cl:Nat} (hb:w.heap[b0]?=some (Obj.map es cl)) (hown:S.own b0≠none) (o:Obj) {os:LO D.τ} (hv:os.flat.all isV=true)
  (hst:∀u,D.c st' u=if u=z then some os.flat else D.c st u) (hro:D.ro st'=D.ro st)
  (hdk:∀u,u≠z→(u∈dk'↔u∈dk)) (hzd:z∉dk') (hlm:metaA D L'=metaA D L) (hL:∀j,contA st dk L' (.loc j)=none∨contA st dk L' (.loc j)=contA st dk L (.loc j)) (hfree:∀ob∈L,ob.free D z)
  {c1:Cont (Tg D.τ)} (H1:Holds (metaA D L) S' w.heap c1) (hl:∀u,u≠.m z→S'.loc u=S.loc u) (hk:Evn S w S' w) (hfr:Fresh S' w)
  (h1z:c1 (.m z)=some (os.flat.map (encL S))) (h1:∀u cs',u≠.m z→contA st' dk' L' u=some cs'→c1 u=encC S (contA st dk L) u)
  (hex:D.ex st' S' (mset w b0 o)):Rel B st' L' dk' S' (mset w b0 o):=by
 have nohm:∀t i,D.hm t i≠some z:=fun t i h=>by
  have:=(O.hmk _ _ _ h).2.2.2.1;rw[hexz] at this
  cases this
 have kp:Kp S w S' (mset w b0 o):=⟨hk.os,hk.tape,hk.output,by simp[mset],fun b hb=>hk.own b hb,fun b hb' hn=>heap_set_ne _ _ fun e=>hown (e ▸ hn)⟩
 have hlz:∀t,(D.M.fix t=true∨D.isro t=true∨B.pk.contains (D.kind t)=false)→S'.loc (.m t)=S.loc (.m t):=fun t ht=>hl _ fun e=>by
  injection e with e
  subst e
  rcases ht with h|h|h
  ·rw[hfz] at h;cases h
  ·rw[hroz] at h;cases h
  ·rw[hpk] at h;cases h
 refine⟨?_,fun b hb=>hfr b (by simpa [mset] using hb),R.kp.trans kp,fun t cs h=>?_,hex,fun t ht=>?_,fun t h1 h2=>?_,hro.trans R.rob,fun t h1 h2=>(hlz t (.inr (.inr h1))).trans (R.turn t h1 h2)⟩
 ·rw[hlm]
  refine (H1.mapSet hb o).congr fun u cs' hu=>?_
  by_cases huz:u=.m z
  ·subst huz
   rw[h1z];simp only[encC,contA,hzd,if_false] at hu;rw[hst,if_pos rfl] at hu;simp only[Option.map_some,Option.some.injEq] at hu;rw[←hu]
   congr 1
   refine (encLs_eq (q:=fun _=>true) (fun _ h=>by cases h) ?_).symm
   rw[List.any_eq_false];intro a ha;have:=List.all_eq_true.1 hv a ha
   cases a<;>simp_all [AL.has,isV]
  ·have hu':=hu
   unfold encC at hu'
   cases hcu:contA st' dk' L' u with
   |none=>rw[hcu] at hu';cases hu'
   |some xs=>
    rw[hcu] at hu';simp only[Option.map_some,Option.some.injEq] at hu';rw[h1 u xs huz hcu];subst hu'
    cases u with
    |m u=>
     have huz':u≠z:=fun e=>huz (by rw[e])
     by_cases hud:u∈dk'
     ·simp[contA,hud] at hcu
     ·have hud2:u∉dk:=fun h=>hud ((hdk u huz').2 h)
      simp only[contA,hud,if_false] at hcu;rw[hst,if_neg huz'] at hcu;simp only[encC,contA,hud2,if_false,hcu,Option.map_some,Option.some.injEq]
      refine List.map_congr_left fun a ha=>?_
      refine (enc_off hl (fun k s f e=>?_) fun k s m e=>?_).symm
      ·have:=O.cell _ _ _ hcu a ha
       rw[e] at this;simp only[mcell] at this;rw[hfz] at this
       cases this
      ·obtain⟨j,hj⟩:=List.getElem?_of_mem ha
       rw[e] at hj;exact nohm _ _ (O.home _ _ _ _ _ _ _ _ hcu hj hroz)
    |loc j=>
     have hcu2:contA st dk L' (.loc j)=some xs:=hcu
     rcases hL j with h|h
     ·rw[h] at hcu2;cases hcu2
     ·rw[h] at hcu2
      simp only[encC,hcu2,Option.map_some,Option.some.injEq];simp only[contA] at hcu2
      cases hLj:L[j]? with
      |none=>simp[hLj] at hcu2
      |some ob=>
       simp only[hLj] at hcu2;obtain⟨o,ho,rfl⟩:=Option.map_eq_some_iff.1 hcu2
       refine (flat_enc (q:=fun|.m u=>Nat.beq (D.kind u) (D.kind z)|.loc _=>false) (fun u hu=>hl u fun e=>?_) (hfree ob (List.mem_of_getElem? hLj)) ho).symm
       subst e
       simp at hu
 ·rw[hro] at h
  refine (R.ro t cs h).kp kp (hlz t (.inr (.inl (O.rois _ _ _ h)))) fun a ha=>?_
  have:=O.rocell _ _ _ h a ha
  cases a with
  |v x=>rfl
  |p t k sz f=>cases t<;>exact absurd this (by simp[rcell])
  |sl t k sz n=>
   cases t with
   |m z=>simp only[encL,hlz z (.inr (.inl this))]
   |loc j=>exact absurd this (by simp[rcell])
 ·rw[hlz t (ht.imp And.left fun h=>.inl h),R.stab t ht]
 ·have:=R.mono t h1 h2
  rw[hst]
  split
  ·rfl
  ·exact this
theorem Rel.mapDel (R:Rel B st L dk S w)(O:MdOk D){z:D.τ}(hpk:B.pk.contains (D.kind z)=true)(hexz:D.exk z=true)(hroz:D.isro z=false)(hfz:D.M.fix z=false)(hpos:0<D.M.sz z){b0:Nat}{es:Array MapEntry}{cl:Nat}(hb:w.heap[b0]?=some (Obj.map es cl))(hown:S.own b0≠none)(o:Obj){os:LO D.τ}(hos:os.flat=[])(hst:∀u,u≠z→D.c st' u=D.c st u)(hstz:D.c st' z=some os.flat)(hro:D.ro st'=D.ro st)(hzd:z∉dk)(hfree:∀ob∈L,ob.free D z)(hex:D.ex st' (S.put (.m z) SL.none) (mset w b0 o)):Rel B st' L dk (S.put (.m z) SL.none) (mset w b0 o):=by
 have H1:=R.H.nilled (.m z) hpos hfz
 have hl:∀u,u≠.m z→(S.put (.m z) SL.none).loc u=S.loc u:=fun u hu=>Sto.put_loc_ne S _ hu
 classical
 exact R.mapFin O (L':=L) (dk':=dk) hpk hexz hroz hfz hb hown o (os:=os) (by rw[hos];rfl) (fun u=>by
  by_cases hu:u=z
  ·subst hu;simp[hstz]
  ·simp[hu,hst u hu]) hro (fun _ _=>Iff.rfl) hzd rfl (fun q=>.inr rfl) hfree H1 hl (Kp.nilled S w _) (fun b hb=>by simpa [Sto.put,SL.none] using R.fresh b hb) (by rw[upd_same,hos];rfl) (fun u cs' hu _=>upd_other _ _ hu) hex
theorem Rel.mapPut (R:Rel B st L dk S w)(O:MdOk D){z:D.τ}(hpk:B.pk.contains (D.kind z)=true)(hexz:D.exk z=true)(hroz:D.isro z=false)(hfz:D.M.fix z=false){b0:Nat}{es:Array MapEntry}{cl:Nat}(hb:w.heap[b0]?=some (Obj.map es cl))(hown:S.own b0≠none)(ob':Obj){j:Nat}{ob:LObj D.τ}(hj:L[j]?=some ob){o:LO D.τ}(ho:ob.o=some o)(hf:o.fits ob.sz=true)(hty:ob.ty=D.M.ty z)(hsz:ob.sz=D.M.sz z)(hnf:ob.fix=false)(k n:Nat)(hkn:k+n≤o.len ob.sz)(hv:(o.slc ob.sz k n).flat.all isV=true)(hst:∀u,u≠z→D.c st' u=D.c st u)(hstz:D.c st' z=some (o.slc ob.sz k n).flat)(hro:D.ro st'=D.ro st)(hdk:∀u,u≠z→(u∈dk'↔u∈dk))(hzd:z∉dk')(hfree:∀ob∈L,ob.free D z)(hex:D.ex st' (S.ren (.loc j) (.m z) ((S.loc (.loc j)).later k ob.sz)) (mset w b0 ob')):Rel B st' (L.set j {ob with o:=none}) dk' (S.ren (.loc j) (.m z) ((S.loc (.loc j)).later k ob.sz)) (mset w b0 ob'):=by
 have hlt:=(List.getElem?_eq_some_iff.1 hj).1
 have hcj:contA st dk L (.loc j)=some o.flat:=by simp[contA,hj,ho]
 have mj:(metaA D L).ty (.loc j)=ob.ty∧(metaA D L).sz (.loc j)=ob.sz∧(metaA D L).fix (.loc j)=ob.fix:=by simp[metaA,hj]
 have hne:(Tg.loc j:Tg D.τ)≠.m z:=fun e=>by cases e
 have H1:=R.H.part (x:=.loc j) (y:=.m z) (cs:=o.flat.map (encL S)) (by simp[encC,hcj]) hne ⟨by rw[mj.1,hty];rfl,by rw[mj.2.1,hsz];rfl,by rw[mj.2.2,hnf];exact hfz⟩ (by rw[mj.2.2,hnf]) k n
  (by rw[mj.2.1,List.length_map,LO.flat_len hf];exact Nat.mul_le_mul_right _ hkn)
 rw[mj.2.1] at H1
 have hl:∀u,u≠.m z→(S.ren (.loc j) (.m z) ((S.loc (.loc j)).later k ob.sz)).loc u=S.loc u:=fun u hu=>Sto.ren_loc_ne S _ _ hu
 have hL:∀q,contA st dk (L.set j {ob with o:=none}) (.loc q)=none∨contA st dk (L.set j {ob with o:=none}) (.loc q)=contA st dk L (.loc q):=fun q=>by
  by_cases hq:q=j
  ·subst hq
   exact .inl (by simp[contA,hlt])
  ·exact .inr (by simp[contA,List.getElem?_set_ne (Ne.symm hq)])
 classical
 exact R.mapFin O (L':=L.set j {ob with o:=none}) (dk':=dk') hpk hexz hroz hfz hb hown ob' hv (fun u=>by
  by_cases hu:u=z
  ·subst hu;simp[hstz]
  ·simp[hu,hst u hu]) hro hdk hzd (meta_set hj _) hL hfree H1 hl (Evn.ren S _ _ _ w) (Fresh.ren R.fresh _ _ _) (by simp[renC,LO.slc_ok k n hf,List.map_take,List.map_drop])
  (fun u cs' hu hcu=>by
   have huj:u≠.loc j:=fun e=>by subst e;simp[contA,hlt] at hcu
   simp[renC,hu,huj]) hex
end
end Go.Beat
end
section
namespace Go.Beat
open Go _root_.Beat
section
variable {S S':Sto (Tg TI)} {wait:Nat→List Nat} {es:Array MapEntry}
theorem key_inj {a b:Nat}(h:i64 (a:Int)=i64 (b:Int)):a=b:=by
 injection h with _ h
 omega
theorem Entries.delNone (h:Entries S wait es){i:Nat}(hno:∀e∈es.toList,e.key≠i64 i):Entries (S.put (.m (.waitL i)) SL.none) (updW wait i []) es:=by
 refine⟨fun e he=>?_,fun k hk=>?_,h.2.2⟩
 ·obtain⟨k,h1,h2⟩:=h.1 e he
  have hki:k≠i:=fun e'=>hno e he (e' ▸ h1)
  refine⟨k,h1,?_⟩;rw[h2,Sto.put_loc_ne S _ (fun e=>hki (by injection e with e;injection e)),updW_ne _ _ hki]
 ·by_cases hki:k=i
  ·subst hki
   exact⟨updW_same ..,by simp[Sto.put_loc,SL.none],by simp[Sto.put_loc,SL.none]⟩
  ·rw[Sto.put_loc_ne S _ (fun e=>hki (by injection e with e;injection e)),updW_ne _ _ hki]
   exact h.2.1 k hk
theorem Entries.del (h:Entries S wait es){i j:Nat}{e:MapEntry}(hj:es.toList[j]?=some e)(hk:e.key=i64 i):Entries (S.put (.m (.waitL i)) SL.none) (updW wait i []) (es.eraseIdxIfInBounds j):=by
 have hjl:j<es.size:=by simpa using (List.getElem?_eq_some_iff.1 hj).1
 have ee:(es.eraseIdxIfInBounds j).toList=es.toList.eraseIdx j:=by simp[Array.eraseIdxIfInBounds,hjl]
 have hne:∀e'∈es.toList.eraseIdx j,e'∈es.toList∧e'.key≠i64 i:=fun e' he'=>by
  rw[List.mem_eraseIdx_iff_getElem?] at he';obtain⟨i',hi',he''⟩:=he';refine⟨List.mem_of_getElem? he'',fun hk'=>?_⟩;have hp:=List.pairwise_iff_getElem.1 h.2.2;obtain⟨l1,q1⟩:=List.getElem?_eq_some_iff.1 he'';obtain⟨l2,q2⟩:=List.getElem?_eq_some_iff.1 hj
  rcases Nat.lt_or_gt_of_ne hi' with hlt|hlt
  ·exact hp i' j l1 l2 hlt (by rw[q1,q2,hk',hk])
  ·exact hp j i' l2 l1 hlt (by rw[q1,q2,hk',hk])
 refine⟨fun e' he'=>?_,fun k hk'=>?_,?_⟩
 ·rw[ee] at he'
  obtain⟨g1,g2⟩:=hne e' he';obtain⟨k,h1,h2⟩:=h.1 e' g1
  have hki:k≠i:=fun e''=>g2 (e'' ▸ h1)
  refine⟨k,h1,?_⟩;rw[h2,Sto.put_loc_ne S _ (fun e=>hki (by injection e with e;injection e)),updW_ne _ _ hki]
 ·by_cases hki:k=i
  ·subst hki
   exact⟨updW_same ..,by simp[Sto.put_loc,SL.none],by simp[Sto.put_loc,SL.none]⟩
  ·rw[Sto.put_loc_ne S _ (fun e=>hki (by injection e with e;injection e)),updW_ne _ _ hki]
   refine h.2.1 k fun e' he' hke=>?_
   obtain⟨i',hi'⟩:=List.getElem?_of_mem he'
   have hij:i'≠j:=fun e''=>by
    subst e'';rw[hj] at hi'
    injection hi' with hi'
    subst hi';exact hki (key_inj (hke.symm.trans hk))
   refine hk' e' ?_ hke
   rw[ee,List.mem_eraseIdx_iff_getElem?];exact⟨i',hij,hi'⟩
 ·rw[ee]
  exact h.2.2.sublist (List.eraseIdx_sublist ..)
theorem Entries.upd (h:Entries S wait es){i j:Nat}{e:MapEntry}(hj:es.toList[j]?=some e)(hk:e.key=i64 i)(hl:∀k,k≠i→S'.loc (.m (.waitL k))=S.loc (.m (.waitL k))){l:List Nat}{v:Value}(hv:v=(S'.loc (.m (.waitL i))).val l.length):Entries S' (updW wait i l) (es.modify j fun e=>{e with key:=i64 i,val:=v}):=by
 have hjl:j<es.toList.length:=(List.getElem?_eq_some_iff.1 hj).1;have hje:=(List.getElem?_eq_some_iff.1 hj).2
 have ee:(es.modify j fun e=>{e with key:=i64 i,val:=v}).toList=es.toList.modify j fun e=>{e with key:=i64 i,val:=v}:=by simp
 have hp:=List.pairwise_iff_getElem.1 h.2.2
 have key:∀q (hq:q<es.toList.length),((es.toList.modify j fun e=>{e with key:=i64 i,val:=v})[q]'(by simpa using hq)).key=(es.toList[q]).key:=fun q hq=>by
  rw[List.getElem_modify]
  split
  ·rename_i hq'
   subst hq'
   simp only
   rw[hje,hk]
  ·rfl
 refine⟨fun e' he'=>?_,fun k hk'=>?_,?_⟩
 ·rw[ee] at he'
  obtain⟨q,hq⟩:=List.getElem?_of_mem he';obtain⟨hql,hq⟩:=List.getElem?_eq_some_iff.1 hq;rw[List.getElem_modify] at hq
  have hql':q<es.toList.length:=by simpa using hql
  split at hq
  ·subst hq
   exact⟨i,rfl,by simp[hv,updW_same]⟩
  ·rename_i hqj
   obtain⟨k,h1,h2⟩:=h.1 _ (List.getElem_mem hql')
   have hki:k≠i:=fun e''=>by
    subst e''
    rcases Nat.lt_or_gt_of_ne hqj with hlt|hlt
    ·exact hp _ _ hjl hql' hlt (by rw[hje,hk,h1])
    ·exact hp _ _ hql' hjl hlt (by rw[hje,hk,h1])
   rw[hq] at h1 h2;refine⟨k,h1,?_⟩;rw[h2,hl k hki,updW_ne _ _ hki]
 ·have hki:k≠i:=fun e''=>by
   subst e''
   refine hk' ((es.toList.modify j fun e=>{e with key:=i64 k,val:=v})[j]'(by simpa using hjl)) (by rw[ee];exact List.getElem_mem _) ?_
   rw[key j hjl,hje,hk]
  rw[hl k hki,updW_ne _ _ hki]
  refine h.2.1 k fun e' he' hke=>?_
  obtain⟨q,hq⟩:=List.getElem?_of_mem he';obtain⟨hql,hq⟩:=List.getElem?_eq_some_iff.1 hq
  refine hk' ((es.toList.modify j fun e=>{e with key:=i64 i,val:=v})[q]'(by simpa using hql)) (by rw[ee];exact List.getElem_mem _) ?_
  rw[key q hql,hq,hke]
 ·rw[ee,List.pairwise_iff_getElem]
  intro a b ha hb hab;rw[key a (by simpa using ha),key b (by simpa using hb)];exact hp a b _ _ hab
theorem Entries.add (h:Entries S wait es){i:Nat}(hno:∀e∈es.toList,e.key≠i64 i)(hl:∀k,k≠i→S'.loc (.m (.waitL k))=S.loc (.m (.waitL k))){l:List Nat}{v:Value}(hv:v=(S'.loc (.m (.waitL i))).val l.length)(cl:Nat):Entries S' (updW wait i l) (es.push {key:=i64 i,val:=v,born:=cl}):=by
 have ee:(es.push {key:=i64 i,val:=v,born:=cl}).toList=es.toList++[{key:=i64 i,val:=v,born:=cl}]:=by simp
 refine⟨fun e' he'=>?_,fun k hk'=>?_,?_⟩
 ·rw[ee] at he'
  rcases List.mem_append.1 he' with he'|he'
  ·obtain⟨k,h1,h2⟩:=h.1 e' he'
   have hki:k≠i:=fun e''=>hno e' he' (e'' ▸ h1)
   exact⟨k,h1,by rw[h2,hl k hki,updW_ne _ _ hki]⟩
  ·simp only[List.mem_singleton] at he'
   subst he';exact⟨i,rfl,by simp[hv,updW_same]⟩
 ·have hki:k≠i:=fun e''=>by
   subst e'';exact hk' _ (by rw[ee];exact List.mem_append_right _ (List.mem_singleton.2 rfl)) rfl
  rw[hl k hki,updW_ne _ _ hki]
  exact h.2.1 k fun e' he'=>hk' e' (by rw[ee];exact List.mem_append_left _ he')
 ·rw[ee,List.pairwise_append]
  refine⟨h.2.2,List.pairwise_singleton ..,fun a ha b hb=>?_⟩;simp only[List.mem_singleton] at hb;subst hb;exact hno a ha
end
section
variable {P:Program} {T:TabA} {w:World}
theorem run_setMap {b:Nat}{es:Array MapEntry}{cl:Nat}(hb:w.heap[b]?=some (Obj.map es cl))(o:Obj):(setObj b o).run P w=.ok () (mset w b o):=by simp[setObj,Sem.run,hb,mset]
theorem mpOk_some {t:Nat}(h:mpOk P t=true):∃k e,P.underlying t=some (.map k e)∧P.underlying k=some (.int .i64):=by
 unfold mpOk at h
 split at h
 ·rename_i k e hu
  simp only[Bool.and_eq_true] at h;obtain⟨h2,_⟩:=h
  split at h2
  ·rename_i hk
   exact⟨k,e,hu,hk⟩
  ·cases h2
 ·cases h
theorem run_delete {t b:Nat}(ht:mpOk P t=true){i:Nat}{S:Sto (Tg TI)}{wait:Nat→List Nat}{es:Array MapEntry}{cl:Nat}(hb:w.heap[b]?=some (Obj.map es cl))(h:Entries S wait es)(ts:Array TypeId)(ty:TypeId)(hts:ts[0]?=some t):
  ∃es',(Builtin.delete_ ts ty #[.map (some b),i64 i]).run P w=.ok (.tuple #[]) (mset w b (.map es' cl))∧Entries (S.put (.m (.waitL i)) SL.none) (updW wait i []) es':=by
 obtain⟨k,e,hu,hk⟩:=mpOk_some ht
 have hget:(getObj b).run P w=.ok (.map es cl) w:=by simp[getObj,Sem.run,hb]
 have hck:∀b,(Instr.checkKey b 10000 k (i64 i)).run P w=.ok () w:=fun b=>run_checkKey_int hk b 9999 i w
 rcases findNow_at (i:=(i:Int)) es.toList 0 (fun e he=>by obtain⟨k,h1,_⟩:=h.1 e he;exact⟨k,h1⟩) with ⟨j,e',f1,f2,f3⟩|⟨f1,f2⟩
 ·have hf:=run_findKey_int (P:=P) hk f3 w
  rw[Nat.zero_add] at hf;refine⟨es.eraseIdxIfInBounds j,?_,h.del f1 f2⟩;simp only[i64] at hck ⊢;simp[Builtin.delete_,hts,run_underlying hu,hget,hck,hf,run_setMap hb]
 ·have hf:=run_findKey_int (P:=P) hk f2 w
  refine⟨es,?_,h.delNone f1⟩;simp only[i64] at hck ⊢;simp[Builtin.delete_,hts,run_underlying hu,hget,hck,hf,run_setMap hb]
theorem run_mapUpdate {t b:Nat}(ht:mpOk P t=true){i:Nat}{S S':Sto (Tg TI)}{wait:Nat→List Nat}{es:Array MapEntry}{cl:Nat}(hb:w.heap[b]?=some (Obj.map es cl))(h:Entries S wait es)(hl:∀k,k≠i→S'.loc (.m (.waitL k))=S.loc (.m (.waitL k))){l:List Nat}{v:Value}(hv:v=(S'.loc (.m (.waitL i))).val l.length):
  ∃es' cl',(Instr.mapUpdate t (.map (some b)) (i64 i) v).run P w=.ok () (mset w b (.map es' cl'))∧Entries S' (updW wait i l) es':=by
 obtain⟨k,e,hu,hk⟩:=mpOk_some ht
 have hget:(getObj b).run P w=.ok (.map es cl) w:=by simp[getObj,Sem.run,hb]
 have hck:∀b,(Instr.checkKey b 10000 k (i64 i)).run P w=.ok () w:=fun b=>run_checkKey_int hk b 9999 i w
 rcases findNow_at (i:=(i:Int)) es.toList 0 (fun e he=>by obtain⟨k,h1,_⟩:=h.1 e he;exact⟨k,h1⟩) with ⟨j,e',f1,f2,f3⟩|⟨f1,f2⟩
 ·have hf:=run_findKey_int (P:=P) hk f3 w
  rw[Nat.zero_add] at hf;refine⟨_,cl,?_,h.upd f1 f2 hl hv⟩;simp only[i64] at hck ⊢
  have e1:((es[j]?).map (·.key)).getD (.int .i64 i)=.int .i64 i:=by
   have:es[j]?=some e':=by simpa using f1
   simp[this,f2]
  have e2:(Instr.keyThatStays (.int .i64 i) (.int .i64 i)).run P w=.ok (.int .i64 i) w:=by simp[Instr.keyThatStays,Instr.sameBits]
  simp[Instr.mapUpdate,run_underlying hu,hget,hck,hf];rw[e1,e2];simp[run_setMap hb]
 ·have hf:=run_findKey_int (P:=P) hk f2 w
  refine⟨_,cl+1,?_,h.add f1 hl hv cl⟩;simp only[i64] at hck ⊢;simp[Instr.mapUpdate,run_underlying hu,hget,hck,hf,run_setMap hb]
end
def opI (G:GI):OpH (mdI G):={ op:=fun T s o κ=>match o.op with
 |.mapUpdate t m k v=>(match evA s.fr m,evA s.fr k,evA s.fr v with
  |some (.l (.v (.map (some b)))),some (.l (.v (.int .i64 i))),some (.l (.sl (.loc j) f sz n))=>
   bif T.mp.contains t&&T.pk.contains 13&&!(s.L.any (·.has (kindT (mdI G) (.waitL 0)))) then
    (if b=G.wb∧0≤i then (match s.L[j]? with
     |none=>none
     |some ob=>match ob.o with
      |none=>none
      |some o=>bif o.fits ob.sz&&o.vs&&!ob.fix&&Nat.beq ob.ty G.Y.int&&Nat.beq ob.sz 1&&Nat.beq sz ob.sz then
       (if f+n≤o.len ob.sz then (match o.slc ob.sz f n with
        |.ints .i64 xs=>(match toNats xs with
         |some l=>if n=l.length then undead (mdI G) (.waitL i.toNat) s.dk fun dk'=>κ .x {fr:=purge (kindT (mdI G) (.waitL i.toNat)) s.fr,st:=IM.wWait s.st i.toNat l,L:=s.L.set j {ob with o:=none},dk:=dk'} else none
         |none=>none)
        |_=>none) else none)
       else none)
     else none)
   else none
  |_,_,_=>none)
 |.call c=>(match c.callee with
  |.builtin .delete=>(match c.args.toList,c.argTypes.toList with
   |[x,k],t::_=>(match evA s.fr x,evA s.fr k with
    |some (.l (.v (.map (some b)))),some (.l (.v (.int .i64 i)))=>
     bif T.mp.contains t&&T.pk.contains 13&&!(s.L.any (·.has (kindT (mdI G) (.waitL 0)))) then
      (if b=G.wb∧0≤i then bif s.alive (.waitL i.toNat) then κ .x {s with fr:=purge (kindT (mdI G) (.waitL i.toNat)) s.fr,st:=IM.wWait s.st i.toNat []} else none else none)
     else none
    |_,_=>none)
   |_,_=>none)
  |_=>none)
 |_=>none}
theorem cI_wait (G:GI)(m:IM)(i:Nat)(l:List Nat)(u:TI)(hu:u≠.waitL i):cI G (m.wWait i l) u=cI G m u:=by
 cases u with
 |waitL k=>
  have hk:k≠i:=fun e=>hu (by rw[e])
  simp only[cI,IM.wWait,updW_ne _ _ hk]
 |_=>rfl
theorem cI_waitS (G:GI)(m:IM)(i:Nat)(l:List Nat):cI G (m.wWait i l) (.waitL i)=some (natsL l).flat:=by simp only[cI,IM.wWait,updW_same]
theorem free_kind {G:GI}{L:List (LObj TI)}{i:Nat}(h:L.any (·.has (kindT (mdI G) (.waitL 0)))=false):∀ob∈L,LObj.free (mdI G) (.waitL i) ob:=fun ob hob=>by
 rw[List.any_eq_false] at h;have h1:=h ob hob
 have h2:LObj.has (kindT (mdI G) (.waitL 0)) ob=false:=by simpa using h1
 exact h2
theorem opI_ok {P:Program}(G:GI):OpOk P (opI G):=⟨fun _ _ _ _ _ _ h=>(by cases h),by
 intro X T B n ds s S w a o κ x hT hpk hgk h hF R Q;obtain⟨dst,op,type,pos,after,guard⟩:=o
 cases op<;>try (simp only[opI] at h;cases h;done)
 case mapUpdate t m k v=>
  simp only[opI] at h
  split at h
  ·rename_i b i j f sz nn hm hk hv
   cases hb:(T.mp.contains t&&T.pk.contains 13&&!(s.L.any (·.has (kindT (mdI G) (.waitL 0))))) with
   |false=>rw[hb] at h;cases h
   |true=>
    rw[hb] at h;simp only[cond_true] at h;simp only[Bool.and_eq_true,Bool.not_eq_true'] at hb;obtain⟨⟨hmp,hpk13⟩,hfr⟩:=hb
    split at h
    ·rename_i hbi
     obtain⟨rfl,hi0⟩:=hbi;obtain⟨q,rfl⟩:∃q:Nat,i=q:=⟨i.toNat,by omega⟩;simp only[Int.toNat_natCast] at h
     split at h
     ·cases h
     ·rename_i ob hob
      split at h
      ·cases h
      ·rename_i o ho
       cases hb2:(o.fits ob.sz&&o.vs&&!ob.fix&&Nat.beq ob.ty G.Y.int&&Nat.beq ob.sz 1&&Nat.beq sz ob.sz) with
       |false=>rw[hb2] at h;cases h
       |true=>
        rw[hb2] at h;simp only[cond_true] at h;simp only[Bool.and_eq_true,Bool.not_eq_true',Nat.beq_eq] at hb2;obtain⟨⟨⟨⟨⟨g1,g2⟩,g3⟩,g4⟩,g5⟩,g6⟩:=hb2
        split at h
        ·rename_i hkn
         split at h
         ·rename_i xs hslc
          split at h
          ·rename_i l hl
           split at h
           ·rename_i hnl
            obtain⟨dk',h7,h8,h9⟩:=undead_ok h;obtain⟨es,cl,e1,e2,e3,e4⟩:=R.ex;have hl':xs=l.map Int.ofNat:=toNats_eq hl
            have hval:a.eval v=((S.ren (.loc j) (.m (TI.waitL q)) ((S.loc (.loc j)).later f ob.sz)).loc (.m (TI.waitL q))).val l.length:=by
             rw[hF.eval hv,show (S.ren (.loc j) (.m (TI.waitL q)) ((S.loc (.loc j)).later f ob.sz)).loc (.m (TI.waitL q))=(S.loc (.loc j)).later f ob.sz from Sto.ren_loc _ _ _ _,←hnl,g6];rfl
            have hloc:∀k,k≠q→(S.ren (.loc j) (.m (TI.waitL q)) ((S.loc (.loc j)).later f ob.sz)).loc (.m (.waitL k))=S.loc (.m (.waitL k)):=fun k hk=>Sto.ren_loc_ne S _ _ fun e=>hk (by injection e with e;injection e)
            obtain⟨es',cl',r1,r2⟩:=run_mapUpdate (P:=P) (List.all_eq_true.1 hT.mp t (by simpa using hmp)) e1 e4 hloc hval
            have hst:∀u,u≠TI.waitL q→(mdI G).c (IM.wWait s.st q l) u=(mdI G).c s.st u:=fun u hu=>cI_wait G s.st q l u hu
            have hstz:(mdI G).c (IM.wWait s.st q l) (TI.waitL q)=some (o.slc ob.sz f nn).flat:=(cI_waitS G s.st q l).trans (by rw[hslc,hl'];rfl)
            have hex:(mdI G).ex (IM.wWait s.st q l) (S.ren (.loc j) (.m (TI.waitL q)) ((S.loc (.loc j)).later f ob.sz)) (mset w G.wb (.map es' cl')):=⟨es',cl',by
              have:G.wb<w.heap.size:=(Array.getElem?_eq_some_iff.1 e1).1
              simp[mset,this],⟨(congrArg SL.b (Sto.ren_loc_ne S _ _ fun e=>by injection e with e;cases e)).trans e2.1,(fun hn=>e2.2 ((Sto.ren_none S _ _ _ _).1 hn))⟩,e3,r2⟩
            have hR:=R.mapPut (mdI_ok G) (dk':=dk') (z:=TI.waitL q) (by rw[←hpk];exact hpk13) rfl rfl rfl e1 e2.2 (.map es' cl') hob ho g1 g4 g5 g3 f nn hkn (LO.vs_ok (LO.slc_vs f nn g2)) hst hstz rfl h8 h9 (free_kind hfr) hex;unfold Oper.wp
            have e:(execOp a.eval (⟨dst,.mapUpdate t m k v,type,pos,after,guard⟩:Oper)).run P w=.ok .skip (mset w G.wb (.map es' cl')):=by
             have em:a.eval m=.map (some G.wb):=hF.eval hm;have ek:a.eval k=i64 (q:Int):=hF.eval hk;simp[execOp,em,ek,r1]
            rw[e];exact⟨fun h=>(by cases h),undef,rfl,.x,_,_,h7,fun r' hr'=>(by cases hr'),hF.purge (kind_loc (fun u hu=>Sto.ren_loc_ne S _ _ hu)),hR,fun h=>(by cases h)⟩
           ·cases h
          ·cases h
         ·cases h
        ·cases h
    ·cases h
  ·cases h
 case call c=>
  simp only[opI] at h
  split at h
  ·rename_i hcal
   split at h
   ·rename_i x0 k0 t ts hargs hats
    split at h
    ·rename_i b i hx hk
     cases hb:(T.mp.contains t&&T.pk.contains 13&&!(s.L.any (·.has (kindT (mdI G) (.waitL 0))))) with
     |false=>rw[hb] at h;cases h
     |true=>
      rw[hb] at h;simp only[cond_true] at h;simp only[Bool.and_eq_true,Bool.not_eq_true'] at hb;obtain⟨⟨hmp,hpk13⟩,hfr⟩:=hb
      split at h
      ·rename_i hbi
       obtain⟨rfl,hi0⟩:=hbi;obtain⟨q,rfl⟩:∃q:Nat,i=q:=⟨i.toNat,by omega⟩;simp only[Int.toNat_natCast] at h
       cases hal:s.alive (TI.waitL q) with
       |false=>rw[hal] at h;cases h
       |true=>
        rw[hal] at h;simp only[cond_true] at h;obtain⟨es,cl,e1,e2,e3,e4⟩:=R.ex
        have hts:c.argTypes[0]?=some t:=by
         have:c.argTypes=(t::ts).toArray:=by apply Array.toList_inj.1;rw[hats]
         rw[this];rfl
        obtain⟨es',r1,r2⟩:=run_delete (P:=P) (List.all_eq_true.1 hT.mp t (by simpa using hmp)) e1 e4 (i:=q) c.argTypes type hts
        have hst:∀u,u≠TI.waitL q→(mdI G).c (IM.wWait s.st q []) u=(mdI G).c s.st u:=fun u hu=>cI_wait G s.st q [] u hu
        have hstz:(mdI G).c (IM.wWait s.st q []) (TI.waitL q)=some (natsL []).flat:=cI_waitS G s.st q []
        have hex:(mdI G).ex (IM.wWait s.st q []) (S.put (.m (TI.waitL q)) SL.none) (mset w G.wb (.map es' cl)):=⟨es',cl,by
          have:G.wb<w.heap.size:=(Array.getElem?_eq_some_iff.1 e1).1
          simp[mset,this],⟨(congrArg SL.b (Sto.put_loc_ne S _ fun e=>by injection e with e;cases e)).trans e2.1,(fun hn=>e2.2 (by simpa [Sto.put,SL.none] using hn))⟩,e3,r2⟩
        have hR:=R.mapDel (mdI_ok G) (z:=TI.waitL q) (by rw[←hpk];exact hpk13) rfl rfl rfl (show 0<1 from Nat.one_pos) e1 e2.2 (.map es' cl) (os:=natsL []) rfl hst hstz rfl (AS.alive_not hal) (free_kind hfr) hex;unfold Oper.wp
        have ea:c.args.map a.eval=#[.map (some G.wb),i64 (q:Int)]:=by
         apply Array.toList_inj.1
         rw[Array.toList_map,hargs];have em:a.eval x0=.map (some G.wb):=hF.eval hx;have ek:a.eval k0=i64 (q:Int):=hF.eval hk;simp[em,ek]
        have e:(execOp a.eval (⟨dst,.call c,type,pos,after,guard⟩:Oper)).run P w=.ok (.value (.tuple #[])) (mset w G.wb (.map es' cl)):=by
         simp[execOp,resolve,hcal,invoke,builtin,ea,r1]
        rw[e];exact⟨fun h=>(by cases h),_,rfl,.x,_,_,h,fun r' hr'=>(by cases hr'),hF.purge (kind_loc (fun u hu=>Sto.put_loc_ne S _ hu)),hR,fun h=>(by cases h)⟩
      ·cases h
    ·cases h
   ·cases h
  ·cases h⟩
end Go.Beat
end
