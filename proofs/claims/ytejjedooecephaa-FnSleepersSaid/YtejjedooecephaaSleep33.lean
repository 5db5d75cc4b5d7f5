/-
  Texts joined by a program (shake.py), without what the claim does not use; printed walks among them (print.sh), and own ones.
-/
import Derived.Test.YtejjedooecephaaSleep14
import Derived.Test.YtejjedooecephaaSleep21
section
namespace Go.Beat
open Go _root_.Beat
theorem contA_loc {D:Md}{st:D.σ}{dk:List D.τ}{L:List (LObj D.τ)}{j:Nat}{ob:LObj D.τ}(h:L[j]?=some ob):contA st dk L (.loc j)=ob.o.map LO.flat:=by simp[contA,h]
def qFed:Tg TI→Bool
 |.m .fed=>true
 |_=>false
open Classical in
noncomputable def stoFed (S:Sto (Tg TI)) (b3:Nat):Sto (Tg TI) where
 own:=fun b=>if b=b3 then some (.m .fed) else S.own b
 loc:=fun t=>if t=.m .fed then S.loc (.loc 3) else S.loc t
section
variable {G:GI} {B:Base (mdI G)} {w:World} {S:Sto (Tg TI)}
open Classical in
theorem stoFed_loc (S:Sto (Tg TI)) (b3:Nat) (t:Tg TI) (h:qFed t=false):(stoFed S b3).loc t=S.loc t:=by
 have h1:t≠.m .fed:=fun e=>by subst e;cases h
 simp[stoFed,h1]
theorem cI_noFed {m:IM}{t:TI}{cs:List (AL TI)}(h:cI G m t=some cs):∀a∈cs,a.has qFed=false:=fun a ha=>by
 obtain⟨i,hi⟩:=List.getElem?_of_mem ha
 rcases cI_cells (G:=G) (m:=m) h hi with ⟨v,rfl⟩|⟨z,rfl,hz⟩|⟨z,s,n,rfl,h1⟩
 ·rfl
 ·rcases cI_ptr h ha with ⟨_,_,rfl⟩|⟨_,_,rfl⟩|rfl<;>rfl
 ·rcases h1 with h1|rfl|rfl|rfl
  ·have h6:=hmI_spec h1
   rcases h6 with ⟨_,h⟩|⟨k,_,h⟩|⟨k,_,h⟩
   ·rcases h with ⟨_,rfl⟩|⟨_,rfl⟩|⟨_,rfl⟩|⟨_,rfl⟩|⟨_,rfl⟩<;>rfl
   ·rcases h with ⟨_,rfl⟩|⟨_,rfl⟩<;>rfl
   ·rcases h with ⟨_,rfl⟩|⟨_,rfl⟩|⟨_,rfl⟩<;>rfl
  ·rfl
  ·rfl
  ·rfl
theorem cI_fed (m:IM)(x:Option Int)(t:TI)(h:t≠.fed):cI G (m.wFed x) t=cI G m t:=by
 cases t<;>first|rfl|exact (h rfl).elim
open Classical in
theorem fed_rel {m:IM} {x:Int} {o0 o1 o2:LObj TI} (R:Rel B m [o0,o1,o2,⟨G.Y.int,1,true,some (.cells [.v (i64 x)])⟩] [] S w)
  (h0:∀o∈[o0,o1,o2],o.has qFed=false) (pk gk:List Nat):
  ∃S',Rel (D:=mdI G) ⟨S',w,m.wFed (some x),pk,gk⟩ (m.wFed (some x)) [o0,o1,o2] [] S' w∧(∀j,S'.loc (.loc j)=S.loc (.loc j))∧
   S'.loc (.m .fed)=S.loc (.loc 3)∧(∀t:TI,t≠.fed→S'.loc (.m t)=S.loc (.m t))∧∀b,(S'.own b=none↔S.own b=none):=by
 have h3':=R.H (.loc 3) ([AL.v (i64 x)].map (encL S)) rfl;have hf3:=h3'.fix rfl;obtain⟨ho3',pre4,post4,hb3,_⟩:=h3'.blk hf3.1;have ho3:S.own (S.loc (.loc 3)).b=some (.loc 3):=ho3';have hlt3:(S.loc (.loc 3)).b<w.heap.size:=(Array.getElem?_eq_some_iff.1 hb3).1
 have hown:∀b,((stoFed S (S.loc (.loc 3)).b).own b=none↔S.own b=none):=fun b=>by
  by_cases e:b=(S.loc (.loc 3)).b
  ·subst e;simp[stoFed,ho3]
  ·simp[stoFed,e]
 have hloc:=stoFed_loc S (S.loc (.loc 3)).b;refine⟨stoFed S (S.loc (.loc 3)).b,⟨?_,?_,Kp.refl _ _,?_,?_,fun _ _=>rfl,fun _ _ h=>h,rfl,fun _ _ _=>rfl⟩,fun j=>hloc _ rfl,if_pos rfl,fun t ht=>hloc _ (by cases t<;>first|rfl|exact (ht rfl).elim),hown⟩
 ·intro t cs ht
  have old:∀(t:Tg TI) (cs:List Value),qFed t=false→t≠.loc 3→HoldsAt (metaA (mdI G) [o0,o1,o2,⟨G.Y.int,1,true,some (.cells [.v (i64 x)])⟩]) S w.heap t cs→HoldsAt (metaA (mdI G) [o0,o1,o2,⟨G.Y.int,1,true,some (.cells [.v (i64 x)])⟩]) (stoFed S (S.loc (.loc 3)).b) w.heap t cs:=fun t cs h1 h2 H=>
   H.other (hloc _ h1) (fun b _ hb=>by
    have e1:b≠(S.loc (.loc 3)).b:=fun e=>by rw[e,ho3] at hb;injection hb with hb;exact h2 hb.symm
    simp[stoFed,e1,hb]) fun _ _ _=>rfl
  cases t with
  |loc j=>
   by_cases hj:j<3
   ·obtain⟨ob,hob⟩:∃ob,[o0,o1,o2][j]?=some ob:=⟨_,List.getElem?_eq_getElem (by simpa using hj)⟩
    have hget:[o0,o1,o2,(⟨G.Y.int,1,true,some (.cells [.v (i64 x)])⟩:LObj TI)][j]?=some ob:=by
     match j,hj,hob with
     |0,_,hob=>exact hob
     |1,_,hob=>exact hob
     |2,_,hob=>exact hob
    have hc:contA (D:=mdI G) (m.wFed (some x)) [] [o0,o1,o2] (.loc j)=ob.o.map LO.flat:=contA_loc hob
    have ht':(ob.o.map LO.flat).map (List.map (encL (stoFed S (S.loc (.loc 3)).b)))=some cs:=by rw[←hc];exact ht
    cases h:ob.o with
    |none=>rw[h] at ht';cases ht'
    |some o=>
     rw[h] at ht'
     injection ht' with ht'
     rw[←ht',flat_enc hloc (h0 ob (List.mem_of_getElem? hob)) h];have hH:=R.H (.loc j) (o.flat.map (encL S)) (congrArg (Option.map (List.map (encL S))) ((contA_loc (D:=mdI G) (st:=m) (dk:=[]) hget).trans (congrArg (Option.map LO.flat) h)));have:=old (.loc j) _ rfl (fun e=>by injection e with e;omega) hH
     match j,hj,this with
     |0,_,h=>exact⟨h.len,h.cap,h.pos,h.fix,h.nil,h.blk⟩
     |1,_,h=>exact⟨h.len,h.cap,h.pos,h.fix,h.nil,h.blk⟩
     |2,_,h=>exact⟨h.len,h.cap,h.pos,h.fix,h.nil,h.blk⟩
   ·match j,hj with
    |0,h=>exact absurd (by omega) h
    |1,h=>exact absurd (by omega) h
    |2,h=>exact absurd (by omega) h
    |j+3,_=>cases ht
  |m t=>
   have e:contA (D:=mdI G) (m.wFed (some x)) [] [o0,o1,o2] (.m t)=cI G (m.wFed (some x)) t:=by
    unfold contA;exact if_neg List.not_mem_nil
   have ht':(cI G (m.wFed (some x)) t).map (List.map (encL (stoFed S (S.loc (.loc 3)).b)))=some cs:=by rw[←e];exact ht
   by_cases hfed:t=.fed
   ·subst hfed
    injection ht' with ht'
    rw[←ht'];exact HoldsAt.moved h3' (if_pos rfl) (if_pos rfl) rfl rfl rfl
   ·rw[cI_fed m (some x) t hfed] at ht'
    cases hc:cI G m t with
    |none=>rw[hc] at ht';cases ht'
    |some as=>
     rw[hc] at ht'
     injection ht' with ht'
     have e3:as.map (encL (stoFed S (S.loc (.loc 3)).b))=as.map (encL S):=List.map_congr_left fun a ha=>encL_eq hloc (cI_noFed hc a ha)
     rw[←ht',e3]
     have hH:=R.H (.m t) (as.map (encL S)) (by
      have e4:contA (D:=mdI G) m [] [o0,o1,o2,⟨G.Y.int,1,true,some (.cells [.v (i64 x)])⟩] (.m t)=cI G m t:=by
       unfold contA;exact if_neg List.not_mem_nil
      show Option.map _ (contA (D:=mdI G) m [] [o0,o1,o2,⟨G.Y.int,1,true,some (.cells [.v (i64 x)])⟩] (.m t))=_
      rw[e4,hc];rfl)
     have:=old (.m t) _ (by cases t<;>first|rfl|exact (hfed rfl).elim) (fun e=>by cases e) hH;exact⟨this.len,this.cap,this.pos,this.fix,this.nil,this.blk⟩
 ·intro b hb
  exact (hown b).2 (R.fresh b hb)
 ·intro t cs ht
  have hr:=R.ro t cs ht;have hro:(mdI G).isro t=true:=(mdI_ok G).rois _ _ _ ht
  refine RoAt.moved hr (hloc _ (by cases t<;>first|rfl|cases hro)) (fun a ha=>?_) fun _ h1=>(hown _).2 h1
  have:=(mdI_ok G).rocell _ _ _ ht a ha
  cases a with
  |v x=>rfl
  |p z k s f=>exact this.elim
  |sl z k s n=>cases z with
   |loc j=>exact this.elim
   |m z=>exact encL_eq hloc (show qFed (.m z)=false by have h:(mdI G).isro z=true:=this;cases z<;>first|rfl|cases h)
 ·exact (mdI_ok G).exd _ S w _ (exI_wait (m:=m) rfl rfl S w R.ex) (fun b _=>hown b) fun t ht=>hloc _ (by cases t<;>first|rfl|cases ht)
end
end Go.Beat
end
