/-
  Texts joined by a program (shake.py), without what the claim does not use; printed walks among them (print.sh), and own ones.
-/
import Derived.Orders
import Derived.Tactics
import Derived.KernelRfl
section
namespace Go.Beat
open Go
section
variable {P:Program} {ops:Array Oper} {Q:Exit→Act→World→Prop} {md:Region.Mode}
def YieldsC (P:Program)(ops:Array Oper)(C:World→Prop)(o:Oper)(v:Value)(a:Act):Prop:=
 (Region.wanted o (yielded ops a.tmps)=true∧∀w,C w→(execOp a.eval o).run P w=.ok (.value v) w)∨
 (Region.wanted o (yielded ops a.tmps)=false∧v=undef)
theorem YieldsC.of_same {C:World→Prop}{o:Oper}{v:Value}{a a':Act}(hy:YieldsC P ops C o v a)(he:execOp a'.eval o=execOp a.eval o)(hw:Region.wanted o (yielded ops a'.tmps)=Region.wanted o (yielded ops a.tmps)):YieldsC P ops C o v a':=by
 unfold YieldsC at*;rw[he,hw];exact hy
theorem YieldsC.wpOp {C:World→Prop}{i:Nat}{o:Oper}{v:Value}{a:Act}(hi:ops[i]?=some o)(hy:YieldsC P ops C o v a){K:Act→World→Prop}{w:World}(hC:C w)(h:K (a.put o.dst v) w):wpOp P ops Q i K a w:=by
 unfold Go.wpOp;simp only[hi]
 rcases hy with ⟨hw,hv⟩|⟨hw,rfl⟩
 ·simp only[hw,if_true,Oper.wp,hv w hC,Oper.upon];exact .inl h
 ·simp only[hw,Bool.false_eq_true,if_false];exact h
theorem wpOp_putC {C:World→Prop}{j:Nat}{oi oj:Oper}{v:Value}(hj:ops[j]?=some oj)(hap:oi.apart ops oj=true)(hsi:∀cs b,oi.op≠.select cs b)(hsj:∀cs b,oj.op≠.select cs b)(hQ:∀c a w,Q (.panic c) (a.put oi.dst v) w→Q (.panic c) a w){K:Act→World→Prop}{a:Act}{w:World}(hy:YieldsC P ops C oi v a)(h:wpOp P ops Q j K (a.put oi.dst v) w):
  wpOp P ops Q j (fun a' w'=>YieldsC P ops C oi v a'∧K (a'.put oi.dst v) w') a w:=by
 obtain⟨h1,h2,h3⟩:=Oper.apart_spec hap
 have keep:∀(a:Act),YieldsC P ops C oi v a→∀u,YieldsC P ops C oi v (a.put oj.dst u):=fun a hy u=>
  hy.of_same (execOp_put oi hsi a oj.dst u h3) (wanted_put oi a oj.dst u h3)
 have keepD:∀d,YieldsC P ops C oi v {a with defers:=d::a.defers}:=fun d=>hy.of_same rfl rfl
 unfold wpOp at*;simp only[hj] at*;rw[wanted_put oj a oi.dst v h1] at h
 split
 ·rename_i hw
  simp only[hw,if_true] at h
  rcases h with h|⟨hasks,hlets⟩
  case inr=>exact .inr ⟨by unfold Oper.asks at*;rw[execOp_put oj hsj a oi.dst v h1] at hasks;exact hasks,hlets⟩
  refine .inl ?_
  unfold Oper.wp at*;rw[execOp_put oj hsj a oi.dst v h1] at h;generalize (execOp a.eval oj).run P w=r at*
  cases r with
  |ok n w'=>
   cases n<;>simp only[Oper.upon] at h ⊢
   case value u=>exact⟨keep a hy u,by rw[←Act.put_comm a v u h2];exact h⟩
   case skip=>exact⟨keep a hy _,by rw[←Act.put_comm a v undef h2];exact h⟩
   case defer d=>
    refine⟨keep _ (keepD d) _,?_⟩;rw[←Act.put_comm _ v undef h2,←Act.put_defers];exact h
   case enter f args=>
    refine Calls.mono h fun e w'' he=>?_
    cases e with
    |returned u=>exact⟨keep a hy u,by rw[←Act.put_comm a v u h2];exact he⟩
    |panicked c=>exact hQ _ _ _ he
    |outgrown=>exact he
   case row row args=>exact Rows.mono h fun u w'' he=>⟨keep a hy u,by rw[←Act.put_comm a v u h2];exact he⟩
  |halt x w'=>
   cases x<;>simp only[Oper.upon] at h ⊢
   case panic u=>exact hQ _ _ _ h
 ·rename_i hw
  simp only[hw] at h;exact⟨keep a hy _,by rw[←Act.put_comm a v undef h2];exact h⟩
def wpAnyD (P:Program)(md:Region.Mode)(ops:Array Oper)(Q:Exit→Act→World→Prop)(D:Nat→World→World→Prop):Nat→Array Bool→Act→World→Prop
 |0,listed,a,w=>Region.ready md ops listed=[]∧Q .normal a w
 |fuel+1,listed,a,w=>
  (Region.ready md ops listed=[]→Q .normal a w)∧
  ∀i∈Region.ready md ops listed,wpOp P ops Q i (fun a' w'=>D i w w'∧wpAnyD P md ops Q D fuel (listed.setIfInBounds i true) a' w') a w
theorem wpAny_of_D {D:Nat→World→World→Prop}:∀(fuel:Nat) (listed:Array Bool) (a:Act) (w:World),wpAnyD P md ops Q D fuel listed a w→wpAny P md ops Q fuel listed a w
 |0,_,_,_,h=>h
 |fuel+1,_,_,_,h=>⟨h.1,fun i hi=>wpOp_mono (fun a' w' hh=>wpAny_of_D fuel _ a' w' hh.2) (h.2 i hi)⟩
theorem wpAnyD_first {C:World→Prop}{D:Nat→World→World→Prop}{i:Nat}{oi:Oper}{v:Value}(hi:ops[i]?=some oi)(hsel:∀(j:Nat) (o:Oper) cs b,ops[j]?=some o→o.op≠.select cs b)(hQ:∀c a w,Q (.panic c) (a.put oi.dst v) w→Q (.panic c) a w)(Inv:Array Bool→Prop)(hInv:∀listed j,Inv listed→j∈Region.ready md ops listed→j≠i→Inv (listed.setIfInBounds j true)∧∀w w',C w→D j w w'→C w')(hDi:∀w,C w→D i w w):
  ∀(fuel:Nat) (listed:Array Bool) (a:Act) (w:World),
   (∀j oj,ops[j]?=some oj→j≠i→listed.getD j true=false→(∀e∈oj.after,Region.binds md e=true→e.on≠i)→oi.apart ops oj=true)→
   i∈Region.ready md ops listed→Inv listed→C w→YieldsC P ops C oi v a→
   wpAnyD P md ops Q D fuel (listed.setIfInBounds i true) (a.put oi.dst v) w→wpAnyD P md ops Q D (fuel+1) listed a w:=by
 intro fuel
 induction fuel with
 |zero=>
  intro listed a w _ hr _ hC hy H;refine⟨fun h=>(by rw[h] at hr;cases hr),fun j hj=>?_⟩
  by_cases hji:j=i
  ·subst hji;exact hy.wpOp hi hC ⟨hDi _ hC,H⟩
  ·have:=ready_mono hj hji
   rw[H.1] at this
   cases this
 |succ fuel ih=>
  intro listed a w hfree hr hinv hC hy H;refine⟨fun h=>(by rw[h] at hr;cases hr),fun j hj=>?_⟩
  by_cases hji:j=i
  ·subst hji;exact hy.wpOp hi hC ⟨hDi _ hC,H⟩
  ·have h1:=H.2 j (ready_mono hj hji)
   obtain⟨hjun,oj,hoj,hall⟩:=mem_ready.1 hj
   have hnot:∀e∈oj.after,Region.binds md e=true→e.on≠i:=fun e he hb heq=>by
    have h1:=hall e he hb;have h0:=(mem_ready.1 hr).1;rw[heq] at h1
    rcases Nat.lt_or_ge i listed.size with h'|h'
    ·simp[h'] at h0 h1;rw[h0] at h1;cases h1
    ·simp[Array.getElem?_eq_none h'] at h1
   obtain⟨hinv',hkeep⟩:=hInv listed j hinv hj hji;have h2:=wpOp_putC hoj (hfree j oj hoj hji hjun hnot) (fun cs b=>hsel i oi cs b hi) (fun cs b=>hsel j oj cs b hoj) hQ hy h1
   have hfree':∀k ok,ops[k]?=some ok→k≠i→(listed.setIfInBounds j true).getD k true=false→
     (∀e∈ok.after,Region.binds md e=true→e.on≠i)→oi.apart ops ok=true:=fun k ok hk hki hun hno=>by
    refine hfree k ok hk hki ?_ hno
    by_cases hjk:j=k
    ·subst hjk;exact hjun
    ·rw[getD_set_ne true hjk] at hun;exact hun
   refine wpOp_mono (fun a' w' h3=>⟨h3.2.1,ih (listed.setIfInBounds j true) a' w' hfree' (ready_mono hr (Ne.symm hji)) hinv' (hkeep _ _ hC h3.2.1) h3.1 ?_⟩) h2
   have h4:=h3.2.2;rw[Array.setIfInBounds_comm _ _ hji];exact h4
def closure (md:Region.Mode)(ops:Array Oper)(i:Nat):Nat→Array Bool→Array Bool
 |0,listed=>listed
 |fuel+1,listed=>
  match (Region.ready md ops listed).find? (· !=i) with
  |none=>listed
  |some j=>closure md ops i fuel (listed.setIfInBounds j true)
def schB (md:Region.Mode)(ops:Array Oper)(σ:List (Nat×Nat))(p:Nat):List (Nat×Nat)→Array Bool→Nat→Bool
 |[],listed,_=>(Region.ready md ops listed).isEmpty
 |(i,kind)::rest,listed,k=>
  (match kind with
   |0=>Region.ready md ops listed==[i]&&!(σ.any fun x=>x.1==i&&x.2 !=0)&&(decide (k<p)||!((σ.take p).any fun x=>x.1==i))
   |1=>(Region.ready md ops listed).contains i&&Region.free md ops listed i
   |_=>(Region.ready md ops listed).contains i&&Region.free md ops listed i&&(let R:=closure md ops i ops.size listed
    (Region.ready md ops R).all (·==i)&&R.size==listed.size&&
    (List.range listed.size).all (fun j=>!listed.getD j false||R.getD j false)&&
    (List.range listed.size).all (fun j=>!R.getD j false||listed.getD j false||(σ.any fun x=>x.1==j&&x.2 !=0)||((σ.take p).any fun x=>x.1==j))))&&
  schB md ops σ p rest (listed.setIfInBounds i true) (k+1)
def duty (C:World→Prop)(σ:List (Nat×Nat))(p:Nat)(j:Nat)(w w':World):Prop:=
 (σ.any (fun x=>x.1==j&&x.2 !=0)=true→w'=w)∧((σ.take p).any (fun x=>x.1==j)=true→C w→C w')
def wpSch (P:Program)(ops:Array Oper)(C:World→Prop)(Q:Exit→Act→World→Prop)(p:Nat):Nat→List (Nat×Nat)→Act→World→Prop
 |_,[],a,w=>Q .normal a w
 |k,(i,kind)::rest,a,w=>
  match ops[i]? with
  |none=>False
  |some o=>
   match kind with
   |0=>if Region.wanted o (yielded ops a.tmps) then (o.wp P a w (fun a' w'=>(k<p→C w')∧wpSch P ops C Q p (k+1) rest a' w') Q)∨(o.asks P a w∧LetsOut Q)
    else (k<p→C w)∧wpSch P ops C Q p (k+1) rest (a.put o.dst undef) w
   |1=>∃v,YieldsC P ops (fun _=>True) o v a∧wpSch P ops C Q p (k+1) rest (a.put o.dst v) w
   |_=>C w∧∃v,YieldsC P ops C o v a∧wpSch P ops C Q p (k+1) rest (a.put o.dst v) w
theorem range_all {n:Nat}{f:Nat→Bool}(h:(List.range n).all f=true){j:Nat}(hj:j<n):f j=true:=List.all_eq_true.1 h j (List.mem_range.2 hj)
theorem wpAnyD_sch {C:World→Prop}(σ:List (Nat×Nat))(p:Nat)(hsel:Region.noSelect ops=true)(hQ:∀c (d:Option Tmp) v a w,Q (.panic c) (a.put d v) w→Q (.panic c) a w):∀(rest:List (Nat×Nat)) (listed:Array Bool) (k:Nat) (a:Act) (w:World),
   schB md ops σ p rest listed k=true→(∀x∈rest,x∈σ)→wpSch P ops C Q p k rest a w→wpAnyD P md ops Q (duty C σ p) rest.length listed a w
 |[],listed,k,a,w,hB,_,h=>⟨by simpa [schB] using hB,h⟩
 |(i,kind)::rest,listed,k,a,w,hB,hmem,h=>by
  have hlight:∀n,kind=n+1→σ.any (fun x=>x.1==i&&x.2 !=0)=true:=fun n hk=>by
   rw[List.any_eq_true];exact⟨(i,kind),hmem _ (List.mem_cons_self ..),by simp[hk]⟩
  simp only[schB,Bool.and_eq_true] at hB;obtain⟨hB1,hB2⟩:=hB;have ih:=wpAnyD_sch (C:=C) σ p hsel hQ rest (listed.setIfInBounds i true) (k+1)
  have hmem':∀x∈rest,x∈σ:=fun x hx=>hmem x (List.mem_cons_of_mem _ hx)
  cases hoi:ops[i]? with
  |none=>simp only[wpSch,hoi] at h
  |some o=>
   simp only[wpSch,hoi] at h
   match kind,hB1,h,hlight with
   |0,hB1,h,_=>
    simp only[Bool.and_eq_true,beq_iff_eq,Bool.not_eq_true',Bool.or_eq_true,decide_eq_true_eq] at hB1;obtain⟨⟨hr,hh⟩,hp⟩:=hB1
    have hduty:∀w',(k<p→C w')→duty C σ p i w w':=fun w' hw'=>
     ⟨fun hx=>(by rw[hh] at hx;cases hx),fun hx _=>hw' (by
      rcases hp with hp|hp
      ·exact hp
      ·rw[hp] at hx;cases hx)⟩
    refine⟨fun h0=>(by rw[h0] at hr;cases hr),fun j hj=>?_⟩;rw[hr] at hj
    have hji:j=i:=by simpa using hj
    subst hji;unfold wpOp;simp only[hoi]
    by_cases hw:Region.wanted o (yielded ops a.tmps)=true
    ·rw[if_pos hw] at h ⊢
     exact h.imp (Oper.wp_mono fun a' w' hh=>⟨hduty w' hh.1,ih a' w' hB2 hmem' hh.2⟩) id
    ·rw[if_neg hw] at h ⊢
     exact⟨hduty w h.1,ih _ w hB2 hmem' h.2⟩
   |1,hB1,h,hlight=>
    simp only[Bool.and_eq_true] at hB1;obtain⟨hr,hf⟩:=hB1;obtain⟨v,hy,hrest⟩:=h
    refine wpAnyD_first (C:=fun _=>True) hoi (Region.noSelect_spec hsel) (fun c a w=>hQ c _ v a w) (fun _=>True) (fun _ _ _ _ _=>⟨trivial,fun _ _ _ _=>trivial⟩) ?_ _ listed a w (Region.free_spec hoi hf) (by simpa using hr) trivial trivial hy (ih _ _ hB2 hmem' hrest)
    exact fun w _=>⟨fun _=>rfl,fun _ h=>h⟩
   |n+2,hB1,h,hlight=>
    simp only[Bool.and_eq_true] at hB1;obtain⟨⟨hr,hf⟩,⟨⟨hcl,hsz⟩,hsub⟩,hkeep⟩:=hB1;obtain⟨hC,v,hy,hrest⟩:=h;generalize closure md ops i ops.size listed=R at hcl hsz hsub hkeep
    have hsz':R.size=listed.size:=by simpa using hsz
    have hsub':∀j,listed.getD j false=true→R.getD j false=true:=fun j hj=>by
     have hlt:j<listed.size:=by
      rcases Nat.lt_or_ge j listed.size with h'|h'
      ·exact h'
      ·simp[Array.getElem?_eq_none h'] at hj
     have:=range_all hsub hlt;rw[hj] at this
     simpa using this
    have hcl':∀j∈Region.ready md ops R,j=i:=fun j hj=>by simpa using List.all_eq_true.1 hcl j hj
    refine wpAnyD_first (C:=C) hoi (Region.noSelect_spec hsel) (fun c a w=>hQ c _ v a w) (fun l=>l.size=listed.size∧(∀j,listed.getD j false=true→l.getD j false=true)∧∀j,l.getD j false=true→R.getD j false=true) ?_ ?_ _ listed a w (Region.free_spec hoi hf) (by simpa using hr) ⟨rfl,fun _ h=>h,hsub'⟩ hC hy (ih _ _ hB2 hmem' hrest)
    ·rintro l j ⟨h1,h2,h3⟩ hj hji
     obtain⟨hun,oj,hoj,hall⟩:=mem_ready.1 hj
     have hlt:j<l.size:=by
      rcases Nat.lt_or_ge j l.size with h'|h'
      ·exact h'
      ·simp[Array.getElem?_eq_none h'] at hun
     have hjR:R.getD j false=true:=by
      cases hRj:R.getD j false with
      |true=>rfl
      |false=>
       have hlt':j<R.size:=by omega
       have hR':R.getD j true=false:=by
        simp[hlt'] at hRj ⊢;exact hRj
       exact absurd (hcl' j (mem_ready.2 ⟨hR',oj,hoj,fun e he hb=>h3 _ (hall e he hb)⟩)) hji
     refine⟨⟨by simpa using h1,fun m hm=>getD_set_true (h2 m hm),fun m hm=>?_⟩,?_⟩
     ·by_cases hjm:j=m
      ·subst hjm;exact hjR
      ·rw[getD_set_ne false hjm] at hm;exact h3 m hm
     ·intro w1 w2 hC1 hd
      have hk:=range_all hkeep (show j<listed.size by omega)
      have hlj:listed.getD j false=false:=by
       cases hl:listed.getD j false with
       |false=>rfl
       |true=>
        have:=h2 j hl;simp[hlt] at this hun;rw[this] at hun
        cases hun
      rw[hjR,hlj] at hk;simp only[Bool.not_true,Bool.false_or,Bool.or_eq_true] at hk
      rcases hk with hk|hk
      ·rw[hd.1 hk];exact hC1
      ·exact hd.2 hk hC1
    ·exact fun w hw=>⟨fun _=>rfl,fun _ h=>h⟩
theorem wp_region_sch {C:World→Prop}{id:Nat}{a:Act}{w:World}(σ:List (Nat×Nat))(p:Nat)(hm:P.follows .mixedOrders=true)(hB:(Region.noSelect ops&&σ.length==ops.size&&schB .any ops σ p σ (Array.replicate ops.size false) 0)=true)(hQ:∀c (d:Option Tmp) v a w,Q (.panic c) (a.put d v) w→Q (.panic c) a w)(h:wpSch P ops C Q p 0 σ a {w with drawn:=w.drawn+1}):(Code.region id ops true).wp P Q a w:=by
 simp only[Bool.and_eq_true,beq_iff_eq] at hB;obtain⟨⟨hsel,hlen⟩,hB⟩:=hB
 refine wp_region_any hm (wpAny_of_D (D:=duty C σ p) _ _ _ _ ?_)
 have:=wpAnyD_sch (md:=.any) σ p hsel hQ σ (Array.replicate ops.size false) 0 a _ hB (fun _ h=>h) h
 rwa [hlen] at this
end
end Go.Beat
end
