/-
  Texts joined by a program (shake.py), without what the claim does not use; printed walks among them (print.sh), and own ones.
-/
import Derived.Test.YtejjedooecephaaSleep2
section
namespace Go.Proofs.YtejjedooecephaaW.PrintWords
open Go.RowKit
namespace Kd
def Z {α:Type}(d:Kd α)(e:Nat)(w:World)(base:Nat)(ok:Nat→Prop)(v:Value)(xs:List α):Prop:=
 (∀k,v.ownBlock=some k→ok k∧base≤k∧k<w.heap.size∧∃cells,w.heap[k]?=some (.cells cells e (0,0)))∧∃A c,v=.slice A xs.length c∧xs.length≤c∧∀w1:World,(∀k,v.ownBlock=some k→w1.heap[k]?=w.heap[k]?)→d.C w1 A xs.length xs
section
variable {α β:Type} {d:Kd α} {d':Kd β} {e e':Nat} {w w1 W:World} {base b:Nat} {ok ok' okv:Nat→Prop} {v u:Value} {xs:List α} {ys:List β}
theorem Z_mono (h:d.Z e w base ok v xs)(hok:∀k,ok k→ok' k):d.Z e w base ok' v xs:=⟨fun k hk=>⟨hok k (h.1 k hk).1,(h.1 k hk).2⟩,h.2⟩
theorem Z_bound (h:d.Z e w base ok v xs):d.Z e w base (fun k=>ok k∧base≤k∧k<w.heap.size∧∃q,q∈e::d.E∧∃cells,w.heap[k]?=some (.cells cells q (0,0))) v xs:=
 ⟨fun k hk=>by
  obtain⟨h1,h2,h3,h4⟩:=h.1 k hk
  exact⟨⟨h1,h2,h3,e,List.mem_cons_self,h4⟩,h2,h3,h4⟩,h.2⟩
theorem Z_step (h:d.Z e w base ok v xs)(hm:∀k,ok k→k<w.heap.size→w1.heap[k]?=w.heap[k]?):d.Z e w1 base ok v xs:=by
 have hb:∀k,v.ownBlock=some k→w1.heap[k]?=w.heap[k]?:=fun k hk=>hm k (h.1 k hk).1 (h.1 k hk).2.2.1
 refine⟨fun k hk=>?_,?_⟩
 ·obtain⟨h1,h2,h3,cells,h4⟩:=h.1 k hk
  have h5:=(hb k hk).trans h4;exact⟨h1,h2,(Array.getElem?_eq_some_iff.1 h5).1,cells,h5⟩
 ·obtain⟨A,c,h1,h2,h3⟩:=h.2
  exact⟨A,c,h1,h2,fun w2 h4=>h3 w2 fun k hk=>(h4 k hk).trans (hb k hk)⟩
theorem Z_move (h:d.Z e w base ok v xs)(hm:∀k,ok k→w1.heap[k]?=w.heap[k]?):d.Z e w1 base ok v xs:=Z_step h fun k hk _=>hm k hk
theorem Z_lower {base':Nat}(h:d.Z e w base ok v xs)(hb:base'≤base):d.Z e w base' ok v xs:=⟨fun k hk=>⟨(h.1 k hk).1,Nat.le_trans hb (h.1 k hk).2.1,(h.1 k hk).2.2⟩,h.2⟩
theorem Z_below (h:d.Z e w base ok v xs)(hb:Below w.heap.size w w1):d.Z e w1 base ok v xs:=Z_step h (fun k _ hk=>hb.block k hk)
theorem Z_alloc (h:d.Z e w base ok v xs)(o:Obj):d.Z e (w.alloc o) base ok v xs:=Z_below h (below_alloc (Below.refl _ _) o)
theorem Z_drew (h:d.Z e w base ok v xs):d.Z e w.drew base ok v xs:=Z_below h (below_drew (Below.refl _ _))
theorem Z_drewN (h:d.Z e w base ok v xs)(m:Nat):d.Z e (w.drewN m) base ok v xs:=Z_below h (pw_below_drewN (Below.refl _ _) m)
theorem Z_far (h:d.Z e w base ok v xs){p:Addr}(hok:∀k,ok k→k≠p.block)(u:Value):d.Z e (w.setCell p u) base ok v xs:=Z_step h (fun k ho _=>Below.heap_setCell w p u k (hok k ho))
theorem Z_types (h:d.Z e w base ok v xs){g t:Nat}{cells:Array Value}(hb:w.heap[g]?=some (.cells cells t (0,0)))(ht:∀q,q∈e::d.E→q≠t):d.Z e w base (fun k=>ok k∧k≠g) v xs:=
 Z_mono (Z_bound h) (fun k hk=>⟨hk.1,by
  obtain⟨_,_,_,q,hq,cells',hc⟩:=hk;rintro rfl;rw[hc] at hb
  injection hb with hb
  injection hb with _ hb
  exact ht q hq hb⟩)
theorem Z_slice (h:d.Z e w base ok v xs):∃A c,v=.slice A xs.length c:=by
 obtain⟨A,c,h1,_⟩:=h.2;exact⟨A,c,h1⟩
theorem Z_reads (h:d.Z e w base ok v xs):∃A c,v=.slice A xs.length c∧xs.length≤c∧d.C w A xs.length xs:=by
 obtain⟨A,c,h1,h2,h3⟩:=h.2;exact⟨A,c,h1,h2,h3 w fun _ _=>rfl⟩
theorem Z_reads' {A:Option Addr}{n c:Nat}(h:d.Z e w base ok (.slice A n c) xs):n=xs.length∧n≤c∧d.C w A xs.length xs:=by
 obtain⟨A',c',he,hl,hc⟩:=Z_reads h
 injection he with h1 h2 h3
 subst h1;subst h2;subst h3
 exact⟨rfl,hl,hc⟩
theorem Z_base (h:d.Z e w base ok v xs):∀k,v.ownBlock=some k→base≤k:=fun k hk=>(h.1 k hk).2.1
theorem Z_new' (h:d.Z e w1 W.heap.size ok v xs)(hlt:∀k,u.ownBlock=some k→k<W.heap.size):d.Z e w1 W.heap.size (fun k=>ok k∧some k≠u.ownBlock) v xs:=
 Z_mono (Z_bound h) (fun k hk=>⟨hk.1,fun he=>by have:=hlt k he.symm;have:=hk.2.1;omega⟩)
theorem Z_over' (h:d.Z e W base ok u xs)(hty:∀k,v.ownBlock=some k→∃cells,W.heap[k]?=some (.cells cells e' (0,0)))(ht:∀q,q∈e::d.E→q≠e')(hg:W.grownBy w1 v.ownBlock):d.Z e w1 base ok u xs:=by
 refine Z_mono (Z_move (Z_bound h) (fun k hk=>hg.block k hk.2.2.1 (fun he=>?_))) (fun _ hk=>hk.1)
 obtain⟨_,_,_,q,hq,cells,hc⟩:=hk;obtain⟨cells',hc'⟩:=hty k he.symm;rw[hc] at hc'
 injection hc' with hc'
 injection hc' with _ hc'
 exact ht q hq hc'
theorem addr_add_block (a:Addr)(n:Nat):(a.add n).block=a.block:=by
 unfold Addr.add
 split
 ·rfl
 ·rfl
end
end Kd
end Go.Proofs.YtejjedooecephaaW.PrintWords
end
