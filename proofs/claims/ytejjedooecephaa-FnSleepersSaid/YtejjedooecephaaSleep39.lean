/-
  Texts joined by a program (shake.py), without what the claim does not use; printed walks among them (print.sh), and own ones.
-/
import Derived.Test.YtejjedooecephaaSleep5
import Derived.Test.YtejjedooecephaaSleep38
section
namespace Go.Proofs.Ytejjedooecephaa.PFnSleepers
open Go.RowKit Go.Proofs.YtejjedooecephaaW.PrintWords Go.Proofs.YtejjedooecephaaW.PrintLast Go.Proofs.YtejjedooecephaaW.PrintMore
attribute [local go_sem] max2_int min2_int max_two min_two max_three min_three max_four min_four -- for this text's walks alone
set_option linter.unusedVariables false
set_option linter.unusedSimpArgs false
mutual
def laws_FnSleepers.l0:Nat→List Int→Int→List Int→Int→Int→Option (Bool)
 |0,_,_,_,_,_=>none
 |k+1,x0,x3,x4,x21,x22=>if x22<x21 then ((laws_wByte.f x0 (wrap64 (x22+1))).bind fun t155=>(if 0≤x22 then (if x22<(x4.length:Int) then (laws_FnSleepers.l0 k x0 x3 (x4.set (x22:Int).toNat (Int.tmod t155 10)) x21 (wrap64 (x22+1))) else (none)) else (none))) else ((spec_MadeSleepers.f k x4).bind fun bt157=>((impl_RunPlan.f k bt157.1 bt157.2.1 bt157.2.2 ([]:List (S74)) 1000 100).bind fun bt164=>(laws_FnSleepers.l1 k x3 x4 ([]:List Int) 0 0 bt164.1 bt164.2.1 bt164.2.2.1 bt164.2.2.2.1 bt164.2.2.2.2)))
def laws_FnSleepers.l1:Nat→Int→List Int→List Int→Int→Int→Int→List (S72)→Int→Int→List Int→Option (Bool)
 |0,_,_,_,_,_,_,_,_,_,_=>none
 |k+1,x3,x4,x7,x8,x9,x174000,x174001,x174002,x174003,x174004=>if x9<10 then (laws_FnSleepers.l2 k x3 x4 x7 x8 x9 (x4.length:Int) 0 x174000 x174001 x174002 x174003 x174004) else (if x174000=0 then ((laws_wSays.f k x174000 x174001 x174002 x174003 x174004).bind fun t174=>((laws_wNums.f k t174 x7).bind fun t177=>(if t177=true then (if x174002=x8 then (some ((x174004.length:Int)==(wrap64 (x3+1)))) else (some false)) else (some false)))) else (some false))
def laws_FnSleepers.l2:Nat→Int→List Int→List Int→Int→Int→Int→Int→Int→List (S72)→Int→Int→List Int→Option (Bool)
 |0,_,_,_,_,_,_,_,_,_,_,_,_=>none
 |k+1,x3,x4,x7,x8,x9,x43,x44,x174000,x174001,x174002,x174003,x174004=>if x44<x43 then (if 0≤x44 then (if x44<(x4.length:Int) then (if (rd x4 x44)=x9 then (if x7.length<17592186044416 then (laws_FnSleepers.l2 k x3 x4 (x7++[x44]) x9 x9 x43 (wrap64 (x44+1)) x174000 x174001 x174002 x174003 x174004) else (none)) else (laws_FnSleepers.l2 k x3 x4 x7 x8 x9 x43 (wrap64 (x44+1)) x174000 x174001 x174002 x174003 x174004)) else (none)) else (none)) else (laws_FnSleepers.l1 k x3 x4 x7 x8 (wrap64 (x9+1)) x174000 x174001 x174002 x174003 x174004)
end
def laws_FnSleepers.f (k:Nat)(l0:List Int):Option (Bool):=if (l0.length:Int)>1048576 then (some true) else ((laws_wByte.f l0 0).bind fun t151=>(if 0≤(wrap64 (1+(Int.tmod t151 19))) then (if (wrap64 (1+(Int.tmod t151 19)):Int).toNat≤35184372088832 then ((some (List.replicate (wrap64 (1+(Int.tmod t151 19)):Int).toNat 0:List Int)).bind fun y152=>(laws_FnSleepers.l0 k l0 (wrap64 (1+(Int.tmod t151 19))) y152 (y152.length:Int) 0)) else (none)) else (none)))
set_option maxHeartbeats 8000000 in
set_option maxRecDepth 100000 in
theorem laws_FnSleepers.calls (k:Nat) (A0:Option Addr) (c0:Nat) (l0:List Int) (w:World) (hr0:Kd.C (Kd.int .u8) w A0 l0.length l0) (hc0:l0.length≤c0) (h:laws_FnSleepers.f k l0=some true):
  Calls Try.prog 6 #[.slice A0 l0.length c0] w fun e w'=>e=.returned (.bool true)∧Below w.heap.size w w':=by
 have hu39:=Try.underlying39;have hu53:=Try.underlying53;have HR0:=Aside0.mk hr0;have HC0:=Aside0.mk hc0;clear hr0 hc0;have HB:=Aside0.mk (Below.refl w.heap.size w);have H:(if (l0.length:Int)>1048576 then (some true) else ((laws_wByte.f l0 0).bind fun t151=>(if 0≤(wrap64 (1+(Int.tmod t151 19))) then (if (wrap64 (1+(Int.tmod t151 19)):Int).toNat≤35184372088832 then ((some (List.replicate (wrap64 (1+(Int.tmod t151 19)):Int).toNat 0:List Int)).bind fun y152=>(laws_FnSleepers.l0 k l0 (wrap64 (1+(Int.tmod t151 19))) y152 (y152.length:Int) 0)) else (none)) else (none))))=some true:=h;clear h
 by_cases c2:(l0.length:Int)>1048576
 ·rw[if_pos c2] at H
  have c2b0:decide (1048576<(l0.length:Int))=true:=decide_eq_true c2;have c2b1:decide (1048576<l0.length)=true:=decide_eq_true (by omega);clear c2
  try have HR_:=Option.some.inj H
  clear H
  go_enter Try.func6,Try.ntmps6
  go_wp2
  go_ret
  exact⟨by first|rfl|(rw[HR_])|(simp[errW_none,errW_some]<;>rfl)|(simp[*,errW_none,errW_some]<;>rfl),by repeat (first|(with_reducible first|exact HB.out|apply below_alloc|apply pw_below_drewN|apply below_drew1)|exact HB.out)⟩
 ·rw[if_neg c2] at H
  have c2b0:decide (1048576<(l0.length:Int))=false:=decide_eq_false c2;have c2b1:decide (1048576<l0.length)=false:=decide_eq_false (by omega);clear c2;replace H:=Option.bind_eq_some_iff.mp H;obtain⟨t151,A30,H⟩:=H;replace H:(if 0≤(wrap64 (1+(Int.tmod t151 19))) then (if (wrap64 (1+(Int.tmod t151 19)):Int).toNat≤35184372088832 then ((some (List.replicate (wrap64 (1+(Int.tmod t151 19)):Int).toNat 0:List Int)).bind fun y152=>(laws_FnSleepers.l0 k l0 (wrap64 (1+(Int.tmod t151 19))) y152 (y152.length:Int) 0)) else (none)) else (none))=some true:=H;have A3:=Aside0.mk A30;clear A30;obtain⟨ji4,hji4⟩:∃j_:Int,(wrap64 (1+(Int.tmod t151 19)))=j_:=⟨_,rfl⟩
  replace H:(if 0≤(ji4) then (if (ji4:Int).toNat≤35184372088832 then ((some (List.replicate (ji4:Int).toNat 0:List Int)).bind fun y152=>(laws_FnSleepers.l0 k l0 ji4 y152 (y152.length:Int) 0)) else (none)) else (none))=some true:=by first|(rw[hji4] at H;exact H)|(simp only[hji4] at H ⊢;exact H)
  (try rw[hji4] at A3)
  have hji4w:(IntKind.i64.wrap (1+(Int.tmod t151 19)))=ji4:=(i64_w _).trans hji4
  by_cases c5:0≤(ji4)
  ·rw[if_pos c5] at H
   have c5b0:=eq_true c5;have c5b1:decide (0≤(ji4))=true:=decide_eq_true c5;clear c5
   by_cases c6:(ji4:Int).toNat≤35184372088832
   ·rw[if_pos c6] at H
    have c6b0:=eq_true c6;have c6b1:decide ((ji4:Int).toNat≤35184372088832)=true:=decide_eq_true c6;clear c6;obtain⟨y152,hy152⟩:∃y_:List Int,y_=(List.replicate (ji4:Int).toNat 0):=⟨_,rfl⟩
    replace H:(laws_FnSleepers.l0 k l0 ji4 y152 (y152.length:Int) 0)=some true:=by first|(rw[hy152];with_reducible exact H)|(have H2_:=(Option.bind_some _ _).symm.trans H;rw[hy152];with_reducible exact H2_)|(have H2_:=(Option.bind_some _ _).symm.trans H;with_reducible exact H2_)|with_reducible exact H|(rw[hy152];exact H)|exact H
    have Ny152:=Aside0.mk hy152;clear hy152;have H':=Aside0.mk H;clear H
    go_enter Try.func6,Try.ntmps6
    go_wp2_with (first|((with_reducible refine gate_callee (f:=26) rfl ?_);refine goesL_ (some 15) rfl rfl Try.func26 (by kernel_rfl) rfl #[.slice A0 l0.length c0,.int .i64 0] rfl (by (try simp only[List.map_toArray,List.map_cons,List.map_nil]);first|done|rfl|(simp only[List.length_drop,List.length_take];rfl)) ?_;(with_reducible refine (laws_wByte.calls _ _ l0 0 t151 _ ?side1 ?side2 A3.out).mono ?_);(case side1=>repeat (first|exact HR0.out|(with_reducible refine Kd.C_alloc ?_ _)|(with_reducible refine Kd.C_drewN ?_ _)|(with_reducible refine Kd.C_drew ?_)));(case side2=>exact HC0.out);rintro e w' ⟨rfl,⟨nd,rfl⟩⟩;refine⟨_,rfl,?_⟩)|((with_reducible refine gate_dst (N:=19) rfl ?_);(try (refine gate_guard (by rfl) ?_;dsimp only));refine Kd.R_make (Kd.int .i64) _ 3 rfl (N:=19) rfl 24 _ _ rfl ji4 rfl rfl Try.underlying24 (.int .i64 0) 8 info3 rfl (by decide) (by omega) 0 (ok:=fun _=>True) (okp:=fun _=>True) rfl (fun _ hk=>hk) trivial (of_decide_eq_true (by first|(with_reducible assumption)|assumption)) (Nat.le_trans (Nat.mul_le_mul_right _ (of_decide_eq_true (by first|(with_reducible assumption)|assumption):ji4.toNat≤35184372088832)) (by omega)) (Below.refl _ _) (Nat.le_refl _) ?_;intro v153 w7 ho8 hb hg_ hnew_;clear hg_ hnew_;(first|rw [←Ny152.out] at ho8|(simp only[Int.reduceToNat] at ho8;rw[←Ny152.out] at ho8));have n0_:=Aside0.mk (Kd.R_lower ho8 (below_size (by repeat (first|(with_reducible first|exact HB.out|apply below_alloc|apply pw_below_drewN|apply below_drew1)|exact HB.out))));have n1_:=Aside0.mk (below_step (by repeat (first|(with_reducible first|exact HB.out|apply below_alloc|apply pw_below_drewN|apply below_drew1)|exact HB.out)) hb);clear HB;have HO154:=n0_;have HB:=n1_;clear n0_ n1_;clear hb ho8;obtain⟨Ao9,co9,eo9⟩:=Kd.R_slice HO154.out;subst eo9))
    go_loopg [22] k (fun kq v22 w'=>∃(x4_1:List Int) (x22_1:Int),v22=.int .i64 x22_1∧Aside0 (laws_FnSleepers.l0 kq l0 ji4 x4_1 (y152.length:Int) x22_1=some true)∧Aside0 (kq≤k)∧Aside0 (Kd.R (Kd.int .i64) 3 w' w.heap.size (fun _=>True) (.slice Ao9 y152.length co9) x4_1)∧Aside0 (Below w.heap.size w w'))
    case atStart=>exact⟨(y152),(0),(by first|rfl|(simp;done)|(simp[*];done)),H',⟨Nat.le_refl _⟩,⟨by (with_reducible repeat (first|apply Kd.R_alloc|apply Kd.R_drewN|apply Kd.R_drew));exact HO154.out⟩,⟨by repeat (first|(with_reducible first|exact HB.out|apply below_alloc|apply pw_below_drewN|apply below_drew1)|exact HB.out)⟩⟩
    case round=>
     clear H'
     try clear c2
     try clear c2b0
     try clear c2b1
     try clear p2
     try clear c5
     try clear c5b0
     try clear c5b1
     try clear c6
     try clear c6b0
     try clear c6b1
     try clear p6
     obtain⟨x4_1,x22_1,rfl,HA,HK1,HO_4,HB⟩:=hrel;have hl4_1:=(Kd.R_reads' HO_4.out).1;rw[hl4_1] at HO_4
     (try simp only[hl4_1])
     cases gk with
     |zero=>exact absurd HA.out (by simp[laws_FnSleepers.l0])
     |succ k1=>
      have H:=HA.out;clear HA;simp only[laws_FnSleepers.l0] at H
      by_cases c10:x22_1<(y152.length:Int)
      ·rw[if_pos c10] at H
       have c10b0:decide (x22_1<(y152.length:Int))=true:=decide_eq_true c10;clear c10;replace H:=Option.bind_eq_some_iff.mp H;obtain⟨t155,A110,H⟩:=H;replace H:(if 0≤x22_1 then (if x22_1<(x4_1.length:Int) then (laws_FnSleepers.l0 k1 l0 ji4 (x4_1.set (x22_1:Int).toNat (Int.tmod t155 10)) (y152.length:Int) (wrap64 (x22_1+1))) else (none)) else (none))=some true:=H;have A11:=Aside0.mk A110;clear A110
       by_cases c12:0≤x22_1
       ·rw[if_pos c12] at H
        have c12b0:decide (0≤x22_1)=true:=decide_eq_true c12;clear c12
        by_cases c13:x22_1<(x4_1.length:Int)
        ·rw[if_pos c13] at H
         have c13b0:decide (x22_1<(x4_1.length:Int))=true:=decide_eq_true c13;clear c13;obtain⟨y156,hy156⟩:∃y_:List Int,y_=(x4_1.set (x22_1:Int).toNat (Int.tmod t155 10)):=⟨_,rfl⟩
         replace H:(laws_FnSleepers.l0 k1 l0 ji4 y156 (y152.length:Int) (wrap64 (x22_1+1)))=some true:=by first|(rw[hy156];with_reducible exact H)|(have H2_:=(Option.bind_some _ _).symm.trans H;rw[hy156];with_reducible exact H2_)|(have H2_:=(Option.bind_some _ _).symm.trans H;with_reducible exact H2_)|with_reducible exact H|(rw[hy156];exact H)|exact H
         have Ny156:=Aside0.mk hy156;clear hy156;have H':=Aside0.mk H;clear H
         go_wp2_with (first|((with_reducible refine gate_callee (f:=26) rfl ?_);refine goesL_ (some 30) rfl rfl Try.func26 (by kernel_rfl) rfl #[.slice A0 l0.length c0,.int .i64 (wrap64 (x22_1+1))] rfl (by (try simp only[List.map_toArray,List.map_cons,List.map_nil]);first|done|rfl|(simp only[List.length_drop,List.length_take];rfl)) ?_;(with_reducible refine (laws_wByte.calls _ _ l0 (wrap64 (x22_1+1)) t155 _ ?side1 ?side2 A11.out).mono ?_);(case side1=>repeat (first|exact (Kd.C_below HR0.out HB.out)|(with_reducible refine Kd.C_alloc ?_ _)|(with_reducible refine Kd.C_drewN ?_ _)|(with_reducible refine Kd.C_drew ?_)));(case side2=>exact HC0.out);rintro e w' ⟨rfl,⟨nd,rfl⟩⟩;refine⟨_,rfl,?_⟩;(try (rw[drewN_self wr];generalize hq_:World.drewN wr _=wr;have n0_:Aside0 (Kd.R (Kd.int .i64) 3 wr w.heap.size (fun _=>True) (.slice Ao9 x4_1.length co9) x4_1):=⟨by rw[←hq_];exact (by (with_reducible repeat (first|apply Kd.R_alloc|apply Kd.R_drewN|apply Kd.R_drew));exact HO_4.out)⟩;have n1_:Aside0 (Below w.heap.size w wr):=⟨by rw[←hq_];exact (by repeat (first|(with_reducible first|exact HB.out|apply below_alloc|apply pw_below_drewN|apply below_drew1)|exact HB.out))⟩;clear HO_4 HB hq_;have HO_4:=n0_;have HB:=n1_;clear n0_ n1_));have p14:0≤(x22_1:Int):=of_decide_eq_true (by first|(with_reducible assumption)|assumption);have q14:(x22_1:Int)<((x4_1.length:Int):Int):=of_decide_eq_true (by first|(with_reducible assumption)|assumption);obtain⟨go14,co14,eo14,gb14,gl14,cl14,HG14⟩:=Kd.R_form HO_4.out (by omega);(first|cases eo14|(injection eo14 with ea_ en_ ec_;(first|subst ea_|(injection ea_ with ea_;subst ea_));subst ec_;clear en_));have GB14:=Aside0.mk gb14;have GG14:=Aside0.mk HG14;clear gb14 gl14 HG14;obtain⟨hx14_0,hf14_0⟩:=Kd.R_celln 0 HO_4.out (x22_1:Int) p14 q14;replace p14:=eq_true p14;replace q14:=eq_true q14;obtain⟨hy15_,hz15_⟩:=Kd.R_celln 0 HO_4.out (x22_1:Int) (of_decide_eq_true (by first|(with_reducible assumption)|assumption)) (of_decide_eq_true (by first|(with_reducible assumption)|assumption));have HP15:=Kd.R_putg HO_4.out (x22_1:Int) (Int.tmod t155 10))|((with_reducible refine gate_store (t:=3) (p:=32) rfl ?_);refine store_event (t:=3) (p:=32) (v:=?vo_w16) (w1:=(wr.setCell ⟨go14,(x22_1:Int).toNat,none⟩ (.int .i64 (Int.tmod t155 10)))) ?hg ?ho ?hn ?hr ?_;(case ho=>rfl);(case hg=>rfl);(case hn=>rfl);(case hr=>first|(go_simp;done)|(go_simp;rfl));intro w16 hw;have hg:wr.grownBy w16 (some go14):=(by rw[hw];exact HP15.2);have hp_:Kd.R (Kd.int .i64) 3 w16 w.heap.size (fun _=>True) (.slice (some ⟨go14,0,none⟩) x4_1.length co9) y156:=(by rw[hw,Ny156.out];exact HP15.1);clear HP15;have n0_:=Aside0.mk (hp_);have n1_:=Aside0.mk ((by rw[hw];exact below_set (HB.out) GB14.out:Below w.heap.size w w16));clear HO_4;clear HB;have HO_4:=n0_;have HB:=n1_;clear n0_ n1_;clear hg hw hp_))
         (try simp only[←hl4_1])
         go_roundg k1
         case measure=>have:=HK1.out;omega
         case rel=>exact⟨(y156),(wrap64 (x22_1+1)),(by first|rfl|(simp;done)|(simp[*];done)),H',⟨by have:=HK1.out;omega⟩,⟨by (try simp only[hl4_1]);(with_reducible repeat (first|apply Kd.R_alloc|apply Kd.R_drewN|apply Kd.R_drew));exact HO_4.out⟩,⟨by repeat (first|(with_reducible first|exact HB.out|apply below_alloc|apply pw_below_drewN|apply below_drew1)|exact HB.out)⟩⟩
        ·rw[if_neg c13] at H
         exact absurd H (by simp)
       ·rw[if_neg c12] at H
        exact absurd H (by simp)
      ·rw[if_neg c10] at H
       have c10b0:decide (x22_1<(y152.length:Int))=false:=decide_eq_false c10;have c10bh:=c10b0;rw[hl4_1] at c10bh;clear c10;replace H:=Option.bind_eq_some_iff.mp H;obtain⟨⟨t157,t160,t163⟩,A170,H⟩:=H;replace H:((impl_RunPlan.f k1 t157 t160 t163 ([]:List (S74)) 1000 100).bind fun bt164=>(laws_FnSleepers.l1 k1 ji4 x4_1 ([]:List Int) 0 0 bt164.1 bt164.2.1 bt164.2.2.1 bt164.2.2.2.1 bt164.2.2.2.2))=some true:=H;have A17:=Aside0.mk A170;clear A170;replace H:=Option.bind_eq_some_iff.mp H;obtain⟨⟨t164,t165,t168,t169,t170⟩,A180,H⟩:=H;replace H:(laws_FnSleepers.l1 k1 ji4 x4_1 ([]:List Int) 0 0 t164 t165 t168 t169 t170)=some true:=H;have A18:=Aside0.mk A180;clear A180;have H':=Aside0.mk H;clear H
       go_wp2_with (first|((with_reducible refine gate_callee (f:=28) rfl ?_);refine goesL_ (some 35) rfl rfl Try.func28 (by kernel_rfl) rfl #[.slice Ao9 x4_1.length co9] rfl (by (try simp only[List.map_toArray,List.map_cons,List.map_nil]);first|done|rfl|(simp only[List.length_drop,List.length_take];rfl)) ?_;(with_reducible refine (spec_MadeSleepers.calls k1 _ _ x4_1 t157 t160 t163 _ ?side1 ?side2 A17.out).mono ?_);(case side1=>repeat (first|exact (Kd.R_reads' HO_4.out).2.2|(with_reducible refine Kd.C_alloc ?_ _)|(with_reducible refine Kd.C_drewN ?_ _)|(with_reducible refine Kd.C_drew ?_)));(case side2=>exact (Kd.R_reads' HO_4.out).2.1);rintro e w19 ⟨v158,v161,rfl,ho0,ho1,hb⟩;refine⟨_,rfl,?_⟩;have n0_:=Aside0.mk (Kd.R_elder' (by (with_reducible repeat (first|apply Kd.R_alloc|apply Kd.R_drewN|apply Kd.R_drew));exact HO_4.out) (Kd.R_base ho1) hb);have n1_:=Aside0.mk (Kd.S_lower ho0 (below_size (by repeat (first|(with_reducible first|exact HB.out|apply below_alloc|apply pw_below_drewN|apply below_drew1)|exact HB.out))));have n2_:=Aside0.mk (Kd.R_lower (Kd.R_new' ho1 (Kd.R_lt (by (with_reducible repeat (first|apply Kd.R_alloc|apply Kd.R_drewN|apply Kd.R_drew));exact HO_4.out))) (below_size (by repeat (first|(with_reducible first|exact HB.out|apply below_alloc|apply pw_below_drewN|apply below_drew1)|exact HB.out))));have n3_:=Aside0.mk (below_step (by repeat (first|(with_reducible first|exact HB.out|apply below_alloc|apply pw_below_drewN|apply below_drew1)|exact HB.out)) hb);clear HO_4;clear HB;have HO_4:=n0_;have HO159:=n1_;have HO162:=n2_;have HB:=n3_;clear n0_ n1_ n2_ n3_;(try clear hb);(try clear hb2);(try clear hk);(try clear hi);(try clear ho0);(try clear ho1);obtain⟨Ao20,co20,eo20⟩:=Kd.S_slice HO159.out;subst eo20;obtain⟨Ao21,co21,eo21⟩:=Kd.R_slice HO162.out;subst eo21)|((with_reducible refine gate_callee (f:=27) rfl ?_);refine goesL_ (some 37) rfl rfl Try.func27 (by kernel_rfl) rfl #[.agg #[.slice Ao20 t157.length co20,.slice Ao21 t160.length co21,.int .i64 t163],.agg #[.slice none 0 0,.int .i64 1000,.int .i64 100]] rfl (by (try simp only[List.map_toArray,List.map_cons,List.map_nil]);first|done|rfl|(simp only[List.length_drop,List.length_take];rfl)) ?_;(refine (impl_RunPlan.calls k1 _ _ t157 _ _ t160 t163 _ _ ([]:List (S74)) 1000 100 t164 t165 t168 t169 t170 _ ?side1 ?side2 ?side3 ?side4 ?side5 ?side6 A18.out).mono ?_);(case side1=>repeat (first|exact (Kd.S_reads' HO159.out).2.2|(with_reducible refine Kd.C_alloc ?_ _)|(with_reducible refine Kd.C_drewN ?_ _)|(with_reducible refine Kd.C_drew ?_)));(case side2=>exact (Kd.S_reads' HO159.out).2.1);(case side3=>repeat (first|exact (Kd.R_reads' HO162.out).2.2|(with_reducible refine Kd.C_alloc ?_ _)|(with_reducible refine Kd.C_drewN ?_ _)|(with_reducible refine Kd.C_drew ?_)));(case side4=>exact (Kd.R_reads' HO162.out).2.1);(case side5=>exact Kd.C_nil _ _);(case side6=>exact Nat.le_refl _);rintro e w22 ⟨v166,v171,rfl,ho0,ho1,hb⟩;refine⟨_,rfl,?_⟩;have n0_:=Aside0.mk (Kd.R_elder' (by (with_reducible repeat (first|apply Kd.R_alloc|apply Kd.R_drewN|apply Kd.R_drew));exact HO_4.out) (Kd.Z_base ho1) hb);have n1_:=Aside0.mk (Kd.S_below (by (with_reducible repeat (first|apply Kd.S_alloc|apply Kd.S_drewN|apply Kd.S_drew));exact HO159.out) hb);have n2_:=Aside0.mk (Kd.R_elder' (by (with_reducible repeat (first|apply Kd.R_alloc|apply Kd.R_drewN|apply Kd.R_drew));exact HO162.out) (Kd.Z_base ho1) hb);have n3_:=Aside0.mk (Kd.Z_lower ho0 (below_size (by repeat (first|(with_reducible first|exact HB.out|apply below_alloc|apply pw_below_drewN|apply below_drew1)|exact HB.out))));have n4_:=Aside0.mk (Kd.Z_lower (Kd.Z_new' (Kd.Z_new' ho1 (Kd.R_lt (by (with_reducible repeat (first|apply Kd.R_alloc|apply Kd.R_drewN|apply Kd.R_drew));exact HO_4.out))) (Kd.R_lt (by (with_reducible repeat (first|apply Kd.R_alloc|apply Kd.R_drewN|apply Kd.R_drew));exact HO162.out))) (below_size (by repeat (first|(with_reducible first|exact HB.out|apply below_alloc|apply pw_below_drewN|apply below_drew1)|exact HB.out))));have n5_:=Aside0.mk (below_step (by repeat (first|(with_reducible first|exact HB.out|apply below_alloc|apply pw_below_drewN|apply below_drew1)|exact HB.out)) hb);clear HO_4;clear HO159;clear HO162;clear HB;have HO_4:=n0_;have HO159:=n1_;have HO162:=n2_;have HO167:=n3_;have HO172:=n4_;have HB:=n5_;clear n0_ n1_ n2_ n3_ n4_ n5_;(try clear hb);(try clear hb2);(try clear hk);(try clear hi);(try clear ho0);(try clear ho1))|((with_reducible refine gate_dst (N:=6) rfl ?_);(try (refine gate_guard (by rfl) ?_;dsimp only));refine box_event ?hg (N:=6) ?hd (cs:=#[.int .i64 0,.slice none 0 0,.int .i64 0,.int .i64 0,.slice none 0 0]) (t:=53) ?hr ?_;(case hd=>rfl);(case hg=>rfl);(case hr=>first|(go_simp;done)|(go_simp;rfl));intro gb173 hg w23 hbox hb;have n0_:=Aside0.mk (Kd.R_below (by (with_reducible repeat (first|apply Kd.R_alloc|apply Kd.R_drewN|apply Kd.R_drew));exact HO_4.out) hb);have n1_:=Aside0.mk (Kd.S_below (by (with_reducible repeat (first|apply Kd.S_alloc|apply Kd.S_drewN|apply Kd.S_drew));exact HO159.out) hb);have n2_:=Aside0.mk (Kd.R_below (by (with_reducible repeat (first|apply Kd.R_alloc|apply Kd.R_drewN|apply Kd.R_drew));exact HO162.out) hb);have n3_:=Aside0.mk (Kd.Z_below (by (with_reducible repeat (first|apply Kd.Z_alloc|apply Kd.Z_drewN|apply Kd.Z_drew));exact HO167.out) hb);have n4_:=Aside0.mk (Kd.Z_below (by (with_reducible repeat (first|apply Kd.Z_alloc|apply Kd.Z_drewN|apply Kd.Z_drew));exact HO172.out) hb);have n5_:=Aside0.mk (below_step (by repeat (first|(with_reducible first|exact HB.out|apply below_alloc|apply pw_below_drewN|apply below_drew1)|exact HB.out)) hb);have n6_:=Aside0.mk (hbox);have n7_:=Aside0.mk ((by rw[hg];exact (below_size (by repeat (first|(with_reducible first|exact HB.out|apply below_alloc|apply pw_below_drewN|apply below_drew1)|exact HB.out))):w.heap.size≤gb173));have n8_:=Aside0.mk ((by rw[hg];exact (below_size (by repeat (first|(with_reducible first|exact HB.out|apply below_alloc|apply pw_below_drewN|apply below_drew1)|exact HB.out))):w.heap.size≤gb173));clear HO_4;clear HO159;clear HO162;clear HO167;clear HO172;clear HB;have HO_4:=n0_;have HO159:=n1_;have HO162:=n2_;have HO167:=n3_;have HO172:=n4_;have HB:=n5_;have BK173:=n6_;have GW173:=n7_;have GE173:=n8_;clear n0_ n1_ n2_ n3_ n4_ n5_ n6_ n7_ n8_;clear hb hbox hg;have hcz24_0:w23.cell? ⟨gb173,0,none⟩=some (.int .i64 0):=(blk_cell BK173.out 0).trans rfl;have hcz24_1:w23.cell? ⟨gb173,1,none⟩=some (.slice none 0 0):=(blk_cell BK173.out 1).trans rfl;have hcz24_2:w23.cell? ⟨gb173,2,none⟩=some (.int .i64 0):=(blk_cell BK173.out 2).trans rfl;have hcz24_3:w23.cell? ⟨gb173,3,none⟩=some (.int .i64 0):=(blk_cell BK173.out 3).trans rfl;have hcz24_4:w23.cell? ⟨gb173,4,none⟩=some (.slice none 0 0):=(blk_cell BK173.out 4).trans rfl;have hfz24_0:=blk_frozen BK173.out 0;have hfz24_1:=blk_frozen BK173.out 1;have hfz24_2:=blk_frozen BK173.out 2;have hfz24_3:=blk_frozen BK173.out 3;have hfz24_4:=blk_frozen BK173.out 4;obtain⟨Ao25,co25,eo25⟩:=Kd.Z_slice HO167.out;subst eo25;obtain⟨Ao26,co26,eo26⟩:=Kd.Z_slice HO172.out;subst eo26))
       go_loopg [7,8,9] k1 (fun kq v7 v8 v9 w'=>∃(x7_2:List Int) (x8_2:Int) (x9_2:Int),v8=.int .i64 x8_2∧v9=.int .i64 x9_2∧Aside0 (laws_FnSleepers.l1 kq ji4 x4_1 x7_2 x8_2 x9_2 t164 t165 t168 t169 t170=some true)∧Aside0 (kq≤k1)∧Aside0 (Kd.R (Kd.int .i64) 3 w' w.heap.size (fun k_=>some k_≠((.slice Ao26 t170.length co26):Value).ownBlock) (.slice Ao9 x4_1.length co9) x4_1)∧Aside0 (Kd.R (Kd.int .i64) 2 w' w.heap.size (fun _=>True) v7 x7_2)∧Aside0 (Kd.Z k72 72 w' w.heap.size (fun _=>True) (.slice Ao25 t165.length co25) t165)∧Aside0 (Kd.Z (Kd.int .i64) 3 w' w.heap.size (fun k_=>some k_≠((.slice Ao9 x4_1.length co9):Value).ownBlock) (.slice Ao26 t170.length co26) t170)∧Aside0 (w'.heap[gb173]?=some (.cells #[.int .i64 t164,(.slice Ao25 t165.length co25),.int .i64 t168,.int .i64 t169,(.slice Ao26 t170.length co26)] 53 (0,0)))∧Aside0 (Below w.heap.size w w'))
       case atStart=>exact⟨(([]:List Int)),(0),(0),(by first|rfl|(simp;done)|(simp[*];done)),(by first|rfl|(simp;done)|(simp[*];done)),H',⟨Nat.le_refl _⟩,⟨by (try simp only[hl4_1]);(with_reducible repeat (first|apply Kd.R_alloc|apply Kd.R_drewN|apply Kd.R_drew));exact Kd.R_mono (Kd.R_far (p:=⟨gb173,4,none⟩) (Kd.R_far (p:=⟨gb173,3,none⟩) (Kd.R_far (p:=⟨gb173,2,none⟩) (Kd.R_far (p:=⟨gb173,1,none⟩) (Kd.R_far (p:=⟨gb173,0,none⟩) (Kd.R_types HO_4.out BK173.out (by decide)) (fun _ hk=>hk.2) (.int .i64 t164)) (fun _ hk=>hk.2) (.slice Ao25 t165.length co25)) (fun _ hk=>hk.2) (.int .i64 t168)) (fun _ hk=>hk.2) (.int .i64 t169)) (fun _ hk=>hk.2) (.slice Ao26 t170.length co26)) (fun _ hk=>hk.1.2)⟩,⟨by (try simp only[hl4_1]);first|exact Kd.R_nil _ _ _ _ _|exact Kd.N_nil _ _ _ _ _|exact Kd.V_nil _ _ _ _ _|exact Kd.Q_nil _ _ _ _ _|exact Kd.S_nil _ _ _ _ _⟩,⟨by (try simp only[hl4_1]);(with_reducible repeat (first|apply Kd.Z_alloc|apply Kd.Z_drewN|apply Kd.Z_drew));exact Kd.Z_mono (Kd.Z_far (p:=⟨gb173,4,none⟩) (Kd.Z_far (p:=⟨gb173,3,none⟩) (Kd.Z_far (p:=⟨gb173,2,none⟩) (Kd.Z_far (p:=⟨gb173,1,none⟩) (Kd.Z_far (p:=⟨gb173,0,none⟩) (Kd.Z_types HO167.out BK173.out (by decide)) (fun _ hk=>hk.2) (.int .i64 t164)) (fun _ hk=>hk.2) (.slice Ao25 t165.length co25)) (fun _ hk=>hk.2) (.int .i64 t168)) (fun _ hk=>hk.2) (.int .i64 t169)) (fun _ hk=>hk.2) (.slice Ao26 t170.length co26)) (fun _ hk=>trivial)⟩,⟨by (try simp only[hl4_1]);(with_reducible repeat (first|apply Kd.Z_alloc|apply Kd.Z_drewN|apply Kd.Z_drew));exact Kd.Z_mono (Kd.Z_far (p:=⟨gb173,4,none⟩) (Kd.Z_far (p:=⟨gb173,3,none⟩) (Kd.Z_far (p:=⟨gb173,2,none⟩) (Kd.Z_far (p:=⟨gb173,1,none⟩) (Kd.Z_far (p:=⟨gb173,0,none⟩) (Kd.Z_types HO172.out BK173.out (by decide)) (fun _ hk=>hk.2) (.int .i64 t164)) (fun _ hk=>hk.2) (.slice Ao25 t165.length co25)) (fun _ hk=>hk.2) (.int .i64 t168)) (fun _ hk=>hk.2) (.int .i64 t169)) (fun _ hk=>hk.2) (.slice Ao26 t170.length co26)) (fun _ hk=>hk.1.1.2)⟩,⟨by (try simp only[hl4_1]);(with_reducible repeat (first|refine blk_drewN ?_ _|refine blk_drew ?_|refine blk_alloc ?_ _));refine blk_put (cs:=#[.int .i64 t164,.slice Ao25 t165.length co25,.int .i64 t168,.int .i64 t169,.slice none 0 0]) ?_ 4 _ rfl;(with_reducible repeat (first|refine blk_drewN ?_ _|refine blk_drew ?_|refine blk_alloc ?_ _));refine blk_put (cs:=#[.int .i64 t164,.slice Ao25 t165.length co25,.int .i64 t168,.int .i64 0,.slice none 0 0]) ?_ 3 _ rfl;(with_reducible repeat (first|refine blk_drewN ?_ _|refine blk_drew ?_|refine blk_alloc ?_ _));refine blk_put (cs:=#[.int .i64 t164,.slice Ao25 t165.length co25,.int .i64 0,.int .i64 0,.slice none 0 0]) ?_ 2 _ rfl;(with_reducible repeat (first|refine blk_drewN ?_ _|refine blk_drew ?_|refine blk_alloc ?_ _));refine blk_put (cs:=#[.int .i64 t164,.slice none 0 0,.int .i64 0,.int .i64 0,.slice none 0 0]) ?_ 1 _ rfl;(with_reducible repeat (first|refine blk_drewN ?_ _|refine blk_drew ?_|refine blk_alloc ?_ _));refine blk_put (cs:=#[.int .i64 0,.slice none 0 0,.int .i64 0,.int .i64 0,.slice none 0 0]) ?_ 0 _ rfl;(with_reducible repeat (first|refine blk_drewN ?_ _|refine blk_drew ?_|refine blk_alloc ?_ _));exact BK173.out⟩,⟨by repeat (first|(with_reducible first|exact HB.out|apply below_alloc|apply pw_below_drewN|apply below_drew1|refine below_set ?_ GE173.out)|exact HB.out)⟩⟩
       case round=>
        clear H'
        try clear c1
        try clear p1
        try clear q1
        try clear hx1
        try clear hf1
        try clear c2
        try clear c2b0
        try clear c2b1
        try clear p2
        try clear c5
        try clear c5b0
        try clear c5b1
        try clear c6
        try clear c6b0
        try clear c6b1
        try clear p6
        try clear c10
        try clear c10b0
        try clear c12
        try clear c12b0
        try clear c13
        try clear c13b0
        try clear p14
        try clear q14
        try clear hx14
        try clear hf14
        try clear c26
        try clear hcz24_0
        try clear hcz24_1
        try clear hcz24_2
        try clear hcz24_3
        try clear hcz24_4
        try clear hfz24_0
        try clear hfz24_1
        try clear hfz24_2
        try clear hfz24_3
        try clear hfz24_4
        try clear hx14_0
        try clear p14
        try clear p2
        try clear p6
        try clear q14
        obtain⟨x7_2,x8_2,x9_2,rfl,rfl,HA,HK2,HO_4,HO_7,HO_174001,HO_174004,BK173,HB⟩:=hrel
        cases gk with
        |zero=>exact absurd HA.out (by simp[laws_FnSleepers.l1])
        |succ k2=>
         have H:=HA.out;clear HA;simp only[laws_FnSleepers.l1] at H
         by_cases c27:x9_2<10
         ·rw[if_pos c27] at H
          have c27b0:decide (x9_2<10)=true:=decide_eq_true c27;clear c27;have H':=Aside0.mk H;clear H
          go_wp2
          go_loopg [7,8,44] k2 (fun kq v7 v8 v44 w'=>∃(x7_3:List Int) (x8_3:Int) (x44_3:Int),v8=.int .i64 x8_3∧v44=.int .i64 x44_3∧Aside0 (laws_FnSleepers.l2 kq ji4 x4_1 x7_3 x8_3 x9_2 (x4_1.length:Int) x44_3 t164 t165 t168 t169 t170=some true)∧Aside0 (kq≤k2)∧Aside0 (Kd.R (Kd.int .i64) 3 w' w.heap.size (fun k_=>some k_≠((.slice Ao26 t170.length co26):Value).ownBlock) (.slice Ao9 x4_1.length co9) x4_1)∧Aside0 (Kd.R (Kd.int .i64) 2 w' w.heap.size (fun _=>True) v7 x7_3)∧Aside0 (Kd.Z k72 72 w' w.heap.size (fun _=>True) (.slice Ao25 t165.length co25) t165)∧Aside0 (Kd.Z (Kd.int .i64) 3 w' w.heap.size (fun k_=>some k_≠((.slice Ao9 x4_1.length co9):Value).ownBlock) (.slice Ao26 t170.length co26) t170)∧Aside0 (w'.heap[gb173]?=some (.cells #[.int .i64 t164,(.slice Ao25 t165.length co25),.int .i64 t168,.int .i64 t169,(.slice Ao26 t170.length co26)] 53 (0,0)))∧Aside0 (Below w.heap.size w w'))
          case atStart=>exact⟨(x7_2),(x8_2),(0),(by first|rfl|(simp;done)|(simp[*];done)),(by first|rfl|(simp;done)|(simp[*];done)),H',⟨Nat.le_refl _⟩,⟨by (try simp only[hl4_1]);(with_reducible repeat (first|apply Kd.R_alloc|apply Kd.R_drewN|apply Kd.R_drew));exact HO_4.out⟩,⟨by (try simp only[hl4_1]);(with_reducible repeat (first|apply Kd.R_alloc|apply Kd.R_drewN|apply Kd.R_drew));exact HO_7.out⟩,⟨by (try simp only[hl4_1]);(with_reducible repeat (first|apply Kd.Z_alloc|apply Kd.Z_drewN|apply Kd.Z_drew));exact HO_174001.out⟩,⟨by (try simp only[hl4_1]);(with_reducible repeat (first|apply Kd.Z_alloc|apply Kd.Z_drewN|apply Kd.Z_drew));exact HO_174004.out⟩,⟨by (try simp only[hl4_1]);(with_reducible repeat (first|refine blk_drewN ?_ _|refine blk_drew ?_|refine blk_alloc ?_ _));exact BK173.out⟩,⟨by repeat (first|(with_reducible first|exact HB.out|apply below_alloc|apply pw_below_drewN|apply below_drew1|refine below_set ?_ GE173.out)|exact HB.out)⟩⟩
          case round=>
           clear H'
           try clear c1
           try clear p1
           try clear q1
           try clear hx1
           try clear hf1
           try clear c2
           try clear c2b0
           try clear c2b1
           try clear p2
           try clear c5
           try clear c5b0
           try clear c5b1
           try clear c6
           try clear c6b0
           try clear c6b1
           try clear p6
           try clear c10
           try clear c10b0
           try clear c12
           try clear c12b0
           try clear c13
           try clear c13b0
           try clear p14
           try clear q14
           try clear hx14
           try clear hf14
           try clear c26
           try clear c27
           try clear c27b0
           try clear hcz24_0
           try clear hcz24_1
           try clear hcz24_2
           try clear hcz24_3
           try clear hcz24_4
           try clear hfz24_0
           try clear hfz24_1
           try clear hfz24_2
           try clear hfz24_3
           try clear hfz24_4
           try clear hx14_0
           try clear p1
           try clear p14
           try clear p2
           try clear p6
           try clear q1
           try clear q14
           obtain⟨x7_3,x8_3,x44_3,rfl,rfl,HA,HK3,HO_4,HO_7,HO_174001,HO_174004,BK173,HB⟩:=hrel
           cases gk with
           |zero=>exact absurd HA.out (by simp[laws_FnSleepers.l2])
           |succ k3=>
            have H:=HA.out;clear HA;simp only[laws_FnSleepers.l2] at H
            by_cases c28:x44_3<(x4_1.length:Int)
            ·rw[if_pos c28] at H
             have c28b0:decide (x44_3<(x4_1.length:Int))=true:=decide_eq_true c28;clear c28
             by_cases c29:0≤x44_3
             ·rw[if_pos c29] at H
              have c29b0:decide (0≤x44_3)=true:=decide_eq_true c29;clear c29
              by_cases c30:x44_3<(x4_1.length:Int)
              ·rw[if_pos c30] at H
               have c30b0:decide (x44_3<(x4_1.length:Int))=true:=decide_eq_true c30;clear c30
               by_cases c31:(rd x4_1 x44_3)=x9_2
               ·rw[if_pos c31] at H
                have c31b0:((rd x4_1 x44_3)==x9_2)=true:=beq_iff_eq.mpr c31;have c31b1:((rd x4_1 x44_3) !=x9_2)=false:=bne_eq_false_iff_eq.mpr c31;clear c31
                by_cases c32:x7_3.length<17592186044416
                ·rw[if_pos c32] at H
                 have LMc32:=Aside0.mk c32;clear c32;obtain⟨y179,hy179⟩:∃y_:List Int,y_=(x7_3++[x44_3]):=⟨_,rfl⟩
                 replace H:(laws_FnSleepers.l2 k3 ji4 x4_1 y179 x9_2 x9_2 (x4_1.length:Int) (wrap64 (x44_3+1)) t164 t165 t168 t169 t170)=some true:=by first|(rw[hy179];with_reducible exact H)|(have H2_:=(Option.bind_some _ _).symm.trans H;rw[hy179];with_reducible exact H2_)|(have H2_:=(Option.bind_some _ _).symm.trans H;with_reducible exact H2_)|with_reducible exact H|(rw[hy179];exact H)|exact H
                 have Ny179:=Aside0.mk hy179;clear hy179;have H':=Aside0.mk H;clear H;have p178:0≤(x44_3:Int):=of_decide_eq_true (by first|(with_reducible assumption)|assumption);have q178:x44_3<(x4_1.length:Int):=of_decide_eq_true (by first|(with_reducible assumption)|assumption);obtain⟨ad178,e178,hx178_0⟩:=Kd.at_int (Kd.R_reads' HO_4.out).2.2 x44_3 p178 q178
                 cases e178
                 replace p178:=eq_true p178;replace q178:=eq_true q178
                 go_wp2_with (first|((with_reducible refine gate_builtin (b:=.append) (xs:=#[.tmp 53,.tmp 55]) rfl ?_);(try (refine gate_guard (by rfl) ?_;dsimp only));at_builtin;refine Kd.R_append (Kd.int .i64) (w0:=w) w.heap.size rfl (.tmp 53) (.tmp 55) 56 2 (.int .i64 0) 8 rfl Try.underlying56 info2 rfl (by decide) (by omega) u7 x7_3 x44_3 [.int .i64 x44_3] (fun _=>True) (fun _=>False) rfl rfl ?aP (fun _ hk=>hk.elim) ?aF ?aO ?aB ?aS ?aL ?_;(case aP=>exact rfl);(case aB=>exact (by repeat (first|(with_reducible first|exact HB.out|apply below_alloc|apply pw_below_drewN|apply below_drew1|refine below_set ?_ GE173.out)|exact HB.out)));(case aF=>exact (fun _ _=>trivial));(case aO=>exact (by (with_reducible repeat (first|apply Kd.R_alloc|apply Kd.R_drewN|apply Kd.R_drew));exact HO_7.out));(case aS=>exact (below_size (by repeat (first|(with_reducible first|exact HB.out|apply below_alloc|apply pw_below_drewN|apply below_drew1|refine below_set ?_ GE173.out)|exact HB.out))));(case aL=>have:=LMc32.out;omega);intro v180 w33 ho hb hg hat;rw[←Ny179.out] at ho;have n0_:=Aside0.mk (Kd.R_over' (by (with_reducible repeat (first|apply Kd.R_alloc|apply Kd.R_drewN|apply Kd.R_drew));exact HO_4.out) (Kd.R_typed (by (with_reducible repeat (first|apply Kd.R_alloc|apply Kd.R_drewN|apply Kd.R_drew));exact HO_7.out)) (by decide) hg);have n1_:=Aside0.mk (Kd.Z_over' (by (with_reducible repeat (first|apply Kd.Z_alloc|apply Kd.Z_drewN|apply Kd.Z_drew));exact HO_174001.out) (Kd.R_typed (by (with_reducible repeat (first|apply Kd.R_alloc|apply Kd.R_drewN|apply Kd.R_drew));exact HO_7.out)) (by decide) hg);have n2_:=Aside0.mk (Kd.Z_over' (by (with_reducible repeat (first|apply Kd.Z_alloc|apply Kd.Z_drewN|apply Kd.Z_drew));exact HO_174004.out) (Kd.R_typed (by (with_reducible repeat (first|apply Kd.R_alloc|apply Kd.R_drewN|apply Kd.R_drew));exact HO_7.out)) (by decide) hg);have n3_:=Aside0.mk (blk_grown (g:=gb173) (o:=.cells #[.int .i64 t164,.slice Ao25 t165.length co25,.int .i64 t168,.int .i64 t169,.slice Ao26 t170.length co26] 53 (0,0)) (by (with_reducible repeat (first|refine blk_drewN ?_ _|refine blk_drew ?_|refine blk_alloc ?_ _));exact BK173.out) hg (Kd.R_ne HO_7.out BK173.out (by decide)));have n4_:=Aside0.mk (hb);have n5_:=Aside0.mk (ho);clear HO_4;clear HO_174001;clear HO_174004;clear BK173;clear HB;clear HO_7;have HO_4:=n0_;have HO_174001:=n1_;have HO_174004:=n2_;have BK173:=n3_;have HB:=n4_;have HO181:=n5_;clear n0_ n1_ n2_ n3_ n4_ n5_;clear ho hb hg hat))
                 go_roundg k3
                 case measure=>have:=HK1.out;have:=HK2.out;have:=HK3.out;omega
                 case rel=>exact⟨(y179),(x9_2),(wrap64 (x44_3+1)),(by first|rfl|(simp;done)|(simp[*];done)),(by first|rfl|(simp;done)|(simp[*];done)),H',⟨by have:=HK1.out;have:=HK2.out;have:=HK3.out;omega⟩,⟨by (try simp only[hl4_1]);(with_reducible repeat (first|apply Kd.R_alloc|apply Kd.R_drewN|apply Kd.R_drew));exact HO_4.out⟩,⟨by (try simp only[hl4_1]);(with_reducible repeat (first|apply Kd.R_alloc|apply Kd.R_drewN|apply Kd.R_drew));exact HO181.out⟩,⟨by (try simp only[hl4_1]);(with_reducible repeat (first|apply Kd.Z_alloc|apply Kd.Z_drewN|apply Kd.Z_drew));exact HO_174001.out⟩,⟨by (try simp only[hl4_1]);(with_reducible repeat (first|apply Kd.Z_alloc|apply Kd.Z_drewN|apply Kd.Z_drew));exact HO_174004.out⟩,⟨by (try simp only[hl4_1]);(with_reducible repeat (first|refine blk_drewN ?_ _|refine blk_drew ?_|refine blk_alloc ?_ _));exact BK173.out⟩,⟨by repeat (first|(with_reducible first|exact HB.out|apply below_alloc|apply pw_below_drewN|apply below_drew1|refine below_set ?_ GE173.out)|exact HB.out)⟩⟩
                ·rw[if_neg c32] at H
                 exact absurd H (by simp)
               ·rw[if_neg c31] at H
                have c31b0:((rd x4_1 x44_3)==x9_2)=false:=beq_eq_false_iff_ne.mpr c31;have c31b1:((rd x4_1 x44_3) !=x9_2)=true:=bne_iff_ne.mpr c31;have H':=Aside0.mk H;clear H;have p178:0≤(x44_3:Int):=of_decide_eq_true (by first|(with_reducible assumption)|assumption);have q178:x44_3<(x4_1.length:Int):=of_decide_eq_true (by first|(with_reducible assumption)|assumption);obtain⟨ad178,e178,hx178_0⟩:=Kd.at_int (Kd.R_reads' HO_4.out).2.2 x44_3 p178 q178
                cases e178
                replace p178:=eq_true p178;replace q178:=eq_true q178
                go_wp2
                go_roundg k3
                case measure=>have:=HK1.out;have:=HK2.out;have:=HK3.out;omega
                case rel=>exact⟨(x7_3),(x8_3),(wrap64 (x44_3+1)),(by first|rfl|(simp;done)|(simp[*];done)),(by first|rfl|(simp;done)|(simp[*];done)),H',⟨by have:=HK1.out;have:=HK2.out;have:=HK3.out;omega⟩,⟨by (try simp only[hl4_1]);(with_reducible repeat (first|apply Kd.R_alloc|apply Kd.R_drewN|apply Kd.R_drew));exact HO_4.out⟩,⟨by (try simp only[hl4_1]);(with_reducible repeat (first|apply Kd.R_alloc|apply Kd.R_drewN|apply Kd.R_drew));exact HO_7.out⟩,⟨by (try simp only[hl4_1]);(with_reducible repeat (first|apply Kd.Z_alloc|apply Kd.Z_drewN|apply Kd.Z_drew));exact HO_174001.out⟩,⟨by (try simp only[hl4_1]);(with_reducible repeat (first|apply Kd.Z_alloc|apply Kd.Z_drewN|apply Kd.Z_drew));exact HO_174004.out⟩,⟨by (try simp only[hl4_1]);(with_reducible repeat (first|refine blk_drewN ?_ _|refine blk_drew ?_|refine blk_alloc ?_ _));exact BK173.out⟩,⟨by repeat (first|(with_reducible first|exact HB.out|apply below_alloc|apply pw_below_drewN|apply below_drew1|refine below_set ?_ GE173.out)|exact HB.out)⟩⟩
              ·rw[if_neg c30] at H
               exact absurd H (by simp)
             ·rw[if_neg c29] at H
              exact absurd H (by simp)
            ·rw[if_neg c28] at H
             have c28b0:decide (x44_3<(x4_1.length:Int))=false:=decide_eq_false c28;clear c28;have H':=Aside0.mk H;clear H
             go_wp2
             go_roundg k3
             case measure=>have:=HK1.out;have:=HK2.out;have:=HK3.out;omega
             case rel=>exact⟨(x7_3),(x8_3),(wrap64 (x9_2+1)),(by first|rfl|(simp;done)|(simp[*];done)),(by first|rfl|(simp;done)|(simp[*];done)),H',⟨by have:=HK1.out;have:=HK2.out;have:=HK3.out;omega⟩,⟨by (try simp only[hl4_1]);(with_reducible repeat (first|apply Kd.R_alloc|apply Kd.R_drewN|apply Kd.R_drew));exact HO_4.out⟩,⟨by (try simp only[hl4_1]);(with_reducible repeat (first|apply Kd.R_alloc|apply Kd.R_drewN|apply Kd.R_drew));exact HO_7.out⟩,⟨by (try simp only[hl4_1]);(with_reducible repeat (first|apply Kd.Z_alloc|apply Kd.Z_drewN|apply Kd.Z_drew));exact HO_174001.out⟩,⟨by (try simp only[hl4_1]);(with_reducible repeat (first|apply Kd.Z_alloc|apply Kd.Z_drewN|apply Kd.Z_drew));exact HO_174004.out⟩,⟨by (try simp only[hl4_1]);(with_reducible repeat (first|refine blk_drewN ?_ _|refine blk_drew ?_|refine blk_alloc ?_ _));exact BK173.out⟩,⟨by repeat (first|(with_reducible first|exact HB.out|apply below_alloc|apply pw_below_drewN|apply below_drew1|refine below_set ?_ GE173.out)|exact HB.out)⟩⟩
         ·rw[if_neg c27] at H
          have c27b0:decide (x9_2<10)=false:=decide_eq_false c27;clear c27
          by_cases c34:t164=0
          ·rw[if_pos c34] at H
           have c34b0:(t164==0)=true:=beq_iff_eq.mpr c34;have c34b1:(t164 !=0)=false:=bne_eq_false_iff_eq.mpr c34;clear c34;replace H:=Option.bind_eq_some_iff.mp H;obtain⟨t174,A350,H⟩:=H;replace H:((laws_wNums.f k2 t174 x7_2).bind fun t177=>(if t177=true then (if t168=x8_2 then (some ((t170.length:Int)==(wrap64 (ji4+1)))) else (some false)) else (some false)))=some true:=H;have A35:=Aside0.mk A350;clear A350;replace H:=Option.bind_eq_some_iff.mp H;obtain⟨t177,A360,H⟩:=H;replace H:(if t177=true then (if t168=x8_2 then (some ((t170.length:Int)==(wrap64 (ji4+1)))) else (some false)) else (some false))=some true:=H;have A36:=Aside0.mk A360;clear A360
           by_cases c37:t177=true
           ·subst c37
            have H1:(if t168=x8_2 then (some ((t170.length:Int)==(wrap64 (ji4+1)))) else (some false))=some true:=by rw[if_pos rfl] at H;exact H
            clear H;have H:=H1;clear H1
            by_cases c38:t168=x8_2
            ·rw[if_pos c38] at H
             have c38b0:(t168==x8_2)=true:=beq_iff_eq.mpr c38;have c38b1:(t168 !=x8_2)=false:=bne_eq_false_iff_eq.mpr c38;clear c38
             try have HR_:=Option.some.inj H
             clear H;have hcz39_0:wr.cell? ⟨gb173,0,none⟩=some (.int .i64 t164):=(blk_cell BK173.out 0).trans rfl;have hcz39_1:wr.cell? ⟨gb173,1,none⟩=some (.slice Ao25 t165.length co25):=(blk_cell BK173.out 1).trans rfl;have hcz39_2:wr.cell? ⟨gb173,2,none⟩=some (.int .i64 t168):=(blk_cell BK173.out 2).trans rfl;have hcz39_3:wr.cell? ⟨gb173,3,none⟩=some (.int .i64 t169):=(blk_cell BK173.out 3).trans rfl;have hcz39_4:wr.cell? ⟨gb173,4,none⟩=some (.slice Ao26 t170.length co26):=(blk_cell BK173.out 4).trans rfl;have hfz39_0:=blk_frozen BK173.out 0;have hfz39_1:=blk_frozen BK173.out 1;have hfz39_2:=blk_frozen BK173.out 2;have hfz39_3:=blk_frozen BK173.out 3;have hfz39_4:=blk_frozen BK173.out 4
             go_wp2_with (first|(go_at_call 30;(with_reducible refine (laws_wSays.calls k2 t164 _ _ t165 t168 t169 _ _ t170 t174 _ ?side1 ?side2 ?side3 ?side4 A35.out).mono ?_);(case side1=>repeat (first|exact (Kd.Z_reads' HO_174001.out).2.2|(with_reducible refine Kd.C_alloc ?_ _)|(with_reducible refine Kd.C_drewN ?_ _)|(with_reducible refine Kd.C_drew ?_)));(case side2=>exact (Kd.Z_reads' HO_174001.out).2.1);(case side3=>repeat (first|exact (Kd.Z_reads' HO_174004.out).2.2|(with_reducible refine Kd.C_alloc ?_ _)|(with_reducible refine Kd.C_drewN ?_ _)|(with_reducible refine Kd.C_drew ?_)));(case side4=>exact (Kd.Z_reads' HO_174004.out).2.1);rintro e w40 ⟨v175,rfl,ho0,hb⟩;have n0_:=Aside0.mk (Kd.R_below (by (with_reducible repeat (first|apply Kd.R_alloc|apply Kd.R_drewN|apply Kd.R_drew));exact HO_4.out) hb);have n1_:=Aside0.mk (Kd.R_elder' (by (with_reducible repeat (first|apply Kd.R_alloc|apply Kd.R_drewN|apply Kd.R_drew));exact HO_7.out) (Kd.R_base ho0) hb);have n2_:=Aside0.mk (Kd.Z_below (by (with_reducible repeat (first|apply Kd.Z_alloc|apply Kd.Z_drewN|apply Kd.Z_drew));exact HO_174001.out) hb);have n3_:=Aside0.mk (Kd.Z_below (by (with_reducible repeat (first|apply Kd.Z_alloc|apply Kd.Z_drewN|apply Kd.Z_drew));exact HO_174004.out) hb);have n4_:=Aside0.mk (Kd.R_lower (Kd.R_new' ho0 (Kd.R_lt (by (with_reducible repeat (first|apply Kd.R_alloc|apply Kd.R_drewN|apply Kd.R_drew));exact HO_7.out))) (below_size (by repeat (first|(with_reducible first|exact HB.out|apply below_alloc|apply pw_below_drewN|apply below_drew1|refine below_set ?_ GE173.out)|exact HB.out))));have n5_:=Aside0.mk (blk_below (g:=gb173) (o:=.cells #[.int .i64 t164,.slice Ao25 t165.length co25,.int .i64 t168,.int .i64 t169,.slice Ao26 t170.length co26] 53 (0,0)) (by (with_reducible repeat (first|refine blk_drewN ?_ _|refine blk_drew ?_|refine blk_alloc ?_ _));exact BK173.out) hb);have n6_:=Aside0.mk (below_step (by repeat (first|(with_reducible first|exact HB.out|apply below_alloc|apply pw_below_drewN|apply below_drew1|refine below_set ?_ GE173.out)|exact HB.out)) hb);clear HO_4;clear HO_7;clear HO_174001;clear HO_174004;clear BK173;clear HB;have HO_4:=n0_;have HO_7:=n1_;have HO_174001:=n2_;have HO_174004:=n3_;have HO176:=n4_;have BK173:=n5_;have HB:=n6_;clear n0_ n1_ n2_ n3_ n4_ n5_ n6_;(try clear hb);(try clear hb2);(try clear hk);(try clear hi);(try clear ho0);obtain⟨Ao41,co41,eo41⟩:=Kd.R_slice HO176.out;subst eo41;obtain⟨Ao42,co42,eo42⟩:=Kd.R_slice HO_7.out;subst eo42)|(go_at_call 29;(with_reducible refine (laws_wNums.calls k2 _ _ t174 _ _ x7_2 true _ ?side1 ?side2 ?side3 ?side4 A36.out).mono ?_);(case side1=>repeat (first|exact (Kd.R_reads' HO176.out).2.2|(with_reducible refine Kd.C_alloc ?_ _)|(with_reducible refine Kd.C_drewN ?_ _)|(with_reducible refine Kd.C_drew ?_)));(case side2=>exact (Kd.R_reads' HO176.out).2.1);(case side3=>repeat (first|exact (Kd.R_reads' HO_7.out).2.2|(with_reducible refine Kd.C_alloc ?_ _)|(with_reducible refine Kd.C_drewN ?_ _)|(with_reducible refine Kd.C_drew ?_)));(case side4=>exact (Kd.R_reads' HO_7.out).2.1);rintro e w' ⟨rfl,⟨nd,rfl⟩⟩;have hcz43_0:w40.cell? ⟨gb173,0,none⟩=some (.int .i64 t164):=(blk_cell BK173.out 0).trans rfl;have hcz43_1:w40.cell? ⟨gb173,1,none⟩=some (.slice Ao25 t165.length co25):=(blk_cell BK173.out 1).trans rfl;have hcz43_2:w40.cell? ⟨gb173,2,none⟩=some (.int .i64 t168):=(blk_cell BK173.out 2).trans rfl;have hcz43_3:w40.cell? ⟨gb173,3,none⟩=some (.int .i64 t169):=(blk_cell BK173.out 3).trans rfl;have hcz43_4:w40.cell? ⟨gb173,4,none⟩=some (.slice Ao26 t170.length co26):=(blk_cell BK173.out 4).trans rfl;have hfz43_0:=blk_frozen BK173.out 0;have hfz43_1:=blk_frozen BK173.out 1;have hfz43_2:=blk_frozen BK173.out 2;have hfz43_3:=blk_frozen BK173.out 3;have hfz43_4:=blk_frozen BK173.out 4))
             go_ret
             exact⟨by first|rfl|(rw[HR_])|(simp[errW_none,errW_some]<;>rfl)|(simp only[←hji4];first|rfl|(simp[errW_none,errW_some]<;>rfl))|(simp[*,errW_none,errW_some]<;>rfl),by repeat (first|(with_reducible first|exact HB.out|apply below_alloc|apply pw_below_drewN|apply below_drew1|refine below_set ?_ GE173.out)|exact HB.out)⟩
            ·rw[if_neg c38] at H
             have c38b0:(t168==x8_2)=false:=beq_eq_false_iff_ne.mpr c38;have c38b1:(t168 !=x8_2)=true:=bne_iff_ne.mpr c38;exact absurd (Option.some.inj H) (by decide)
           ·replace c37:=Bool.eq_false_iff.mpr c37
            subst c37
            have H1:(some false)=some true:=by rw[if_neg (show ¬(false=true) by decide)] at H;exact H
            clear H;have H:=H1;clear H1;exact absurd (Option.some.inj H) (by decide)
          ·rw[if_neg c34] at H
           have c34b0:(t164==0)=false:=beq_eq_false_iff_ne.mpr c34;have c34b1:(t164 !=0)=true:=bne_iff_ne.mpr c34;exact absurd (Option.some.inj H) (by decide)
   ·rw[if_neg c6] at H
    exact absurd H (by simp)
  ·rw[if_neg c5] at H
   exact absurd H (by simp)
def laws_FnSleepers.Pure:Prop:=∀(l0:List Int),l0.length≤maxLen→l0.length*1≤140737488351232→(∀x∈l0,(Lit.int .u8 x).wf=true)→∃k,laws_FnSleepers.f k l0=some true
theorem laws_FnSleepers.walk (P:laws_FnSleepers.Pure)(a0:Option Addr)(len0 cap0:Nat)(z0:List Int)(w:World)(w0:(a0=none∧len0=0∧cap0=0∧z0=[])∨∃x,a0=some x∧len0≤cap0∧cap0≤maxLen∧z0.length=cap0∧(∀i,i<z0.length→w.cell? (x.add i)=some (.int .u8 (z0.getD i 0)))∧∀n∈z0,(Lit.int .u8 n).wf=true)(y0:len0*1≤140737488351232):
  Calls Try.prog 6 #[.slice a0 len0 cap0] w fun e w'=>e=.returned (.bool true)∧Below w.heap.size w w':=by
 obtain⟨l0,rfl,hr0,hm0,hw0,hc0⟩:=ReadsInt.ofRowC w0;obtain⟨k,h⟩:=P l0 hm0 y0 hw0
 refine (laws_FnSleepers.calls k _ _ l0 w (Kd.C_of_reads (d:=(0:Int)) (h1:=fun _=>rfl) hr0) hc0 h).mono ?_
 rintro e w' ⟨rfl,hd⟩;exact⟨rfl,hd⟩
end Go.Proofs.Ytejjedooecephaa.PFnSleepers
end
