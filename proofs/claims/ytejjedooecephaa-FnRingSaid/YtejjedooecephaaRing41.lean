/-
  Texts joined by a program (shake.py), without what the claim does not use; printed walks among them (print.sh), and own ones.
-/
import Derived.Test.YtejjedooecephaaRing5
import Derived.Test.YtejjedooecephaaRing40
section
namespace Go.Proofs.Ytejjedooecephaa.PFnRing
open Go.RowKit Go.Proofs.YtejjedooecephaaW.PrintWords Go.Proofs.YtejjedooecephaaW.PrintLast Go.Proofs.YtejjedooecephaaW.PrintMore
attribute [local go_sem] max2_int min2_int max_two min_two max_three min_three max_four min_four -- for this text's walks alone
set_option linter.unusedVariables false
set_option linter.unusedSimpArgs false
attribute [local go_sem high] eqA67
mutual
def laws_FnRing.j0:Nat→Int→Int→List Int→List (S67)→Bool→Option (Bool)
 |0,_,_,_,_,_=>none
 |k+1,x3,x4,x8,x9,x51=>if x51=true then (some false) else (laws_FnRing.l0 k x3 x4 x9 x8 (x8.length:Int) 0)
def laws_FnRing.l0:Nat→Int→Int→List (S67)→List Int→Int→Int→Option (Bool)
 |0,_,_,_,_,_,_=>none
 |k+1,x3,x4,x9,x52,x53,x54=>if x54<x53 then (if 0≤x54 then (if x54<(x52.length:Int) then (if (rd x52 x54)=(wrap64 ((wrap64 (x4+1))+x54)) then (laws_FnRing.l0 k x3 x4 x9 x52 x53 (wrap64 (x54+1))) else (some false)) else (none)) else (none)) else (if 0<(x9.length:Int) then (if (!(((rd_T67 x9 0).f0)==0)||(!(((rd_T67 x9 0).f1)==3)||(!(((rd_T67 x9 0).f2)==(wrap64 (x4+x3))))))=true then (some false) else (laws_FnRing.l1 k x3 x4 x9 1)) else (none))
def laws_FnRing.l1:Nat→Int→Int→List (S67)→Int→Option (Bool)
 |0,_,_,_,_=>none
 |k+1,x3,x4,x9,x12=>if x12≤x3 then (if 0≤x12 then (if x12<(x9.length:Int) then (if x3=0 then (none) else (if (!(((rd_T67 x9 x12).f0)==(wrap64 (x4+x12)))||(!(((rd_T67 x9 x12).f1)==3)||(!(((rd_T67 x9 x12).f2)==(wrap64 ((wrap64 (x4+1))+(Int.tmod x12 x3)))))))=true then (some false) else (laws_FnRing.l1 k x3 x4 x9 (wrap64 (x12+1))))) else (none)) else (none)) else (some true)
end
def laws_FnRing.f (k:Nat)(l0:List Int):Option (Bool):=if (l0.length:Int)>1048576 then (some true) else ((laws_wByte.f l0 0).bind fun t162=>((laws_wByte.f l0 1).bind fun t163=>((spec_MadeRing.f k (Int.tmod t163 20) (wrap64 (1+(Int.tmod t162 15)))).bind fun bt164=>((impl_RunPlan.f k bt164.1 bt164.2.1 bt164.2.2 ([]:List (S74)) 500 10).bind fun bt173=>((impl_RingAt.f k bt164.1 bt164.2.1 bt164.2.2 ([]:List (S74)) 500 10).bind fun t183=>((impl_StuckAt.f k bt164.1 bt164.2.1 bt164.2.2 ([]:List (S74)) 500 10).bind fun t186=>(if bt173.1=1 then (if (t183.length:Int)=(wrap64 (1+(Int.tmod t162 15))) then (laws_FnRing.j0 k (wrap64 (1+(Int.tmod t162 15))) (Int.tmod t163 20) t183 t186 ((t186.length:Int) !=(wrap64 ((wrap64 (1+(Int.tmod t162 15)))+1)))) else (laws_FnRing.j0 k (wrap64 (1+(Int.tmod t162 15))) (Int.tmod t163 20) t183 t186 true)) else (laws_FnRing.j0 k (wrap64 (1+(Int.tmod t162 15))) (Int.tmod t163 20) t183 t186 true))))))))
set_option maxHeartbeats 8000000 in
set_option maxRecDepth 100000 in
theorem laws_FnRing.calls (k:Nat) (A0:Option Addr) (c0:Nat) (l0:List Int) (r:Bool) (w:World) (hr0:Kd.C (Kd.int .u8) w A0 l0.length l0) (hc0:l0.length≤c0) (h:laws_FnRing.f k l0=some r):
  Calls Try.prog 8 #[.slice A0 l0.length c0] w fun e w'=>e=.returned (.bool r)∧Below w.heap.size w w':=by
 have hu35:=Try.underlying35;have hu39:=Try.underlying39;have hu53:=Try.underlying53;have hu67:=Try.underlying67;have HR0:=Aside0.mk hr0;have HC0:=Aside0.mk hc0;clear hr0 hc0;have HB:=Aside0.mk (Below.refl w.heap.size w);have H:(if (l0.length:Int)>1048576 then (some true) else ((laws_wByte.f l0 0).bind fun t162=>((laws_wByte.f l0 1).bind fun t163=>((spec_MadeRing.f k (Int.tmod t163 20) (wrap64 (1+(Int.tmod t162 15)))).bind fun bt164=>((impl_RunPlan.f k bt164.1 bt164.2.1 bt164.2.2 ([]:List (S74)) 500 10).bind fun bt173=>((impl_RingAt.f k bt164.1 bt164.2.1 bt164.2.2 ([]:List (S74)) 500 10).bind fun t183=>((impl_StuckAt.f k bt164.1 bt164.2.1 bt164.2.2 ([]:List (S74)) 500 10).bind fun t186=>(if bt173.1=1 then (if (t183.length:Int)=(wrap64 (1+(Int.tmod t162 15))) then (laws_FnRing.j0 k (wrap64 (1+(Int.tmod t162 15))) (Int.tmod t163 20) t183 t186 ((t186.length:Int) !=(wrap64 ((wrap64 (1+(Int.tmod t162 15)))+1)))) else (laws_FnRing.j0 k (wrap64 (1+(Int.tmod t162 15))) (Int.tmod t163 20) t183 t186 true)) else (laws_FnRing.j0 k (wrap64 (1+(Int.tmod t162 15))) (Int.tmod t163 20) t183 t186 true)))))))))=some r:=h;clear h
 by_cases c2:(l0.length:Int)>1048576
 ·rw[if_pos c2] at H
  have c2b0:decide (1048576<(l0.length:Int))=true:=decide_eq_true c2;have c2b1:decide (1048576<l0.length)=true:=decide_eq_true (by omega);clear c2;obtain rfl:=Option.some.inj H
  go_enter Try.func8,Try.ntmps8
  go_wp2
  repeat (go_quiet (fail);try go_wp2)
  go_ret
  exact⟨by first|rfl|(simp[errW_none,errW_some]<;>rfl)|(simp[*,errW_none,errW_some]<;>rfl),by repeat (first|(with_reducible first|exact HB.out|apply below_alloc|apply pw_below_drewN|apply below_drew1)|exact HB.out)⟩
 ·rw[if_neg c2] at H
  have c2b0:decide (1048576<(l0.length:Int))=false:=decide_eq_false c2;have c2b1:decide (1048576<l0.length)=false:=decide_eq_false (by omega);clear c2;replace H:=Option.bind_eq_some_iff.mp H;obtain⟨t162,A30,H⟩:=H;replace H:((laws_wByte.f l0 1).bind fun t163=>((spec_MadeRing.f k (Int.tmod t163 20) (wrap64 (1+(Int.tmod t162 15)))).bind fun bt164=>((impl_RunPlan.f k bt164.1 bt164.2.1 bt164.2.2 ([]:List (S74)) 500 10).bind fun bt173=>((impl_RingAt.f k bt164.1 bt164.2.1 bt164.2.2 ([]:List (S74)) 500 10).bind fun t183=>((impl_StuckAt.f k bt164.1 bt164.2.1 bt164.2.2 ([]:List (S74)) 500 10).bind fun t186=>(if bt173.1=1 then (if (t183.length:Int)=(wrap64 (1+(Int.tmod t162 15))) then (laws_FnRing.j0 k (wrap64 (1+(Int.tmod t162 15))) (Int.tmod t163 20) t183 t186 ((t186.length:Int) !=(wrap64 ((wrap64 (1+(Int.tmod t162 15)))+1)))) else (laws_FnRing.j0 k (wrap64 (1+(Int.tmod t162 15))) (Int.tmod t163 20) t183 t186 true)) else (laws_FnRing.j0 k (wrap64 (1+(Int.tmod t162 15))) (Int.tmod t163 20) t183 t186 true)))))))=some r:=H;have A3:=Aside0.mk A30;clear A30;replace H:=Option.bind_eq_some_iff.mp H;obtain⟨t163,A40,H⟩:=H;replace H:((spec_MadeRing.f k (Int.tmod t163 20) (wrap64 (1+(Int.tmod t162 15)))).bind fun bt164=>((impl_RunPlan.f k bt164.1 bt164.2.1 bt164.2.2 ([]:List (S74)) 500 10).bind fun bt173=>((impl_RingAt.f k bt164.1 bt164.2.1 bt164.2.2 ([]:List (S74)) 500 10).bind fun t183=>((impl_StuckAt.f k bt164.1 bt164.2.1 bt164.2.2 ([]:List (S74)) 500 10).bind fun t186=>(if bt173.1=1 then (if (t183.length:Int)=(wrap64 (1+(Int.tmod t162 15))) then (laws_FnRing.j0 k (wrap64 (1+(Int.tmod t162 15))) (Int.tmod t163 20) t183 t186 ((t186.length:Int) !=(wrap64 ((wrap64 (1+(Int.tmod t162 15)))+1)))) else (laws_FnRing.j0 k (wrap64 (1+(Int.tmod t162 15))) (Int.tmod t163 20) t183 t186 true)) else (laws_FnRing.j0 k (wrap64 (1+(Int.tmod t162 15))) (Int.tmod t163 20) t183 t186 true))))))=some r:=H;have A4:=Aside0.mk A40;clear A40;replace H:=Option.bind_eq_some_iff.mp H;obtain⟨⟨t164,t167,t170⟩,A50,H⟩:=H;replace H:((impl_RunPlan.f k t164 t167 t170 ([]:List (S74)) 500 10).bind fun bt173=>((impl_RingAt.f k t164 t167 t170 ([]:List (S74)) 500 10).bind fun t183=>((impl_StuckAt.f k t164 t167 t170 ([]:List (S74)) 500 10).bind fun t186=>(if bt173.1=1 then (if (t183.length:Int)=(wrap64 (1+(Int.tmod t162 15))) then (laws_FnRing.j0 k (wrap64 (1+(Int.tmod t162 15))) (Int.tmod t163 20) t183 t186 ((t186.length:Int) !=(wrap64 ((wrap64 (1+(Int.tmod t162 15)))+1)))) else (laws_FnRing.j0 k (wrap64 (1+(Int.tmod t162 15))) (Int.tmod t163 20) t183 t186 true)) else (laws_FnRing.j0 k (wrap64 (1+(Int.tmod t162 15))) (Int.tmod t163 20) t183 t186 true)))))=some r:=H;have A5:=Aside0.mk A50;clear A50;replace H:=Option.bind_eq_some_iff.mp H;obtain⟨⟨t173,t174,t177,t178,t179⟩,A60,H⟩:=H;replace H:((impl_RingAt.f k t164 t167 t170 ([]:List (S74)) 500 10).bind fun t183=>((impl_StuckAt.f k t164 t167 t170 ([]:List (S74)) 500 10).bind fun t186=>(if t173=1 then (if (t183.length:Int)=(wrap64 (1+(Int.tmod t162 15))) then (laws_FnRing.j0 k (wrap64 (1+(Int.tmod t162 15))) (Int.tmod t163 20) t183 t186 ((t186.length:Int) !=(wrap64 ((wrap64 (1+(Int.tmod t162 15)))+1)))) else (laws_FnRing.j0 k (wrap64 (1+(Int.tmod t162 15))) (Int.tmod t163 20) t183 t186 true)) else (laws_FnRing.j0 k (wrap64 (1+(Int.tmod t162 15))) (Int.tmod t163 20) t183 t186 true))))=some r:=H;have A6:=Aside0.mk A60;clear A60;replace H:=Option.bind_eq_some_iff.mp H;obtain⟨t183,A70,H⟩:=H;replace H:((impl_StuckAt.f k t164 t167 t170 ([]:List (S74)) 500 10).bind fun t186=>(if t173=1 then (if (t183.length:Int)=(wrap64 (1+(Int.tmod t162 15))) then (laws_FnRing.j0 k (wrap64 (1+(Int.tmod t162 15))) (Int.tmod t163 20) t183 t186 ((t186.length:Int) !=(wrap64 ((wrap64 (1+(Int.tmod t162 15)))+1)))) else (laws_FnRing.j0 k (wrap64 (1+(Int.tmod t162 15))) (Int.tmod t163 20) t183 t186 true)) else (laws_FnRing.j0 k (wrap64 (1+(Int.tmod t162 15))) (Int.tmod t163 20) t183 t186 true)))=some r:=H;have A7:=Aside0.mk A70;clear A70;replace H:=Option.bind_eq_some_iff.mp H;obtain⟨t186,A80,H⟩:=H;replace H:(if t173=1 then (if (t183.length:Int)=(wrap64 (1+(Int.tmod t162 15))) then (laws_FnRing.j0 k (wrap64 (1+(Int.tmod t162 15))) (Int.tmod t163 20) t183 t186 ((t186.length:Int) !=(wrap64 ((wrap64 (1+(Int.tmod t162 15)))+1)))) else (laws_FnRing.j0 k (wrap64 (1+(Int.tmod t162 15))) (Int.tmod t163 20) t183 t186 true)) else (laws_FnRing.j0 k (wrap64 (1+(Int.tmod t162 15))) (Int.tmod t163 20) t183 t186 true))=some r:=H;have A8:=Aside0.mk A80;clear A80;have HC9:=Aside0.mk H;clear H
  go_enter Try.func8,Try.ntmps8
  go_upto_region 10 with (first|(go_at_call 26;(with_reducible refine (laws_wByte.calls _ _ l0 0 t162 _ ?side1 ?side2 A3.out).mono ?_);(case side1=>repeat (first|exact HR0.out|(with_reducible refine Kd.C_alloc ?_ _)|(with_reducible refine Kd.C_drewN ?_ _)|(with_reducible refine Kd.C_drew ?_)));(case side2=>exact HC0.out);rintro e w' ⟨rfl,⟨nd,rfl⟩⟩;(try first|exact ⟨rfl,_,World.drewN_drewN _ _ _⟩|exact ⟨rfl,_,Eq.trans (World.drewN_drewN _ _ _) (congrArg (World.drewN _) (Nat.add_assoc _ _ _))⟩))|(go_at_call 26;(with_reducible refine (laws_wByte.calls _ _ l0 1 t163 _ ?side1 ?side2 A4.out).mono ?_);(case side1=>repeat (first|exact HR0.out|(with_reducible refine Kd.C_alloc ?_ _)|(with_reducible refine Kd.C_drewN ?_ _)|(with_reducible refine Kd.C_drew ?_)));(case side2=>exact HC0.out);rintro e w' ⟨rfl,⟨nd,rfl⟩⟩;(try first|exact ⟨rfl,_,World.drewN_drewN _ _ _⟩|exact ⟨rfl,_,Eq.trans (World.drewN_drewN _ _ _) (congrArg (World.drewN _) (Nat.add_assoc _ _ _))⟩))|(go_at_call 33;(with_reducible refine (spec_MadeRing.callsZ k (Int.tmod t163 20) (wrap64 (1+(Int.tmod t162 15))) t164 t167 t170 _ A5.out).mono ?_);rintro e w10 ⟨v165,v168,rfl,ho0,ho1,hb⟩;have n0_:=Aside0.mk (Kd.S_lower ho0 (below_size (by repeat (first|(with_reducible first|exact HB.out|apply below_alloc|apply pw_below_drewN|apply below_drew1)|exact HB.out))));have n1_:=Aside0.mk (Kd.Z_lower ho1 (below_size (by repeat (first|(with_reducible first|exact HB.out|apply below_alloc|apply pw_below_drewN|apply below_drew1)|exact HB.out))));have n2_:=Aside0.mk (below_step (by repeat (first|(with_reducible first|exact HB.out|apply below_alloc|apply pw_below_drewN|apply below_drew1)|exact HB.out)) hb);clear HB;have HO166:=n0_;have HO169:=n1_;have HB:=n2_;clear n0_ n1_ n2_;(try clear hb);(try clear hb2);(try clear hk);(try clear hi);(try clear ho0);(try clear ho1))|((with_reducible refine gate_dst (N:=5) rfl ?_);(try (refine gate_guard (by rfl) ?_;dsimp only));refine box_event ?hg (N:=5) ?hd (cs:=#[.slice none 0 0,.slice none 0 0,.int .i64 0]) (t:=35) ?hr ?_;(case hd=>rfl);(case hg=>rfl);(case hr=>first|(go_simp;done)|(go_simp;rfl));intro gb171 hg w11 hbox hb;have n0_:=Aside0.mk (Kd.S_below (by (with_reducible repeat (first|apply Kd.S_alloc|apply Kd.S_drewN|apply Kd.S_drew));exact HO166.out) hb);have n1_:=Aside0.mk (Kd.Z_below (by (with_reducible repeat (first|apply Kd.Z_alloc|apply Kd.Z_drewN|apply Kd.Z_drew));exact HO169.out) hb);have n2_:=Aside0.mk (below_step (by repeat (first|(with_reducible first|exact HB.out|apply below_alloc|apply pw_below_drewN|apply below_drew1)|exact HB.out)) hb);have n3_:=Aside0.mk (hbox);have n4_:=Aside0.mk ((by rw[hg];exact (below_size (by repeat (first|(with_reducible first|exact HB.out|apply below_alloc|apply pw_below_drewN|apply below_drew1)|exact HB.out))):w.heap.size≤gb171));have n5_:=Aside0.mk ((by rw[hg];exact (below_size (by repeat (first|(with_reducible first|exact HB.out|apply below_alloc|apply pw_below_drewN|apply below_drew1)|exact HB.out))):w.heap.size≤gb171));clear HO166;clear HO169;clear HB;have HO166:=n0_;have HO169:=n1_;have HB:=n2_;have BK171:=n3_;have GW171:=n4_;have GE171:=n5_;clear n0_ n1_ n2_ n3_ n4_ n5_;clear hb hbox hg;obtain⟨Ao12,co12,eo12⟩:=Kd.S_slice HO166.out;subst eo12;have hcz13_0:w11.cell? ⟨gb171,0,none⟩=some (.slice none 0 0):=(blk_cell BK171.out 0).trans rfl;have hcz13_1:w11.cell? ⟨gb171,1,none⟩=some (.slice none 0 0):=(blk_cell BK171.out 1).trans rfl;have hcz13_2:w11.cell? ⟨gb171,2,none⟩=some (.int .i64 0):=(blk_cell BK171.out 2).trans rfl;have hfz13_0:=blk_frozen BK171.out 0;have hfz13_1:=blk_frozen BK171.out 1;have hfz13_2:=blk_frozen BK171.out 2;obtain⟨Ao14,co14,eo14⟩:=Kd.Z_slice HO169.out;subst eo14)|((with_reducible refine gate_dst (N:=6) rfl ?_);(try (refine gate_guard (by rfl) ?_;dsimp only));refine box_event ?hg (N:=6) ?hd (cs:=#[.slice none 0 0,.int .i64 0,.int .i64 0]) (t:=39) ?hr ?_;(case hd=>rfl);(case hg=>rfl);(case hr=>first|(go_simp;done)|(go_simp;rfl));intro gb172 hg w15 hbox hb;have n0_:=Aside0.mk (Kd.S_below (by (with_reducible repeat (first|apply Kd.S_alloc|apply Kd.S_drewN|apply Kd.S_drew));exact (Kd.S_mono (Kd.S_far (p:=⟨gb171,2,none⟩) (Kd.S_far (p:=⟨gb171,1,none⟩) (Kd.S_far (p:=⟨gb171,0,none⟩) (Kd.S_types HO166.out BK171.out (by decide)) (fun _ hk=>hk.2) (.slice Ao12 t164.length co12)) (fun _ hk=>hk.2) (.slice Ao14 t167.length co14)) (fun _ hk=>hk.2) (.int .i64 t170)) (fun _ h_=>h_.1))) hb);have n1_:=Aside0.mk (Kd.Z_below (by (with_reducible repeat (first|apply Kd.Z_alloc|apply Kd.Z_drewN|apply Kd.Z_drew));exact (Kd.Z_mono (Kd.Z_far (p:=⟨gb171,2,none⟩) (Kd.Z_far (p:=⟨gb171,1,none⟩) (Kd.Z_far (p:=⟨gb171,0,none⟩) (Kd.Z_types HO169.out BK171.out (by decide)) (fun _ hk=>hk.2) (.slice Ao12 t164.length co12)) (fun _ hk=>hk.2) (.slice Ao14 t167.length co14)) (fun _ hk=>hk.2) (.int .i64 t170)) (fun _ h_=>h_.1))) hb);have n2_:=Aside0.mk (blk_below (g:=gb171) (o:=.cells #[.slice Ao12 t164.length co12,.slice Ao14 t167.length co14,.int .i64 t170] 35 (0,0)) (by (with_reducible repeat (first|refine blk_drewN ?_ _|refine blk_drew ?_|refine blk_alloc ?_ _));refine blk_put (cs:=#[.slice Ao12 t164.length co12,.slice Ao14 t167.length co14,.int .i64 0]) ?_ 2 _ rfl;(with_reducible repeat (first|refine blk_drewN ?_ _|refine blk_drew ?_|refine blk_alloc ?_ _));refine blk_put (cs:=#[.slice Ao12 t164.length co12,.slice none 0 0,.int .i64 0]) ?_ 1 _ rfl;(with_reducible repeat (first|refine blk_drewN ?_ _|refine blk_drew ?_|refine blk_alloc ?_ _));refine blk_put (cs:=#[.slice none 0 0,.slice none 0 0,.int .i64 0]) ?_ 0 _ rfl;(with_reducible repeat (first|refine blk_drewN ?_ _|refine blk_drew ?_|refine blk_alloc ?_ _));exact BK171.out) hb);have n3_:=Aside0.mk (below_step (by repeat (first|(with_reducible first|exact HB.out|apply below_alloc|apply pw_below_drewN|apply below_drew1|refine below_set ?_ GE171.out)|exact HB.out)) hb);have n4_:=Aside0.mk (hbox);have n5_:=Aside0.mk ((by rw[hg];exact (below_size (by repeat (first|(with_reducible first|exact HB.out|apply below_alloc|apply pw_below_drewN|apply below_drew1|refine below_set ?_ GE171.out)|exact HB.out))):w.heap.size≤gb172));have n6_:=Aside0.mk ((by rw[hg];exact (below_size (by repeat (first|(with_reducible first|exact HB.out|apply below_alloc|apply pw_below_drewN|apply below_drew1|refine below_set ?_ GE171.out)|exact HB.out))):w.heap.size≤gb172));have n7_:=Aside0.mk ((by rw[hg];exact Nat.ne_of_lt (blk_lt (g:=gb171) (o:=.cells #[.slice Ao12 t164.length co12,.slice Ao14 t167.length co14,.int .i64 t170] 35 (0,0)) (by (with_reducible repeat (first|refine blk_drewN ?_ _|refine blk_drew ?_|refine blk_alloc ?_ _));refine blk_put (cs:=#[.slice Ao12 t164.length co12,.slice Ao14 t167.length co14,.int .i64 0]) ?_ 2 _ rfl;(with_reducible repeat (first|refine blk_drewN ?_ _|refine blk_drew ?_|refine blk_alloc ?_ _));refine blk_put (cs:=#[.slice Ao12 t164.length co12,.slice none 0 0,.int .i64 0]) ?_ 1 _ rfl;(with_reducible repeat (first|refine blk_drewN ?_ _|refine blk_drew ?_|refine blk_alloc ?_ _));refine blk_put (cs:=#[.slice none 0 0,.slice none 0 0,.int .i64 0]) ?_ 0 _ rfl;(with_reducible repeat (first|refine blk_drewN ?_ _|refine blk_drew ?_|refine blk_alloc ?_ _));exact BK171.out)):gb171≠gb172));have n8_:=Aside0.mk ((by rw[hg];exact Nat.ne_of_gt (blk_lt (g:=gb171) (o:=.cells #[.slice Ao12 t164.length co12,.slice Ao14 t167.length co14,.int .i64 t170] 35 (0,0)) (by (with_reducible repeat (first|refine blk_drewN ?_ _|refine blk_drew ?_|refine blk_alloc ?_ _));refine blk_put (cs:=#[.slice Ao12 t164.length co12,.slice Ao14 t167.length co14,.int .i64 0]) ?_ 2 _ rfl;(with_reducible repeat (first|refine blk_drewN ?_ _|refine blk_drew ?_|refine blk_alloc ?_ _));refine blk_put (cs:=#[.slice Ao12 t164.length co12,.slice none 0 0,.int .i64 0]) ?_ 1 _ rfl;(with_reducible repeat (first|refine blk_drewN ?_ _|refine blk_drew ?_|refine blk_alloc ?_ _));refine blk_put (cs:=#[.slice none 0 0,.slice none 0 0,.int .i64 0]) ?_ 0 _ rfl;(with_reducible repeat (first|refine blk_drewN ?_ _|refine blk_drew ?_|refine blk_alloc ?_ _));exact BK171.out)):gb172≠gb171));clear HO166;clear HO169;clear BK171;clear HB;have HO166:=n0_;have HO169:=n1_;have BK171:=n2_;have HB:=n3_;have BK172:=n4_;have GW172:=n5_;have GE172:=n6_;have NB171_172:=n7_;have NB172_171:=n8_;clear n0_ n1_ n2_ n3_ n4_ n5_ n6_ n7_ n8_;clear hb hbox hg;have hnb16:=NB172_171.out;have hnc16:=NB171_172.out;have hcz17_0:w15.cell? ⟨gb172,0,none⟩=some (.slice none 0 0):=(blk_cell BK172.out 0).trans rfl;have hcz17_1:w15.cell? ⟨gb172,1,none⟩=some (.int .i64 0):=(blk_cell BK172.out 1).trans rfl;have hcz17_2:w15.cell? ⟨gb172,2,none⟩=some (.int .i64 0):=(blk_cell BK172.out 2).trans rfl;have hfz17_0:=blk_frozen BK172.out 0;have hfz17_1:=blk_frozen BK172.out 1;have hfz17_2:=blk_frozen BK172.out 2;have hcz18_0:w15.cell? ⟨gb171,0,none⟩=some (.slice Ao12 t164.length co12):=(blk_cell BK171.out 0).trans rfl;have hcz18_1:w15.cell? ⟨gb171,1,none⟩=some (.slice Ao14 t167.length co14):=(blk_cell BK171.out 1).trans rfl;have hcz18_2:w15.cell? ⟨gb171,2,none⟩=some (.int .i64 t170):=(blk_cell BK171.out 2).trans rfl;have hfz18_0:=blk_frozen BK171.out 0;have hfz18_1:=blk_frozen BK171.out 1;have hfz18_2:=blk_frozen BK171.out 2)|(go_at_call 27;(refine (impl_RunPlan.calls k _ _ t164 _ _ t167 t170 _ _ ([]:List (S74)) 500 10 t173 t174 t177 t178 t179 _ ?side1 ?side2 ?side3 ?side4 ?side5 ?side6 A6.out).mono ?_);(case side1=>refine (Kd.S_reads' (e:=98) (base:=w.heap.size) (ok:=fun k_=>True) (n:=t164.length) (c:=co12) ?_).2.2;exact (by (with_reducible repeat (first|apply Kd.S_alloc|apply Kd.S_drewN|apply Kd.S_drew));exact (Kd.S_mono (Kd.S_far (p:=⟨gb172,2,none⟩) (Kd.S_far (p:=⟨gb172,1,none⟩) (Kd.S_far (p:=⟨gb172,0,none⟩) (Kd.S_types HO166.out BK172.out (by decide)) (fun _ hk=>hk.2) (.slice none 0 0)) (fun _ hk=>hk.2) (.int .i64 500)) (fun _ hk=>hk.2) (.int .i64 10)) (fun _ h_=>h_.1))));(case side2=>exact (Kd.S_reads' HO166.out).2.1);(case side3=>refine (Kd.Z_reads' (e:=3) (base:=w.heap.size) (ok:=fun k_=>True) (n:=t167.length) (c:=co14) ?_).2.2;exact (by (with_reducible repeat (first|apply Kd.Z_alloc|apply Kd.Z_drewN|apply Kd.Z_drew));exact (Kd.Z_mono (Kd.Z_far (p:=⟨gb172,2,none⟩) (Kd.Z_far (p:=⟨gb172,1,none⟩) (Kd.Z_far (p:=⟨gb172,0,none⟩) (Kd.Z_types HO169.out BK172.out (by decide)) (fun _ hk=>hk.2) (.slice none 0 0)) (fun _ hk=>hk.2) (.int .i64 500)) (fun _ hk=>hk.2) (.int .i64 10)) (fun _ h_=>h_.1))));(case side4=>exact (Kd.Z_reads' HO169.out).2.1);(case side5=>exact Kd.C_nil _ _);(case side6=>exact Nat.le_refl _);rintro e w19 ⟨v175,v180,rfl,ho0,ho1,hb⟩;have n0_:=Aside0.mk (Kd.S_below (by (with_reducible repeat (first|apply Kd.S_alloc|apply Kd.S_drewN|apply Kd.S_drew));exact (Kd.S_mono (Kd.S_far (p:=⟨gb172,2,none⟩) (Kd.S_far (p:=⟨gb172,1,none⟩) (Kd.S_far (p:=⟨gb172,0,none⟩) (Kd.S_types HO166.out BK172.out (by decide)) (fun _ hk=>hk.2) (.slice none 0 0)) (fun _ hk=>hk.2) (.int .i64 500)) (fun _ hk=>hk.2) (.int .i64 10)) (fun _ h_=>h_.1))) hb);have n1_:=Aside0.mk (Kd.Z_elder' (by (with_reducible repeat (first|apply Kd.Z_alloc|apply Kd.Z_drewN|apply Kd.Z_drew));exact (Kd.Z_mono (Kd.Z_far (p:=⟨gb172,2,none⟩) (Kd.Z_far (p:=⟨gb172,1,none⟩) (Kd.Z_far (p:=⟨gb172,0,none⟩) (Kd.Z_types HO169.out BK172.out (by decide)) (fun _ hk=>hk.2) (.slice none 0 0)) (fun _ hk=>hk.2) (.int .i64 500)) (fun _ hk=>hk.2) (.int .i64 10)) (fun _ h_=>h_.1))) (Kd.Z_base ho1) hb);have n2_:=Aside0.mk (Kd.Z_lower ho0 (below_size (by repeat (first|(with_reducible first|exact HB.out|apply below_alloc|apply pw_below_drewN|apply below_drew1|refine below_set ?_ GE171.out|refine below_set ?_ GE172.out)|exact HB.out))));have n3_:=Aside0.mk (Kd.Z_lower (Kd.Z_new' ho1 (Kd.Z_lt (by (with_reducible repeat (first|apply Kd.Z_alloc|apply Kd.Z_drewN|apply Kd.Z_drew));exact (Kd.Z_mono (Kd.Z_far (p:=⟨gb172,2,none⟩) (Kd.Z_far (p:=⟨gb172,1,none⟩) (Kd.Z_far (p:=⟨gb172,0,none⟩) (Kd.Z_types HO169.out BK172.out (by decide)) (fun _ hk=>hk.2) (.slice none 0 0)) (fun _ hk=>hk.2) (.int .i64 500)) (fun _ hk=>hk.2) (.int .i64 10)) (fun _ h_=>h_.1))))) (below_size (by repeat (first|(with_reducible first|exact HB.out|apply below_alloc|apply pw_below_drewN|apply below_drew1|refine below_set ?_ GE171.out|refine below_set ?_ GE172.out)|exact HB.out))));have n4_:=Aside0.mk (blk_below (g:=gb171) (o:=.cells #[.slice Ao12 t164.length co12,.slice Ao14 t167.length co14,.int .i64 t170] 35 (0,0)) (by (with_reducible repeat (first|refine blk_drewN ?_ _|refine blk_drew ?_|refine blk_alloc ?_ _));refine blk_far ?_ NB171_172.out _;(with_reducible repeat (first|refine blk_drewN ?_ _|refine blk_drew ?_|refine blk_alloc ?_ _));refine blk_far ?_ NB171_172.out _;(with_reducible repeat (first|refine blk_drewN ?_ _|refine blk_drew ?_|refine blk_alloc ?_ _));refine blk_far ?_ NB171_172.out _;(with_reducible repeat (first|refine blk_drewN ?_ _|refine blk_drew ?_|refine blk_alloc ?_ _));exact BK171.out) hb);have n5_:=Aside0.mk (blk_below (g:=gb172) (o:=.cells #[.slice none 0 0,.int .i64 500,.int .i64 10] 39 (0,0)) (by (with_reducible repeat (first|refine blk_drewN ?_ _|refine blk_drew ?_|refine blk_alloc ?_ _));refine blk_put (cs:=#[.slice none 0 0,.int .i64 500,.int .i64 0]) ?_ 2 _ rfl;(with_reducible repeat (first|refine blk_drewN ?_ _|refine blk_drew ?_|refine blk_alloc ?_ _));refine blk_put (cs:=#[.slice none 0 0,.int .i64 0,.int .i64 0]) ?_ 1 _ rfl;(with_reducible repeat (first|refine blk_drewN ?_ _|refine blk_drew ?_|refine blk_alloc ?_ _));refine blk_put (cs:=#[.slice none 0 0,.int .i64 0,.int .i64 0]) ?_ 0 _ rfl;(with_reducible repeat (first|refine blk_drewN ?_ _|refine blk_drew ?_|refine blk_alloc ?_ _));exact BK172.out) hb);have n6_:=Aside0.mk (below_step (by repeat (first|(with_reducible first|exact HB.out|apply below_alloc|apply pw_below_drewN|apply below_drew1|refine below_set ?_ GE171.out|refine below_set ?_ GE172.out)|exact HB.out)) hb);clear HO166;clear HO169;clear BK171;clear BK172;clear HB;have HO166:=n0_;have HO169:=n1_;have HO176:=n2_;have HO181:=n3_;have BK171:=n4_;have BK172:=n5_;have HB:=n6_;clear n0_ n1_ n2_ n3_ n4_ n5_ n6_;(try clear hb);(try clear hb2);(try clear hk);(try clear hi);(try clear ho0);(try clear ho1))|((with_reducible refine gate_dst (N:=7) rfl ?_);(try (refine gate_guard (by rfl) ?_;dsimp only));refine box_event ?hg (N:=7) ?hd (cs:=#[.int .i64 0,.slice none 0 0,.int .i64 0,.int .i64 0,.slice none 0 0]) (t:=53) ?hr ?_;(case hd=>rfl);(case hg=>rfl);(case hr=>first|(go_simp;done)|(go_simp;rfl));intro gb182 hg w20 hbox hb;have n0_:=Aside0.mk (Kd.S_below (by (with_reducible repeat (first|apply Kd.S_alloc|apply Kd.S_drewN|apply Kd.S_drew));exact HO166.out) hb);have n1_:=Aside0.mk (Kd.Z_below (by (with_reducible repeat (first|apply Kd.Z_alloc|apply Kd.Z_drewN|apply Kd.Z_drew));exact HO169.out) hb);have n2_:=Aside0.mk (Kd.Z_below (by (with_reducible repeat (first|apply Kd.Z_alloc|apply Kd.Z_drewN|apply Kd.Z_drew));exact HO176.out) hb);have n3_:=Aside0.mk (Kd.Z_below (by (with_reducible repeat (first|apply Kd.Z_alloc|apply Kd.Z_drewN|apply Kd.Z_drew));exact HO181.out) hb);have n4_:=Aside0.mk (blk_below (g:=gb171) (o:=.cells #[.slice Ao12 t164.length co12,.slice Ao14 t167.length co14,.int .i64 t170] 35 (0,0)) (by (with_reducible repeat (first|refine blk_drewN ?_ _|refine blk_drew ?_|refine blk_alloc ?_ _));exact BK171.out) hb);have n5_:=Aside0.mk (blk_below (g:=gb172) (o:=.cells #[.slice none 0 0,.int .i64 500,.int .i64 10] 39 (0,0)) (by (with_reducible repeat (first|refine blk_drewN ?_ _|refine blk_drew ?_|refine blk_alloc ?_ _));exact BK172.out) hb);have n6_:=Aside0.mk (below_step (by repeat (first|(with_reducible first|exact HB.out|apply below_alloc|apply pw_below_drewN|apply below_drew1|refine below_set ?_ GE171.out|refine below_set ?_ GE172.out)|exact HB.out)) hb);have n7_:=Aside0.mk (hbox);have n8_:=Aside0.mk ((by rw[hg];exact (below_size (by repeat (first|(with_reducible first|exact HB.out|apply below_alloc|apply pw_below_drewN|apply below_drew1|refine below_set ?_ GE171.out|refine below_set ?_ GE172.out)|exact HB.out))):w.heap.size≤gb182));have n9_:=Aside0.mk ((by rw[hg];exact (below_size (by repeat (first|(with_reducible first|exact HB.out|apply below_alloc|apply pw_below_drewN|apply below_drew1|refine below_set ?_ GE171.out|refine below_set ?_ GE172.out)|exact HB.out))):w.heap.size≤gb182));have n10_:=Aside0.mk ((by rw[hg];exact Nat.ne_of_lt (blk_lt (g:=gb171) (o:=.cells #[.slice Ao12 t164.length co12,.slice Ao14 t167.length co14,.int .i64 t170] 35 (0,0)) (by (with_reducible repeat (first|refine blk_drewN ?_ _|refine blk_drew ?_|refine blk_alloc ?_ _));exact BK171.out)):gb171≠gb182));have n11_:=Aside0.mk ((by rw[hg];exact Nat.ne_of_gt (blk_lt (g:=gb171) (o:=.cells #[.slice Ao12 t164.length co12,.slice Ao14 t167.length co14,.int .i64 t170] 35 (0,0)) (by (with_reducible repeat (first|refine blk_drewN ?_ _|refine blk_drew ?_|refine blk_alloc ?_ _));exact BK171.out)):gb182≠gb171));have n12_:=Aside0.mk ((by rw[hg];exact Nat.ne_of_lt (blk_lt (g:=gb172) (o:=.cells #[.slice none 0 0,.int .i64 500,.int .i64 10] 39 (0,0)) (by (with_reducible repeat (first|refine blk_drewN ?_ _|refine blk_drew ?_|refine blk_alloc ?_ _));exact BK172.out)):gb172≠gb182));have n13_:=Aside0.mk ((by rw[hg];exact Nat.ne_of_gt (blk_lt (g:=gb172) (o:=.cells #[.slice none 0 0,.int .i64 500,.int .i64 10] 39 (0,0)) (by (with_reducible repeat (first|refine blk_drewN ?_ _|refine blk_drew ?_|refine blk_alloc ?_ _));exact BK172.out)):gb182≠gb172));clear HO166;clear HO169;clear HO176;clear HO181;clear BK171;clear BK172;clear HB;have HO166:=n0_;have HO169:=n1_;have HO176:=n2_;have HO181:=n3_;have BK171:=n4_;have BK172:=n5_;have HB:=n6_;have BK182:=n7_;have GW182:=n8_;have GE182:=n9_;have NB171_182:=n10_;have NB182_171:=n11_;have NB172_182:=n12_;have NB182_172:=n13_;clear n0_ n1_ n2_ n3_ n4_ n5_ n6_ n7_ n8_ n9_ n10_ n11_ n12_ n13_;clear hb hbox hg;have hnb21:=NB182_171.out;have hnc21:=NB171_182.out;have hnb22:=NB182_172.out;have hnc22:=NB172_182.out;have hcz23_0:w20.cell? ⟨gb182,0,none⟩=some (.int .i64 0):=(blk_cell BK182.out 0).trans rfl;have hcz23_1:w20.cell? ⟨gb182,1,none⟩=some (.slice none 0 0):=(blk_cell BK182.out 1).trans rfl;have hcz23_2:w20.cell? ⟨gb182,2,none⟩=some (.int .i64 0):=(blk_cell BK182.out 2).trans rfl;have hcz23_3:w20.cell? ⟨gb182,3,none⟩=some (.int .i64 0):=(blk_cell BK182.out 3).trans rfl;have hcz23_4:w20.cell? ⟨gb182,4,none⟩=some (.slice none 0 0):=(blk_cell BK182.out 4).trans rfl;have hfz23_0:=blk_frozen BK182.out 0;have hfz23_1:=blk_frozen BK182.out 1;have hfz23_2:=blk_frozen BK182.out 2;have hfz23_3:=blk_frozen BK182.out 3;have hfz23_4:=blk_frozen BK182.out 4;obtain⟨Ao24,co24,eo24⟩:=Kd.Z_slice HO176.out;subst eo24;obtain⟨Ao25,co25,eo25⟩:=Kd.Z_slice HO181.out;subst eo25;have hcz26_0:w20.cell? ⟨gb171,0,none⟩=some (.slice Ao12 t164.length co12):=(blk_cell BK171.out 0).trans rfl;have hcz26_1:w20.cell? ⟨gb171,1,none⟩=some (.slice Ao14 t167.length co14):=(blk_cell BK171.out 1).trans rfl;have hcz26_2:w20.cell? ⟨gb171,2,none⟩=some (.int .i64 t170):=(blk_cell BK171.out 2).trans rfl;have hfz26_0:=blk_frozen BK171.out 0;have hfz26_1:=blk_frozen BK171.out 1;have hfz26_2:=blk_frozen BK171.out 2;have hcz27_0:w20.cell? ⟨gb172,0,none⟩=some (.slice none 0 0):=(blk_cell BK172.out 0).trans rfl;have hcz27_1:w20.cell? ⟨gb172,1,none⟩=some (.int .i64 500):=(blk_cell BK172.out 1).trans rfl;have hcz27_2:w20.cell? ⟨gb172,2,none⟩=some (.int .i64 10):=(blk_cell BK172.out 2).trans rfl;have hfz27_0:=blk_frozen BK172.out 0;have hfz27_1:=blk_frozen BK172.out 1;have hfz27_2:=blk_frozen BK172.out 2)|(go_at_call 34;(refine (impl_RingAt.calls k _ _ t164 _ _ t167 t170 _ _ ([]:List (S74)) 500 10 t183 _ ?side1 ?side2 ?side3 ?side4 ?side5 ?side6 A7.out).mono ?_);(case side1=>refine (Kd.S_reads' (e:=98) (base:=w.heap.size) (ok:=fun k_=>True) (n:=t164.length) (c:=co12) ?_).2.2;exact (by (with_reducible repeat (first|apply Kd.S_alloc|apply Kd.S_drewN|apply Kd.S_drew));exact (Kd.S_mono (Kd.S_far (p:=⟨gb182,4,none⟩) (Kd.S_far (p:=⟨gb182,3,none⟩) (Kd.S_far (p:=⟨gb182,2,none⟩) (Kd.S_far (p:=⟨gb182,1,none⟩) (Kd.S_far (p:=⟨gb182,0,none⟩) (Kd.S_types HO166.out BK182.out (by decide)) (fun _ hk=>hk.2) (.int .i64 t173)) (fun _ hk=>hk.2) (.slice Ao24 t174.length co24)) (fun _ hk=>hk.2) (.int .i64 t177)) (fun _ hk=>hk.2) (.int .i64 t178)) (fun _ hk=>hk.2) (.slice Ao25 t179.length co25)) (fun _ h_=>h_.1))));(case side2=>exact (Kd.S_reads' HO166.out).2.1);(case side3=>refine (Kd.Z_reads' (e:=3) (base:=w.heap.size) (ok:=fun k_=>(True∧some k_≠(.slice Ao25 t179.length co25:Value).ownBlock)) (n:=t167.length) (c:=co14) ?_).2.2;exact (by (with_reducible repeat (first|apply Kd.Z_alloc|apply Kd.Z_drewN|apply Kd.Z_drew));exact (Kd.Z_mono (Kd.Z_far (p:=⟨gb182,4,none⟩) (Kd.Z_far (p:=⟨gb182,3,none⟩) (Kd.Z_far (p:=⟨gb182,2,none⟩) (Kd.Z_far (p:=⟨gb182,1,none⟩) (Kd.Z_far (p:=⟨gb182,0,none⟩) (Kd.Z_types HO169.out BK182.out (by decide)) (fun _ hk=>hk.2) (.int .i64 t173)) (fun _ hk=>hk.2) (.slice Ao24 t174.length co24)) (fun _ hk=>hk.2) (.int .i64 t177)) (fun _ hk=>hk.2) (.int .i64 t178)) (fun _ hk=>hk.2) (.slice Ao25 t179.length co25)) (fun _ h_=>h_.1))));(case side4=>exact (Kd.Z_reads' HO169.out).2.1);(case side5=>exact Kd.C_nil _ _);(case side6=>exact Nat.le_refl _);rintro e w28 ⟨v184,rfl,ho0,hb⟩;have n0_:=Aside0.mk (Kd.S_below (by (with_reducible repeat (first|apply Kd.S_alloc|apply Kd.S_drewN|apply Kd.S_drew));exact (Kd.S_mono (Kd.S_far (p:=⟨gb182,4,none⟩) (Kd.S_far (p:=⟨gb182,3,none⟩) (Kd.S_far (p:=⟨gb182,2,none⟩) (Kd.S_far (p:=⟨gb182,1,none⟩) (Kd.S_far (p:=⟨gb182,0,none⟩) (Kd.S_types HO166.out BK182.out (by decide)) (fun _ hk=>hk.2) (.int .i64 t173)) (fun _ hk=>hk.2) (.slice Ao24 t174.length co24)) (fun _ hk=>hk.2) (.int .i64 t177)) (fun _ hk=>hk.2) (.int .i64 t178)) (fun _ hk=>hk.2) (.slice Ao25 t179.length co25)) (fun _ h_=>h_.1))) hb);have n1_:=Aside0.mk (Kd.Z_elder' (by (with_reducible repeat (first|apply Kd.Z_alloc|apply Kd.Z_drewN|apply Kd.Z_drew));exact (Kd.Z_mono (Kd.Z_far (p:=⟨gb182,4,none⟩) (Kd.Z_far (p:=⟨gb182,3,none⟩) (Kd.Z_far (p:=⟨gb182,2,none⟩) (Kd.Z_far (p:=⟨gb182,1,none⟩) (Kd.Z_far (p:=⟨gb182,0,none⟩) (Kd.Z_types HO169.out BK182.out (by decide)) (fun _ hk=>hk.2) (.int .i64 t173)) (fun _ hk=>hk.2) (.slice Ao24 t174.length co24)) (fun _ hk=>hk.2) (.int .i64 t177)) (fun _ hk=>hk.2) (.int .i64 t178)) (fun _ hk=>hk.2) (.slice Ao25 t179.length co25)) (fun _ h_=>h_.1))) (Kd.Z_base ho0) hb);have n2_:=Aside0.mk (Kd.Z_below (by (with_reducible repeat (first|apply Kd.Z_alloc|apply Kd.Z_drewN|apply Kd.Z_drew));exact (Kd.Z_mono (Kd.Z_far (p:=⟨gb182,4,none⟩) (Kd.Z_far (p:=⟨gb182,3,none⟩) (Kd.Z_far (p:=⟨gb182,2,none⟩) (Kd.Z_far (p:=⟨gb182,1,none⟩) (Kd.Z_far (p:=⟨gb182,0,none⟩) (Kd.Z_types HO176.out BK182.out (by decide)) (fun _ hk=>hk.2) (.int .i64 t173)) (fun _ hk=>hk.2) (.slice Ao24 t174.length co24)) (fun _ hk=>hk.2) (.int .i64 t177)) (fun _ hk=>hk.2) (.int .i64 t178)) (fun _ hk=>hk.2) (.slice Ao25 t179.length co25)) (fun _ h_=>h_.1))) hb);have n3_:=Aside0.mk (Kd.Z_elder' (by (with_reducible repeat (first|apply Kd.Z_alloc|apply Kd.Z_drewN|apply Kd.Z_drew));exact (Kd.Z_mono (Kd.Z_far (p:=⟨gb182,4,none⟩) (Kd.Z_far (p:=⟨gb182,3,none⟩) (Kd.Z_far (p:=⟨gb182,2,none⟩) (Kd.Z_far (p:=⟨gb182,1,none⟩) (Kd.Z_far (p:=⟨gb182,0,none⟩) (Kd.Z_types HO181.out BK182.out (by decide)) (fun _ hk=>hk.2) (.int .i64 t173)) (fun _ hk=>hk.2) (.slice Ao24 t174.length co24)) (fun _ hk=>hk.2) (.int .i64 t177)) (fun _ hk=>hk.2) (.int .i64 t178)) (fun _ hk=>hk.2) (.slice Ao25 t179.length co25)) (fun _ h_=>h_.1))) (Kd.Z_base ho0) hb);have n4_:=Aside0.mk (Kd.Z_lower (Kd.Z_new' (Kd.Z_new' ho0 (Kd.Z_lt (by (with_reducible repeat (first|apply Kd.Z_alloc|apply Kd.Z_drewN|apply Kd.Z_drew));exact (Kd.Z_mono (Kd.Z_far (p:=⟨gb182,4,none⟩) (Kd.Z_far (p:=⟨gb182,3,none⟩) (Kd.Z_far (p:=⟨gb182,2,none⟩) (Kd.Z_far (p:=⟨gb182,1,none⟩) (Kd.Z_far (p:=⟨gb182,0,none⟩) (Kd.Z_types HO169.out BK182.out (by decide)) (fun _ hk=>hk.2) (.int .i64 t173)) (fun _ hk=>hk.2) (.slice Ao24 t174.length co24)) (fun _ hk=>hk.2) (.int .i64 t177)) (fun _ hk=>hk.2) (.int .i64 t178)) (fun _ hk=>hk.2) (.slice Ao25 t179.length co25)) (fun _ h_=>h_.1))))) (Kd.Z_lt (by (with_reducible repeat (first|apply Kd.Z_alloc|apply Kd.Z_drewN|apply Kd.Z_drew));exact (Kd.Z_mono (Kd.Z_far (p:=⟨gb182,4,none⟩) (Kd.Z_far (p:=⟨gb182,3,none⟩) (Kd.Z_far (p:=⟨gb182,2,none⟩) (Kd.Z_far (p:=⟨gb182,1,none⟩) (Kd.Z_far (p:=⟨gb182,0,none⟩) (Kd.Z_types HO181.out BK182.out (by decide)) (fun _ hk=>hk.2) (.int .i64 t173)) (fun _ hk=>hk.2) (.slice Ao24 t174.length co24)) (fun _ hk=>hk.2) (.int .i64 t177)) (fun _ hk=>hk.2) (.int .i64 t178)) (fun _ hk=>hk.2) (.slice Ao25 t179.length co25)) (fun _ h_=>h_.1))))) (below_size (by repeat (first|(with_reducible first|exact HB.out|apply below_alloc|apply pw_below_drewN|apply below_drew1|refine below_set ?_ GE171.out|refine below_set ?_ GE172.out|refine below_set ?_ GE182.out)|exact HB.out))));have n5_:=Aside0.mk (blk_below (g:=gb171) (o:=.cells #[.slice Ao12 t164.length co12,.slice Ao14 t167.length co14,.int .i64 t170] 35 (0,0)) (by (with_reducible repeat (first|refine blk_drewN ?_ _|refine blk_drew ?_|refine blk_alloc ?_ _));refine blk_far ?_ NB171_182.out _;(with_reducible repeat (first|refine blk_drewN ?_ _|refine blk_drew ?_|refine blk_alloc ?_ _));refine blk_far ?_ NB171_182.out _;(with_reducible repeat (first|refine blk_drewN ?_ _|refine blk_drew ?_|refine blk_alloc ?_ _));refine blk_far ?_ NB171_182.out _;(with_reducible repeat (first|refine blk_drewN ?_ _|refine blk_drew ?_|refine blk_alloc ?_ _));refine blk_far ?_ NB171_182.out _;(with_reducible repeat (first|refine blk_drewN ?_ _|refine blk_drew ?_|refine blk_alloc ?_ _));refine blk_far ?_ NB171_182.out _;(with_reducible repeat (first|refine blk_drewN ?_ _|refine blk_drew ?_|refine blk_alloc ?_ _));exact BK171.out) hb);have n6_:=Aside0.mk (blk_below (g:=gb172) (o:=.cells #[.slice none 0 0,.int .i64 500,.int .i64 10] 39 (0,0)) (by (with_reducible repeat (first|refine blk_drewN ?_ _|refine blk_drew ?_|refine blk_alloc ?_ _));refine blk_far ?_ NB172_182.out _;(with_reducible repeat (first|refine blk_drewN ?_ _|refine blk_drew ?_|refine blk_alloc ?_ _));refine blk_far ?_ NB172_182.out _;(with_reducible repeat (first|refine blk_drewN ?_ _|refine blk_drew ?_|refine blk_alloc ?_ _));refine blk_far ?_ NB172_182.out _;(with_reducible repeat (first|refine blk_drewN ?_ _|refine blk_drew ?_|refine blk_alloc ?_ _));refine blk_far ?_ NB172_182.out _;(with_reducible repeat (first|refine blk_drewN ?_ _|refine blk_drew ?_|refine blk_alloc ?_ _));refine blk_far ?_ NB172_182.out _;(with_reducible repeat (first|refine blk_drewN ?_ _|refine blk_drew ?_|refine blk_alloc ?_ _));exact BK172.out) hb);have n7_:=Aside0.mk (blk_below (g:=gb182) (o:=.cells #[.int .i64 t173,.slice Ao24 t174.length co24,.int .i64 t177,.int .i64 t178,.slice Ao25 t179.length co25] 53 (0,0)) (by (with_reducible repeat (first|refine blk_drewN ?_ _|refine blk_drew ?_|refine blk_alloc ?_ _));refine blk_put (cs:=#[.int .i64 t173,.slice Ao24 t174.length co24,.int .i64 t177,.int .i64 t178,.slice none 0 0]) ?_ 4 _ rfl;(with_reducible repeat (first|refine blk_drewN ?_ _|refine blk_drew ?_|refine blk_alloc ?_ _));refine blk_put (cs:=#[.int .i64 t173,.slice Ao24 t174.length co24,.int .i64 t177,.int .i64 0,.slice none 0 0]) ?_ 3 _ rfl;(with_reducible repeat (first|refine blk_drewN ?_ _|refine blk_drew ?_|refine blk_alloc ?_ _));refine blk_put (cs:=#[.int .i64 t173,.slice Ao24 t174.length co24,.int .i64 0,.int .i64 0,.slice none 0 0]) ?_ 2 _ rfl;(with_reducible repeat (first|refine blk_drewN ?_ _|refine blk_drew ?_|refine blk_alloc ?_ _));refine blk_put (cs:=#[.int .i64 t173,.slice none 0 0,.int .i64 0,.int .i64 0,.slice none 0 0]) ?_ 1 _ rfl;(with_reducible repeat (first|refine blk_drewN ?_ _|refine blk_drew ?_|refine blk_alloc ?_ _));refine blk_put (cs:=#[.int .i64 0,.slice none 0 0,.int .i64 0,.int .i64 0,.slice none 0 0]) ?_ 0 _ rfl;(with_reducible repeat (first|refine blk_drewN ?_ _|refine blk_drew ?_|refine blk_alloc ?_ _));exact BK182.out) hb);have n8_:=Aside0.mk (below_step (by repeat (first|(with_reducible first|exact HB.out|apply below_alloc|apply pw_below_drewN|apply below_drew1|refine below_set ?_ GE171.out|refine below_set ?_ GE172.out|refine below_set ?_ GE182.out)|exact HB.out)) hb);clear HO166;clear HO169;clear HO176;clear HO181;clear BK171;clear BK172;clear BK182;clear HB;have HO166:=n0_;have HO169:=n1_;have HO176:=n2_;have HO181:=n3_;have HO185:=n4_;have BK171:=n5_;have BK172:=n6_;have BK182:=n7_;have HB:=n8_;clear n0_ n1_ n2_ n3_ n4_ n5_ n6_ n7_ n8_;(try clear hb);(try clear hb2);(try clear hk);(try clear hi);(try clear ho0);have hcz29_0:w28.cell? ⟨gb171,0,none⟩=some (.slice Ao12 t164.length co12):=(blk_cell BK171.out 0).trans rfl;have hcz29_1:w28.cell? ⟨gb171,1,none⟩=some (.slice Ao14 t167.length co14):=(blk_cell BK171.out 1).trans rfl;have hcz29_2:w28.cell? ⟨gb171,2,none⟩=some (.int .i64 t170):=(blk_cell BK171.out 2).trans rfl;have hfz29_0:=blk_frozen BK171.out 0;have hfz29_1:=blk_frozen BK171.out 1;have hfz29_2:=blk_frozen BK171.out 2;have hcz30_0:w28.cell? ⟨gb172,0,none⟩=some (.slice none 0 0):=(blk_cell BK172.out 0).trans rfl;have hcz30_1:w28.cell? ⟨gb172,1,none⟩=some (.int .i64 500):=(blk_cell BK172.out 1).trans rfl;have hcz30_2:w28.cell? ⟨gb172,2,none⟩=some (.int .i64 10):=(blk_cell BK172.out 2).trans rfl;have hfz30_0:=blk_frozen BK172.out 0;have hfz30_1:=blk_frozen BK172.out 1;have hfz30_2:=blk_frozen BK172.out 2)|(go_at_call 35;(refine (impl_StuckAt.calls k _ _ t164 _ _ t167 t170 _ _ ([]:List (S74)) 500 10 t186 _ ?side1 ?side2 ?side3 ?side4 ?side5 ?side6 A8.out).mono ?_);(case side1=>repeat (first|exact (Kd.S_reads' HO166.out).2.2|(with_reducible refine Kd.C_alloc ?_ _)|(with_reducible refine Kd.C_drewN ?_ _)|(with_reducible refine Kd.C_drew ?_)));(case side2=>exact (Kd.S_reads' HO166.out).2.1);(case side3=>repeat (first|exact (Kd.Z_reads' HO169.out).2.2|(with_reducible refine Kd.C_alloc ?_ _)|(with_reducible refine Kd.C_drewN ?_ _)|(with_reducible refine Kd.C_drew ?_)));(case side4=>exact (Kd.Z_reads' HO169.out).2.1);(case side5=>exact Kd.C_nil _ _);(case side6=>exact Nat.le_refl _);rintro e w31 ⟨v187,rfl,ho0,hb⟩;have n0_:=Aside0.mk (Kd.S_below (by (with_reducible repeat (first|apply Kd.S_alloc|apply Kd.S_drewN|apply Kd.S_drew));exact HO166.out) hb);have n1_:=Aside0.mk (Kd.Z_below (by (with_reducible repeat (first|apply Kd.Z_alloc|apply Kd.Z_drewN|apply Kd.Z_drew));exact HO169.out) hb);have n2_:=Aside0.mk (Kd.Z_below (by (with_reducible repeat (first|apply Kd.Z_alloc|apply Kd.Z_drewN|apply Kd.Z_drew));exact HO176.out) hb);have n3_:=Aside0.mk (Kd.Z_below (by (with_reducible repeat (first|apply Kd.Z_alloc|apply Kd.Z_drewN|apply Kd.Z_drew));exact HO181.out) hb);have n4_:=Aside0.mk (Kd.Z_below (by (with_reducible repeat (first|apply Kd.Z_alloc|apply Kd.Z_drewN|apply Kd.Z_drew));exact HO185.out) hb);have n5_:=Aside0.mk (Kd.Z_lower ho0 (below_size (by repeat (first|(with_reducible first|exact HB.out|apply below_alloc|apply pw_below_drewN|apply below_drew1|refine below_set ?_ GE171.out|refine below_set ?_ GE172.out|refine below_set ?_ GE182.out)|exact HB.out))));have n6_:=Aside0.mk (blk_below (g:=gb171) (o:=.cells #[.slice Ao12 t164.length co12,.slice Ao14 t167.length co14,.int .i64 t170] 35 (0,0)) (by (with_reducible repeat (first|refine blk_drewN ?_ _|refine blk_drew ?_|refine blk_alloc ?_ _));exact BK171.out) hb);have n7_:=Aside0.mk (blk_below (g:=gb172) (o:=.cells #[.slice none 0 0,.int .i64 500,.int .i64 10] 39 (0,0)) (by (with_reducible repeat (first|refine blk_drewN ?_ _|refine blk_drew ?_|refine blk_alloc ?_ _));exact BK172.out) hb);have n8_:=Aside0.mk (blk_below (g:=gb182) (o:=.cells #[.int .i64 t173,.slice Ao24 t174.length co24,.int .i64 t177,.int .i64 t178,.slice Ao25 t179.length co25] 53 (0,0)) (by (with_reducible repeat (first|refine blk_drewN ?_ _|refine blk_drew ?_|refine blk_alloc ?_ _));exact BK182.out) hb);have n9_:=Aside0.mk (below_step (by repeat (first|(with_reducible first|exact HB.out|apply below_alloc|apply pw_below_drewN|apply below_drew1|refine below_set ?_ GE171.out|refine below_set ?_ GE172.out|refine below_set ?_ GE182.out)|exact HB.out)) hb);clear HO166;clear HO169;clear HO176;clear HO181;clear HO185;clear BK171;clear BK172;clear BK182;clear HB;have HO166:=n0_;have HO169:=n1_;have HO176:=n2_;have HO181:=n3_;have HO185:=n4_;have HO188:=n5_;have BK171:=n6_;have BK172:=n7_;have BK182:=n8_;have HB:=n9_;clear n0_ n1_ n2_ n3_ n4_ n5_ n6_ n7_ n8_ n9_;(try clear hb);(try clear hb2);(try clear hk);(try clear hi);(try clear ho0)))
  (try simp only[Act.put,List.setIfInBounds_toArray,List.set_cons_zero,List.set_cons_succ])
  go_cut [51] (fun v51 wc=>∃(kq:Nat) (x51_8:Bool),v51=.bool x51_8∧Aside0 (laws_FnRing.j0 kq (wrap64 (1+(Int.tmod t162 15))) (Int.tmod t163 20) t183 t186 x51_8=some r)∧Aside0 (kq≤k)∧Aside0 (Kd.Z (Kd.int .i64) 3 wc w.heap.size (fun k_=>some k_≠((.slice Ao14 t167.length co14):Value).ownBlock∧some k_≠((.slice Ao25 t179.length co25):Value).ownBlock) v184 t183)∧Aside0 (Kd.Z k67 67 wc w.heap.size (fun _=>True) v187 t186)∧Aside0 (Kd.S k98 98 wc w.heap.size (fun _=>True) (.slice Ao12 t164.length co12) t164)∧Aside0 (Kd.Z (Kd.int .i64) 3 wc w.heap.size (fun k_=>some k_≠(v184:Value).ownBlock∧some k_≠((.slice Ao25 t179.length co25):Value).ownBlock) (.slice Ao14 t167.length co14) t167)∧Aside0 (Kd.Z k72 72 wc w.heap.size (fun _=>True) (.slice Ao24 t174.length co24) t174)∧Aside0 (Kd.Z (Kd.int .i64) 3 wc w.heap.size (fun k_=>some k_≠(v184:Value).ownBlock∧some k_≠((.slice Ao14 t167.length co14):Value).ownBlock) (.slice Ao25 t179.length co25) t179)∧Aside0 (wc.heap[gb171]?=some (.cells #[(.slice Ao12 t164.length co12),(.slice Ao14 t167.length co14),.int .i64 t170] 35 (0,0)))∧Aside0 (wc.heap[gb172]?=some (.cells #[(.slice none 0 0),.int .i64 500,.int .i64 10] 39 (0,0)))∧Aside0 (wc.heap[gb182]?=some (.cells #[.int .i64 t173,(.slice Ao24 t174.length co24),.int .i64 t177,.int .i64 t178,(.slice Ao25 t179.length co25)] 53 (0,0)))∧Aside0 (Below w.heap.size w wc))
  case first=>
   have H:=HC9.out;clear HC9
   by_cases c32:t173=1
   ·rw[if_pos c32] at H
    have c32b0:(t173==1)=true:=beq_iff_eq.mpr c32;have c32b1:(t173 !=1)=false:=bne_eq_false_iff_eq.mpr c32;clear c32
    (first|rw [c32b0]|(simp only[i64_w,i32_w];rw[c32b0])|skip)
    by_cases c33:(t183.length:Int)=(wrap64 (1+(Int.tmod t162 15)))
    ·rw[if_pos c33] at H
     have c33b0:((t183.length:Int)==(wrap64 (1+(Int.tmod t162 15))))=true:=beq_iff_eq.mpr c33;have c33b1:((t183.length:Int) !=(wrap64 (1+(Int.tmod t162 15))))=false:=bne_eq_false_iff_eq.mpr c33;clear c33;have H':=Aside0.mk H;clear H;have hnb34:=NB182_171.out;have hnc34:=NB171_182.out;have hnb35:=NB182_172.out;have hnc35:=NB172_182.out;have hcz36_0:w31.cell? ⟨gb182,0,none⟩=some (.int .i64 t173):=(blk_cell BK182.out 0).trans rfl;have hcz36_1:w31.cell? ⟨gb182,1,none⟩=some (.slice Ao24 t174.length co24):=(blk_cell BK182.out 1).trans rfl;have hcz36_2:w31.cell? ⟨gb182,2,none⟩=some (.int .i64 t177):=(blk_cell BK182.out 2).trans rfl;have hcz36_3:w31.cell? ⟨gb182,3,none⟩=some (.int .i64 t178):=(blk_cell BK182.out 3).trans rfl;have hcz36_4:w31.cell? ⟨gb182,4,none⟩=some (.slice Ao25 t179.length co25):=(blk_cell BK182.out 4).trans rfl;have hfz36_0:=blk_frozen BK182.out 0;have hfz36_1:=blk_frozen BK182.out 1;have hfz36_2:=blk_frozen BK182.out 2;have hfz36_3:=blk_frozen BK182.out 3;have hfz36_4:=blk_frozen BK182.out 4;obtain⟨Ao37,co37,eo37⟩:=Kd.Z_slice HO185.out;subst eo37;obtain⟨Ao38,co38,eo38⟩:=Kd.Z_slice HO188.out;subst eo38
     go_wp2
     repeat (go_quiet (fail);try go_wp2)
     go_meet
     case rel=>exact⟨_,(((t186.length:Int) !=(wrap64 ((wrap64 (1+(Int.tmod t162 15)))+1)))),(by first|rfl|(simp;done)|(simp[*];done)),H',⟨by first|omega|exact Nat.le_refl _⟩,⟨by (with_reducible repeat (first|apply Kd.Z_alloc|apply Kd.Z_drewN|apply Kd.Z_drew));exact Kd.Z_mono HO185.out (fun _ hk=>⟨hk.1.2,hk.2⟩)⟩,⟨by (with_reducible repeat (first|apply Kd.Z_alloc|apply Kd.Z_drewN|apply Kd.Z_drew));exact HO188.out⟩,⟨by (with_reducible repeat (first|apply Kd.S_alloc|apply Kd.S_drewN|apply Kd.S_drew));exact HO166.out⟩,⟨by (with_reducible repeat (first|apply Kd.Z_alloc|apply Kd.Z_drewN|apply Kd.Z_drew));exact Kd.Z_mono HO169.out (fun _ hk=>⟨hk.2,hk.1.2⟩)⟩,⟨by (with_reducible repeat (first|apply Kd.Z_alloc|apply Kd.Z_drewN|apply Kd.Z_drew));exact HO176.out⟩,⟨by (with_reducible repeat (first|apply Kd.Z_alloc|apply Kd.Z_drewN|apply Kd.Z_drew));exact Kd.Z_mono HO181.out (fun _ hk=>⟨hk.2,hk.1.2⟩)⟩,⟨by (with_reducible repeat (first|refine blk_drewN ?_ _|refine blk_drew ?_|refine blk_alloc ?_ _));exact BK171.out⟩,⟨by (with_reducible repeat (first|refine blk_drewN ?_ _|refine blk_drew ?_|refine blk_alloc ?_ _));exact BK172.out⟩,⟨by (with_reducible repeat (first|refine blk_drewN ?_ _|refine blk_drew ?_|refine blk_alloc ?_ _));exact BK182.out⟩,⟨by repeat (first|(with_reducible first|exact HB.out|apply below_alloc|apply pw_below_drewN|apply below_drew1|refine below_set ?_ GE171.out|refine below_set ?_ GE172.out|refine below_set ?_ GE182.out)|exact HB.out)⟩⟩
    ·rw[if_neg c33] at H
     have c33b0:((t183.length:Int)==(wrap64 (1+(Int.tmod t162 15))))=false:=beq_eq_false_iff_ne.mpr c33;have c33b1:((t183.length:Int) !=(wrap64 (1+(Int.tmod t162 15))))=true:=bne_iff_ne.mpr c33;have H':=Aside0.mk H;clear H;have hnb39:=NB182_171.out;have hnc39:=NB171_182.out;have hnb40:=NB182_172.out;have hnc40:=NB172_182.out;have hcz41_0:w31.cell? ⟨gb182,0,none⟩=some (.int .i64 t173):=(blk_cell BK182.out 0).trans rfl;have hcz41_1:w31.cell? ⟨gb182,1,none⟩=some (.slice Ao24 t174.length co24):=(blk_cell BK182.out 1).trans rfl;have hcz41_2:w31.cell? ⟨gb182,2,none⟩=some (.int .i64 t177):=(blk_cell BK182.out 2).trans rfl;have hcz41_3:w31.cell? ⟨gb182,3,none⟩=some (.int .i64 t178):=(blk_cell BK182.out 3).trans rfl;have hcz41_4:w31.cell? ⟨gb182,4,none⟩=some (.slice Ao25 t179.length co25):=(blk_cell BK182.out 4).trans rfl;have hfz41_0:=blk_frozen BK182.out 0;have hfz41_1:=blk_frozen BK182.out 1;have hfz41_2:=blk_frozen BK182.out 2;have hfz41_3:=blk_frozen BK182.out 3;have hfz41_4:=blk_frozen BK182.out 4;obtain⟨Ao42,co42,eo42⟩:=Kd.Z_slice HO185.out;subst eo42
     go_wp2
     repeat (go_quiet (fail);try go_wp2)
     go_meet
     case rel=>exact⟨_,(true),(by first|rfl|(simp;done)|(simp[*];done)),H',⟨by first|omega|exact Nat.le_refl _⟩,⟨by (with_reducible repeat (first|apply Kd.Z_alloc|apply Kd.Z_drewN|apply Kd.Z_drew));exact Kd.Z_mono HO185.out (fun _ hk=>⟨hk.1.2,hk.2⟩)⟩,⟨by (with_reducible repeat (first|apply Kd.Z_alloc|apply Kd.Z_drewN|apply Kd.Z_drew));exact HO188.out⟩,⟨by (with_reducible repeat (first|apply Kd.S_alloc|apply Kd.S_drewN|apply Kd.S_drew));exact HO166.out⟩,⟨by (with_reducible repeat (first|apply Kd.Z_alloc|apply Kd.Z_drewN|apply Kd.Z_drew));exact Kd.Z_mono HO169.out (fun _ hk=>⟨hk.2,hk.1.2⟩)⟩,⟨by (with_reducible repeat (first|apply Kd.Z_alloc|apply Kd.Z_drewN|apply Kd.Z_drew));exact HO176.out⟩,⟨by (with_reducible repeat (first|apply Kd.Z_alloc|apply Kd.Z_drewN|apply Kd.Z_drew));exact Kd.Z_mono HO181.out (fun _ hk=>⟨hk.2,hk.1.2⟩)⟩,⟨by (with_reducible repeat (first|refine blk_drewN ?_ _|refine blk_drew ?_|refine blk_alloc ?_ _));exact BK171.out⟩,⟨by (with_reducible repeat (first|refine blk_drewN ?_ _|refine blk_drew ?_|refine blk_alloc ?_ _));exact BK172.out⟩,⟨by (with_reducible repeat (first|refine blk_drewN ?_ _|refine blk_drew ?_|refine blk_alloc ?_ _));exact BK182.out⟩,⟨by repeat (first|(with_reducible first|exact HB.out|apply below_alloc|apply pw_below_drewN|apply below_drew1|refine below_set ?_ GE171.out|refine below_set ?_ GE172.out|refine below_set ?_ GE182.out)|exact HB.out)⟩⟩
   ·rw[if_neg c32] at H
    have c32b0:(t173==1)=false:=beq_eq_false_iff_ne.mpr c32;have c32b1:(t173 !=1)=true:=bne_iff_ne.mpr c32
    (first|rw [c32b0]|(simp only[i64_w,i32_w];rw[c32b0])|skip)
    have H':=Aside0.mk H;clear H;have hnb43:=NB182_171.out;have hnc43:=NB171_182.out;have hnb44:=NB182_172.out;have hnc44:=NB172_182.out;have hcz45_0:w31.cell? ⟨gb182,0,none⟩=some (.int .i64 t173):=(blk_cell BK182.out 0).trans rfl;have hcz45_1:w31.cell? ⟨gb182,1,none⟩=some (.slice Ao24 t174.length co24):=(blk_cell BK182.out 1).trans rfl;have hcz45_2:w31.cell? ⟨gb182,2,none⟩=some (.int .i64 t177):=(blk_cell BK182.out 2).trans rfl;have hcz45_3:w31.cell? ⟨gb182,3,none⟩=some (.int .i64 t178):=(blk_cell BK182.out 3).trans rfl;have hcz45_4:w31.cell? ⟨gb182,4,none⟩=some (.slice Ao25 t179.length co25):=(blk_cell BK182.out 4).trans rfl;have hfz45_0:=blk_frozen BK182.out 0;have hfz45_1:=blk_frozen BK182.out 1;have hfz45_2:=blk_frozen BK182.out 2;have hfz45_3:=blk_frozen BK182.out 3;have hfz45_4:=blk_frozen BK182.out 4
    go_wp2
    repeat (go_quiet (fail);try go_wp2)
    go_meet
    case rel=>exact⟨_,(true),(by first|rfl|(simp;done)|(simp[*];done)),H',⟨by first|omega|exact Nat.le_refl _⟩,⟨by (with_reducible repeat (first|apply Kd.Z_alloc|apply Kd.Z_drewN|apply Kd.Z_drew));exact Kd.Z_mono HO185.out (fun _ hk=>⟨hk.1.2,hk.2⟩)⟩,⟨by (with_reducible repeat (first|apply Kd.Z_alloc|apply Kd.Z_drewN|apply Kd.Z_drew));exact HO188.out⟩,⟨by (with_reducible repeat (first|apply Kd.S_alloc|apply Kd.S_drewN|apply Kd.S_drew));exact HO166.out⟩,⟨by (with_reducible repeat (first|apply Kd.Z_alloc|apply Kd.Z_drewN|apply Kd.Z_drew));exact Kd.Z_mono HO169.out (fun _ hk=>⟨hk.2,hk.1.2⟩)⟩,⟨by (with_reducible repeat (first|apply Kd.Z_alloc|apply Kd.Z_drewN|apply Kd.Z_drew));exact HO176.out⟩,⟨by (with_reducible repeat (first|apply Kd.Z_alloc|apply Kd.Z_drewN|apply Kd.Z_drew));exact Kd.Z_mono HO181.out (fun _ hk=>⟨hk.2,hk.1.2⟩)⟩,⟨by (with_reducible repeat (first|refine blk_drewN ?_ _|refine blk_drew ?_|refine blk_alloc ?_ _));exact BK171.out⟩,⟨by (with_reducible repeat (first|refine blk_drewN ?_ _|refine blk_drew ?_|refine blk_alloc ?_ _));exact BK172.out⟩,⟨by (with_reducible repeat (first|refine blk_drewN ?_ _|refine blk_drew ?_|refine blk_alloc ?_ _));exact BK182.out⟩,⟨by repeat (first|(with_reducible first|exact HB.out|apply below_alloc|apply pw_below_drewN|apply below_drew1|refine below_set ?_ GE171.out|refine below_set ?_ GE172.out|refine below_set ?_ GE182.out)|exact HB.out)⟩⟩
  case rest=>
   clear HC9
   try clear c1
   try clear c2
   try clear c2b0
   try clear c2b1
   try clear p2
   try clear c3
   try clear c4
   try clear p6
   try clear c8
   try clear c16
   try clear c21
   try clear c22
   try clear c32
   try clear c32b0
   try clear c32b1
   try clear c33
   try clear c33b0
   try clear c33b1
   try clear c34
   try clear c35
   try clear c39
   try clear c40
   try clear c43
   try clear c44
   try clear hcz13_0
   try clear hcz13_1
   try clear hcz13_2
   try clear hcz17_0
   try clear hcz17_1
   try clear hcz17_2
   try clear hcz18_0
   try clear hcz18_1
   try clear hcz18_2
   try clear hcz23_0
   try clear hcz23_1
   try clear hcz23_2
   try clear hcz23_3
   try clear hcz23_4
   try clear hcz26_0
   try clear hcz26_1
   try clear hcz26_2
   try clear hcz27_0
   try clear hcz27_1
   try clear hcz27_2
   try clear hcz29_0
   try clear hcz29_1
   try clear hcz29_2
   try clear hcz30_0
   try clear hcz30_1
   try clear hcz30_2
   try clear hcz36_0
   try clear hcz36_1
   try clear hcz36_2
   try clear hcz36_3
   try clear hcz36_4
   try clear hcz41_0
   try clear hcz41_1
   try clear hcz41_2
   try clear hcz41_3
   try clear hcz41_4
   try clear hcz45_0
   try clear hcz45_1
   try clear hcz45_2
   try clear hcz45_3
   try clear hcz45_4
   try clear hfz13_0
   try clear hfz13_1
   try clear hfz13_2
   try clear hfz17_0
   try clear hfz17_1
   try clear hfz17_2
   try clear hfz18_0
   try clear hfz18_1
   try clear hfz18_2
   try clear hfz23_0
   try clear hfz23_1
   try clear hfz23_2
   try clear hfz23_3
   try clear hfz23_4
   try clear hfz26_0
   try clear hfz26_1
   try clear hfz26_2
   try clear hfz27_0
   try clear hfz27_1
   try clear hfz27_2
   try clear hfz29_0
   try clear hfz29_1
   try clear hfz29_2
   try clear hfz30_0
   try clear hfz30_1
   try clear hfz30_2
   try clear hfz36_0
   try clear hfz36_1
   try clear hfz36_2
   try clear hfz36_3
   try clear hfz36_4
   try clear hfz41_0
   try clear hfz41_1
   try clear hfz41_2
   try clear hfz41_3
   try clear hfz41_4
   try clear hfz45_0
   try clear hfz45_1
   try clear hfz45_2
   try clear hfz45_3
   try clear hfz45_4
   obtain⟨kq,x51_8,rfl,HA,HJ8,HO_8,HO_9,HO_172000,HO_172001,HO_183001,HO_183004,BK171,BK172,BK182,HB⟩:=hcut
   cases kq with
   |zero=>exact absurd HA.out (by simp[laws_FnRing.j0])
   |succ kj8=>
    have H:=HA.out;clear HA;simp only[laws_FnRing.j0] at H
    by_cases c46:x51_8=true
    ·subst c46
     have H1:(some false)=some r:=by rw[if_pos rfl] at H;exact H
     clear H;have H:=H1;clear H1;obtain rfl:=Option.some.inj H
     go_wp2
     repeat (go_quiet (fail);try go_wp2)
     go_ret
     exact⟨by first|rfl|(simp[errW_none,errW_some]<;>rfl)|(simp[*,errW_none,errW_some]<;>rfl),by repeat (first|(with_reducible first|exact HB.out|apply below_alloc|apply pw_below_drewN|apply below_drew1|refine below_set ?_ GE171.out|refine below_set ?_ GE172.out|refine below_set ?_ GE182.out)|exact HB.out)⟩
    ·replace c46:=Bool.eq_false_iff.mpr c46
     subst c46
     have H1:(laws_FnRing.l0 kj8 (wrap64 (1+(Int.tmod t162 15))) (Int.tmod t163 20) t186 t183 (t183.length:Int) 0)=some r:=by rw[if_neg (show ¬(false=true) by decide)] at H;exact H
     clear H;have H:=H1;clear H1;have H':=Aside0.mk H;clear H;obtain⟨Ao47,co47,eo47⟩:=Kd.Z_slice HO_8.out;subst eo47
     go_wp2
     repeat (go_quiet (fail);try go_wp2)
     go_loopg [54] kj8 (fun kq v54 w'=>∃(x54_2:Int),v54=.int .i64 x54_2∧Aside0 (laws_FnRing.l0 kq (wrap64 (1+(Int.tmod t162 15))) (Int.tmod t163 20) t186 t183 (t183.length:Int) x54_2=some r)∧Aside0 (kq≤kj8)∧Aside0 (Kd.Z k67 67 w' w.heap.size (fun _=>True) v187 t186)∧Aside0 (Kd.Z (Kd.int .i64) 3 w' w.heap.size (fun k_=>some k_≠((.slice Ao14 t167.length co14):Value).ownBlock∧some k_≠((.slice Ao25 t179.length co25):Value).ownBlock) (.slice Ao47 t183.length co47) t183)∧Aside0 (Kd.S k98 98 w' w.heap.size (fun _=>True) (.slice Ao12 t164.length co12) t164)∧Aside0 (Kd.Z (Kd.int .i64) 3 w' w.heap.size (fun k_=>some k_≠((.slice Ao47 t183.length co47):Value).ownBlock∧some k_≠((.slice Ao25 t179.length co25):Value).ownBlock) (.slice Ao14 t167.length co14) t167)∧Aside0 (Kd.Z k72 72 w' w.heap.size (fun _=>True) (.slice Ao24 t174.length co24) t174)∧Aside0 (Kd.Z (Kd.int .i64) 3 w' w.heap.size (fun k_=>some k_≠((.slice Ao47 t183.length co47):Value).ownBlock∧some k_≠((.slice Ao14 t167.length co14):Value).ownBlock) (.slice Ao25 t179.length co25) t179)∧Aside0 (w'.heap[gb171]?=some (.cells #[(.slice Ao12 t164.length co12),(.slice Ao14 t167.length co14),.int .i64 t170] 35 (0,0)))∧Aside0 (w'.heap[gb172]?=some (.cells #[(.slice none 0 0),.int .i64 500,.int .i64 10] 39 (0,0)))∧Aside0 (w'.heap[gb182]?=some (.cells #[.int .i64 t173,(.slice Ao24 t174.length co24),.int .i64 t177,.int .i64 t178,(.slice Ao25 t179.length co25)] 53 (0,0)))∧Aside0 (Below w.heap.size w w'))
     case atStart=>exact⟨(0),(by first|rfl|(simp;done)|(simp[*];done)),H',⟨Nat.le_refl _⟩,⟨by (with_reducible repeat (first|apply Kd.Z_alloc|apply Kd.Z_drewN|apply Kd.Z_drew));exact HO_9.out⟩,⟨by (with_reducible repeat (first|apply Kd.Z_alloc|apply Kd.Z_drewN|apply Kd.Z_drew));exact HO_8.out⟩,⟨by (with_reducible repeat (first|apply Kd.S_alloc|apply Kd.S_drewN|apply Kd.S_drew));exact HO_172000.out⟩,⟨by (with_reducible repeat (first|apply Kd.Z_alloc|apply Kd.Z_drewN|apply Kd.Z_drew));exact HO_172001.out⟩,⟨by (with_reducible repeat (first|apply Kd.Z_alloc|apply Kd.Z_drewN|apply Kd.Z_drew));exact HO_183001.out⟩,⟨by (with_reducible repeat (first|apply Kd.Z_alloc|apply Kd.Z_drewN|apply Kd.Z_drew));exact HO_183004.out⟩,⟨by (with_reducible repeat (first|refine blk_drewN ?_ _|refine blk_drew ?_|refine blk_alloc ?_ _));exact BK171.out⟩,⟨by (with_reducible repeat (first|refine blk_drewN ?_ _|refine blk_drew ?_|refine blk_alloc ?_ _));exact BK172.out⟩,⟨by (with_reducible repeat (first|refine blk_drewN ?_ _|refine blk_drew ?_|refine blk_alloc ?_ _));exact BK182.out⟩,⟨by repeat (first|(with_reducible first|exact HB.out|apply below_alloc|apply pw_below_drewN|apply below_drew1|refine below_set ?_ GE171.out|refine below_set ?_ GE172.out|refine below_set ?_ GE182.out)|exact HB.out)⟩⟩
     case round=>
      clear H'
      try clear c1
      try clear c2
      try clear c2b0
      try clear c2b1
      try clear p2
      try clear c3
      try clear c4
      try clear p6
      try clear c8
      try clear c16
      try clear c21
      try clear c22
      try clear c32
      try clear c32b0
      try clear c32b1
      try clear c33
      try clear c33b0
      try clear c33b1
      try clear c34
      try clear c35
      try clear c39
      try clear c40
      try clear c43
      try clear c44
      try clear c46
      try clear hcz13_0
      try clear hcz13_1
      try clear hcz13_2
      try clear hcz17_0
      try clear hcz17_1
      try clear hcz17_2
      try clear hcz18_0
      try clear hcz18_1
      try clear hcz18_2
      try clear hcz23_0
      try clear hcz23_1
      try clear hcz23_2
      try clear hcz23_3
      try clear hcz23_4
      try clear hcz26_0
      try clear hcz26_1
      try clear hcz26_2
      try clear hcz27_0
      try clear hcz27_1
      try clear hcz27_2
      try clear hcz29_0
      try clear hcz29_1
      try clear hcz29_2
      try clear hcz30_0
      try clear hcz30_1
      try clear hcz30_2
      try clear hcz36_0
      try clear hcz36_1
      try clear hcz36_2
      try clear hcz36_3
      try clear hcz36_4
      try clear hcz41_0
      try clear hcz41_1
      try clear hcz41_2
      try clear hcz41_3
      try clear hcz41_4
      try clear hcz45_0
      try clear hcz45_1
      try clear hcz45_2
      try clear hcz45_3
      try clear hcz45_4
      try clear hfz13_0
      try clear hfz13_1
      try clear hfz13_2
      try clear hfz17_0
      try clear hfz17_1
      try clear hfz17_2
      try clear hfz18_0
      try clear hfz18_1
      try clear hfz18_2
      try clear hfz23_0
      try clear hfz23_1
      try clear hfz23_2
      try clear hfz23_3
      try clear hfz23_4
      try clear hfz26_0
      try clear hfz26_1
      try clear hfz26_2
      try clear hfz27_0
      try clear hfz27_1
      try clear hfz27_2
      try clear hfz29_0
      try clear hfz29_1
      try clear hfz29_2
      try clear hfz30_0
      try clear hfz30_1
      try clear hfz30_2
      try clear hfz36_0
      try clear hfz36_1
      try clear hfz36_2
      try clear hfz36_3
      try clear hfz36_4
      try clear hfz41_0
      try clear hfz41_1
      try clear hfz41_2
      try clear hfz41_3
      try clear hfz41_4
      try clear hfz45_0
      try clear hfz45_1
      try clear hfz45_2
      try clear hfz45_3
      try clear hfz45_4
      try clear p2
      try clear p6
      obtain⟨x54_2,rfl,HA,HK2,HO_9,HO_52,HO_172000,HO_172001,HO_183001,HO_183004,BK171,BK172,BK182,HB⟩:=hrel
      cases gk with
      |zero=>exact absurd HA.out (by simp[laws_FnRing.l0])
      |succ k2=>
       have H:=HA.out;clear HA;simp only[laws_FnRing.l0] at H
       by_cases c48:x54_2<(t183.length:Int)
       ·rw[if_pos c48] at H
        have c48b0:decide (x54_2<(t183.length:Int))=true:=decide_eq_true c48;clear c48
        by_cases c49:0≤x54_2
        ·rw[if_pos c49] at H
         have c49b0:decide (0≤x54_2)=true:=decide_eq_true c49;clear c49
         by_cases c50:x54_2<(t183.length:Int)
         ·rw[if_pos c50] at H
          have c50b0:decide (x54_2<(t183.length:Int))=true:=decide_eq_true c50;clear c50
          by_cases c51:(rd t183 x54_2)=(wrap64 ((wrap64 ((Int.tmod t163 20)+1))+x54_2))
          ·rw[if_pos c51] at H
           have c51b0:((rd t183 x54_2)==(wrap64 ((wrap64 ((Int.tmod t163 20)+1))+x54_2)))=true:=beq_iff_eq.mpr c51;have c51b1:((rd t183 x54_2) !=(wrap64 ((wrap64 ((Int.tmod t163 20)+1))+x54_2)))=false:=bne_eq_false_iff_eq.mpr c51;clear c51;have H':=Aside0.mk H;clear H;have p189:0≤(x54_2:Int):=of_decide_eq_true (by first|(with_reducible assumption)|assumption);have q189:x54_2<(t183.length:Int):=of_decide_eq_true (by first|(with_reducible assumption)|assumption);obtain⟨ad189,e189,hx189_0⟩:=Kd.at_int (Kd.Z_reads' HO_52.out).2.2 x54_2 p189 q189
           cases e189
           replace p189:=eq_true p189;replace q189:=eq_true q189
           go_wp2
           repeat (go_quiet (fail);try go_wp2)
           go_roundg k2
           case measure=>have:=HJ8.out;have:=HK2.out;omega
           case rel=>exact⟨(wrap64 (x54_2+1)),(by first|rfl|(simp;done)|(simp[*];done)),H',⟨by have:=HJ8.out;have:=HK2.out;omega⟩,⟨by (with_reducible repeat (first|apply Kd.Z_alloc|apply Kd.Z_drewN|apply Kd.Z_drew));exact HO_9.out⟩,⟨by (with_reducible repeat (first|apply Kd.Z_alloc|apply Kd.Z_drewN|apply Kd.Z_drew));exact HO_52.out⟩,⟨by (with_reducible repeat (first|apply Kd.S_alloc|apply Kd.S_drewN|apply Kd.S_drew));exact HO_172000.out⟩,⟨by (with_reducible repeat (first|apply Kd.Z_alloc|apply Kd.Z_drewN|apply Kd.Z_drew));exact HO_172001.out⟩,⟨by (with_reducible repeat (first|apply Kd.Z_alloc|apply Kd.Z_drewN|apply Kd.Z_drew));exact HO_183001.out⟩,⟨by (with_reducible repeat (first|apply Kd.Z_alloc|apply Kd.Z_drewN|apply Kd.Z_drew));exact HO_183004.out⟩,⟨by (with_reducible repeat (first|refine blk_drewN ?_ _|refine blk_drew ?_|refine blk_alloc ?_ _));exact BK171.out⟩,⟨by (with_reducible repeat (first|refine blk_drewN ?_ _|refine blk_drew ?_|refine blk_alloc ?_ _));exact BK172.out⟩,⟨by (with_reducible repeat (first|refine blk_drewN ?_ _|refine blk_drew ?_|refine blk_alloc ?_ _));exact BK182.out⟩,⟨by repeat (first|(with_reducible first|exact HB.out|apply below_alloc|apply pw_below_drewN|apply below_drew1|refine below_set ?_ GE171.out|refine below_set ?_ GE172.out|refine below_set ?_ GE182.out)|exact HB.out)⟩⟩
          ·rw[if_neg c51] at H
           have c51b0:((rd t183 x54_2)==(wrap64 ((wrap64 ((Int.tmod t163 20)+1))+x54_2)))=false:=beq_eq_false_iff_ne.mpr c51;have c51b1:((rd t183 x54_2) !=(wrap64 ((wrap64 ((Int.tmod t163 20)+1))+x54_2)))=true:=bne_iff_ne.mpr c51;obtain rfl:=Option.some.inj H;have p189:0≤(x54_2:Int):=of_decide_eq_true (by first|(with_reducible assumption)|assumption);have q189:x54_2<(t183.length:Int):=of_decide_eq_true (by first|(with_reducible assumption)|assumption);obtain⟨ad189,e189,hx189_0⟩:=Kd.at_int (Kd.Z_reads' HO_52.out).2.2 x54_2 p189 q189
           cases e189
           replace p189:=eq_true p189;replace q189:=eq_true q189
           go_wp2
           repeat (go_quiet (fail);try go_wp2)
           go_ret
           exact⟨by first|rfl|(simp[errW_none,errW_some]<;>rfl)|(simp[*,errW_none,errW_some]<;>rfl),by repeat (first|(with_reducible first|exact HB.out|apply below_alloc|apply pw_below_drewN|apply below_drew1|refine below_set ?_ GE171.out|refine below_set ?_ GE172.out|refine below_set ?_ GE182.out)|exact HB.out)⟩
         ·rw[if_neg c50] at H
          exact absurd H (by simp)
        ·rw[if_neg c49] at H
         exact absurd H (by simp)
       ·rw[if_neg c48] at H
        have c48b0:decide (x54_2<(t183.length:Int))=false:=decide_eq_false c48;clear c48
        by_cases c52:0<(t186.length:Int)
        ·rw[if_pos c52] at H
         have c52b0:decide (0<(t186.length:Int))=true:=decide_eq_true c52;have c52b1:decide (0<t186.length)=true:=decide_eq_true (by omega);clear c52
         by_cases c53:(!(((rd_T67 t186 0).f0)==0)||(!(((rd_T67 t186 0).f1)==3)||(!(((rd_T67 t186 0).f2)==(wrap64 ((Int.tmod t163 20)+(wrap64 (1+(Int.tmod t162 15)))))))))=true
         ·rw[if_pos c53] at H
          have c53b0:(!(((rd_T67 t186 0).f0)==0)||(!(((rd_T67 t186 0).f1)==3)||(!(((rd_T67 t186 0).f2)==(wrap64 ((Int.tmod t163 20)+(wrap64 (1+(Int.tmod t162 15)))))))))=true:=c53;clear c53;obtain rfl:=Option.some.inj H;obtain⟨Ao54,co54,eo54⟩:=Kd.Z_slice HO_9.out;subst eo54;have p190:0≤(0:Int):=(by omega);have q190:0<(t186.length:Int):=of_decide_eq_true (by first|(with_reducible assumption)|assumption);obtain⟨ad190,e190,hx190_0,hx190_1,hx190_2⟩:=at_T67 (Kd.Z_reads' HO_9.out).2.2 0 p190 q190
          cases e190
          have qi190:(0<t186.length)=True:=eq_true (by omega)
          (try rw[show ((0:Int)).toNat=0 from rfl] at hx190_0)
          (try rw[show 0*3=0 from rfl] at hx190_0)
          (try rw[Addr.add_zero'] at hx190_0)
          (try rw[show ((0:Int)).toNat=0 from rfl] at hx190_1)
          (try rw[show 0*3=0 from rfl] at hx190_1)
          (try rw[Addr.add_zero'] at hx190_1)
          (try rw[show ((0:Int)).toNat=0 from rfl] at hx190_2)
          (try rw[show 0*3=0 from rfl] at hx190_2)
          (try rw[Addr.add_zero'] at hx190_2)
          replace p190:=eq_true p190;replace q190:=eq_true q190
          go_wp2
          repeat (go_quiet (fail);try go_wp2)
          go_ret
          exact⟨by first|rfl|(simp[errW_none,errW_some]<;>rfl)|(simp[*,errW_none,errW_some]<;>rfl),by repeat (first|(with_reducible first|exact HB.out|apply below_alloc|apply pw_below_drewN|apply below_drew1|refine below_set ?_ GE171.out|refine below_set ?_ GE172.out|refine below_set ?_ GE182.out)|exact HB.out)⟩
         ·rw[if_neg c53] at H
          have c53b0:(!(((rd_T67 t186 0).f0)==0)||(!(((rd_T67 t186 0).f1)==3)||(!(((rd_T67 t186 0).f2)==(wrap64 ((Int.tmod t163 20)+(wrap64 (1+(Int.tmod t162 15)))))))))=false:=by simpa using c53
          clear c53;have H':=Aside0.mk H;clear H;obtain⟨Ao55,co55,eo55⟩:=Kd.Z_slice HO_9.out;subst eo55;have p190:0≤(0:Int):=(by omega);have q190:0<(t186.length:Int):=of_decide_eq_true (by first|(with_reducible assumption)|assumption);obtain⟨ad190,e190,hx190_0,hx190_1,hx190_2⟩:=at_T67 (Kd.Z_reads' HO_9.out).2.2 0 p190 q190
          cases e190
          have qi190:(0<t186.length)=True:=eq_true (by omega)
          (try rw[show ((0:Int)).toNat=0 from rfl] at hx190_0)
          (try rw[show 0*3=0 from rfl] at hx190_0)
          (try rw[Addr.add_zero'] at hx190_0)
          (try rw[show ((0:Int)).toNat=0 from rfl] at hx190_1)
          (try rw[show 0*3=0 from rfl] at hx190_1)
          (try rw[Addr.add_zero'] at hx190_1)
          (try rw[show ((0:Int)).toNat=0 from rfl] at hx190_2)
          (try rw[show 0*3=0 from rfl] at hx190_2)
          (try rw[Addr.add_zero'] at hx190_2)
          replace p190:=eq_true p190;replace q190:=eq_true q190
          go_wp2
          repeat (go_quiet (fail);try go_wp2)
          go_loopg [12] k2 (fun kq v12 w'=>∃(x12_3:Int),v12=.int .i64 x12_3∧Aside0 (laws_FnRing.l1 kq (wrap64 (1+(Int.tmod t162 15))) (Int.tmod t163 20) t186 x12_3=some r)∧Aside0 (kq≤k2)∧Aside0 (Kd.Z k67 67 w' w.heap.size (fun _=>True) (.slice (some ad190) t186.length co55) t186)∧Aside0 (Kd.S k98 98 w' w.heap.size (fun _=>True) (.slice Ao12 t164.length co12) t164)∧Aside0 (Kd.Z (Kd.int .i64) 3 w' w.heap.size (fun k_=>some k_≠((.slice Ao25 t179.length co25):Value).ownBlock) (.slice Ao14 t167.length co14) t167)∧Aside0 (Kd.Z k72 72 w' w.heap.size (fun _=>True) (.slice Ao24 t174.length co24) t174)∧Aside0 (Kd.Z (Kd.int .i64) 3 w' w.heap.size (fun k_=>some k_≠((.slice Ao14 t167.length co14):Value).ownBlock) (.slice Ao25 t179.length co25) t179)∧Aside0 (w'.heap[gb171]?=some (.cells #[(.slice Ao12 t164.length co12),(.slice Ao14 t167.length co14),.int .i64 t170] 35 (0,0)))∧Aside0 (w'.heap[gb172]?=some (.cells #[(.slice none 0 0),.int .i64 500,.int .i64 10] 39 (0,0)))∧Aside0 (w'.heap[gb182]?=some (.cells #[.int .i64 t173,(.slice Ao24 t174.length co24),.int .i64 t177,.int .i64 t178,(.slice Ao25 t179.length co25)] 53 (0,0)))∧Aside0 (Below w.heap.size w w'))
          case atStart=>exact⟨(1),(by first|rfl|(simp;done)|(simp[*];done)),H',⟨Nat.le_refl _⟩,⟨by (with_reducible repeat (first|apply Kd.Z_alloc|apply Kd.Z_drewN|apply Kd.Z_drew));exact HO_9.out⟩,⟨by (with_reducible repeat (first|apply Kd.S_alloc|apply Kd.S_drewN|apply Kd.S_drew));exact HO_172000.out⟩,⟨by (with_reducible repeat (first|apply Kd.Z_alloc|apply Kd.Z_drewN|apply Kd.Z_drew));exact Kd.Z_mono HO_172001.out (fun _ hk=>hk.2)⟩,⟨by (with_reducible repeat (first|apply Kd.Z_alloc|apply Kd.Z_drewN|apply Kd.Z_drew));exact HO_183001.out⟩,⟨by (with_reducible repeat (first|apply Kd.Z_alloc|apply Kd.Z_drewN|apply Kd.Z_drew));exact Kd.Z_mono HO_183004.out (fun _ hk=>hk.2)⟩,⟨by (with_reducible repeat (first|refine blk_drewN ?_ _|refine blk_drew ?_|refine blk_alloc ?_ _));exact BK171.out⟩,⟨by (with_reducible repeat (first|refine blk_drewN ?_ _|refine blk_drew ?_|refine blk_alloc ?_ _));exact BK172.out⟩,⟨by (with_reducible repeat (first|refine blk_drewN ?_ _|refine blk_drew ?_|refine blk_alloc ?_ _));exact BK182.out⟩,⟨by repeat (first|(with_reducible first|exact HB.out|apply below_alloc|apply pw_below_drewN|apply below_drew1|refine below_set ?_ GE171.out|refine below_set ?_ GE172.out|refine below_set ?_ GE182.out)|exact HB.out)⟩⟩
          case round=>
           clear H'
           try clear c1
           try clear p1
           try clear q1
           try clear hx1
           try clear qi1
           try clear c2
           try clear c2b0
           try clear c2b1
           try clear p2
           try clear c3
           try clear c4
           try clear c5
           try clear p6
           try clear c8
           try clear c16
           try clear p18
           try clear q18
           try clear hx18
           try clear p19
           try clear q19
           try clear hx19
           try clear qi19
           try clear c21
           try clear c22
           try clear c32
           try clear c32b0
           try clear c32b1
           try clear c33
           try clear c33b0
           try clear c33b1
           try clear c34
           try clear c35
           try clear c39
           try clear c40
           try clear c43
           try clear c44
           try clear c46
           try clear c48
           try clear c48b0
           try clear c49
           try clear c49b0
           try clear c50
           try clear c50b0
           try clear c51
           try clear c51b0
           try clear c51b1
           try clear c52
           try clear c52b0
           try clear c52b1
           try clear c53
           try clear c53b0
           try clear hcz13_0
           try clear hcz13_1
           try clear hcz13_2
           try clear hcz17_0
           try clear hcz17_1
           try clear hcz17_2
           try clear hcz18_0
           try clear hcz18_1
           try clear hcz18_2
           try clear hcz23_0
           try clear hcz23_1
           try clear hcz23_2
           try clear hcz23_3
           try clear hcz23_4
           try clear hcz26_0
           try clear hcz26_1
           try clear hcz26_2
           try clear hcz27_0
           try clear hcz27_1
           try clear hcz27_2
           try clear hcz29_0
           try clear hcz29_1
           try clear hcz29_2
           try clear hcz30_0
           try clear hcz30_1
           try clear hcz30_2
           try clear hcz36_0
           try clear hcz36_1
           try clear hcz36_2
           try clear hcz36_3
           try clear hcz36_4
           try clear hcz41_0
           try clear hcz41_1
           try clear hcz41_2
           try clear hcz41_3
           try clear hcz41_4
           try clear hcz45_0
           try clear hcz45_1
           try clear hcz45_2
           try clear hcz45_3
           try clear hcz45_4
           try clear hfz13_0
           try clear hfz13_1
           try clear hfz13_2
           try clear hfz17_0
           try clear hfz17_1
           try clear hfz17_2
           try clear hfz18_0
           try clear hfz18_1
           try clear hfz18_2
           try clear hfz23_0
           try clear hfz23_1
           try clear hfz23_2
           try clear hfz23_3
           try clear hfz23_4
           try clear hfz26_0
           try clear hfz26_1
           try clear hfz26_2
           try clear hfz27_0
           try clear hfz27_1
           try clear hfz27_2
           try clear hfz29_0
           try clear hfz29_1
           try clear hfz29_2
           try clear hfz30_0
           try clear hfz30_1
           try clear hfz30_2
           try clear hfz36_0
           try clear hfz36_1
           try clear hfz36_2
           try clear hfz36_3
           try clear hfz36_4
           try clear hfz41_0
           try clear hfz41_1
           try clear hfz41_2
           try clear hfz41_3
           try clear hfz41_4
           try clear hfz45_0
           try clear hfz45_1
           try clear hfz45_2
           try clear hfz45_3
           try clear hfz45_4
           try clear hx189_0
           try clear hx190_0
           try clear hx190_1
           try clear hx190_2
           try clear p189
           try clear p190
           try clear p2
           try clear p6
           try clear q189
           try clear q190
           obtain⟨x12_3,rfl,HA,HK3,HO_9,HO_172000,HO_172001,HO_183001,HO_183004,BK171,BK172,BK182,HB⟩:=hrel
           cases gk with
           |zero=>exact absurd HA.out (by simp[laws_FnRing.l1])
           |succ k3=>
            have H:=HA.out;clear HA;simp only[laws_FnRing.l1] at H
            by_cases c56:x12_3≤(wrap64 (1+(Int.tmod t162 15)))
            ·rw[if_pos c56] at H
             have c56b0:decide (x12_3≤(wrap64 (1+(Int.tmod t162 15))))=true:=decide_eq_true c56;clear c56
             by_cases c57:0≤x12_3
             ·rw[if_pos c57] at H
              have c57b0:decide (0≤x12_3)=true:=decide_eq_true c57;clear c57
              by_cases c58:x12_3<(t186.length:Int)
              ·rw[if_pos c58] at H
               have c58b0:decide (x12_3<(t186.length:Int))=true:=decide_eq_true c58;clear c58
               by_cases c59:(wrap64 (1+(Int.tmod t162 15)))=0
               ·rw[if_pos c59] at H
                exact absurd H (by simp)
               ·rw[if_neg c59] at H
                have c59b0:((wrap64 (1+(Int.tmod t162 15)))==0)=false:=beq_eq_false_iff_ne.mpr c59;have c59b1:((wrap64 (1+(Int.tmod t162 15))) !=0)=true:=bne_iff_ne.mpr c59
                by_cases c60:(!(((rd_T67 t186 x12_3).f0)==(wrap64 ((Int.tmod t163 20)+x12_3)))||(!(((rd_T67 t186 x12_3).f1)==3)||(!(((rd_T67 t186 x12_3).f2)==(wrap64 ((wrap64 ((Int.tmod t163 20)+1))+(Int.tmod x12_3 (wrap64 (1+(Int.tmod t162 15))))))))))=true
                ·rw[if_pos c60] at H
                 have c60b0:(!(((rd_T67 t186 x12_3).f0)==(wrap64 ((Int.tmod t163 20)+x12_3)))||(!(((rd_T67 t186 x12_3).f1)==3)||(!(((rd_T67 t186 x12_3).f2)==(wrap64 ((wrap64 ((Int.tmod t163 20)+1))+(Int.tmod x12_3 (wrap64 (1+(Int.tmod t162 15))))))))))=true:=c60;clear c60;obtain rfl:=Option.some.inj H;have p191:0≤(x12_3:Int):=of_decide_eq_true (by first|(with_reducible assumption)|assumption);have q191:x12_3<(t186.length:Int):=of_decide_eq_true (by first|(with_reducible assumption)|assumption);obtain⟨ad191,e191,hx191_0,hx191_1,hx191_2⟩:=at_T67 (Kd.Z_reads' HO_9.out).2.2 x12_3 p191 q191;obtain rfl:ad190=ad191:=(by injection e191);replace p191:=eq_true p191;replace q191:=eq_true q191
                 go_wp2
                 repeat (go_quiet (fail);try go_wp2)
                 go_ret
                 exact⟨by first|rfl|(simp[errW_none,errW_some]<;>rfl)|(simp[*,errW_none,errW_some]<;>rfl),by repeat (first|(with_reducible first|exact HB.out|apply below_alloc|apply pw_below_drewN|apply below_drew1|refine below_set ?_ GE171.out|refine below_set ?_ GE172.out|refine below_set ?_ GE182.out)|exact HB.out)⟩
                ·rw[if_neg c60] at H
                 have c60b0:(!(((rd_T67 t186 x12_3).f0)==(wrap64 ((Int.tmod t163 20)+x12_3)))||(!(((rd_T67 t186 x12_3).f1)==3)||(!(((rd_T67 t186 x12_3).f2)==(wrap64 ((wrap64 ((Int.tmod t163 20)+1))+(Int.tmod x12_3 (wrap64 (1+(Int.tmod t162 15))))))))))=false:=by simpa using c60
                 clear c60;have H':=Aside0.mk H;clear H;have p191:0≤(x12_3:Int):=of_decide_eq_true (by first|(with_reducible assumption)|assumption);have q191:x12_3<(t186.length:Int):=of_decide_eq_true (by first|(with_reducible assumption)|assumption);obtain⟨ad191,e191,hx191_0,hx191_1,hx191_2⟩:=at_T67 (Kd.Z_reads' HO_9.out).2.2 x12_3 p191 q191;obtain rfl:ad190=ad191:=(by injection e191);replace p191:=eq_true p191;replace q191:=eq_true q191
                 go_wp2
                 repeat (go_quiet (fail);try go_wp2)
                 go_roundg k3
                 case measure=>have:=HJ8.out;have:=HK2.out;have:=HK3.out;omega
                 case rel=>exact⟨(wrap64 (x12_3+1)),(by first|rfl|(simp;done)|(simp[*];done)),H',⟨by have:=HJ8.out;have:=HK2.out;have:=HK3.out;omega⟩,⟨by (with_reducible repeat (first|apply Kd.Z_alloc|apply Kd.Z_drewN|apply Kd.Z_drew));exact HO_9.out⟩,⟨by (with_reducible repeat (first|apply Kd.S_alloc|apply Kd.S_drewN|apply Kd.S_drew));exact HO_172000.out⟩,⟨by (with_reducible repeat (first|apply Kd.Z_alloc|apply Kd.Z_drewN|apply Kd.Z_drew));exact HO_172001.out⟩,⟨by (with_reducible repeat (first|apply Kd.Z_alloc|apply Kd.Z_drewN|apply Kd.Z_drew));exact HO_183001.out⟩,⟨by (with_reducible repeat (first|apply Kd.Z_alloc|apply Kd.Z_drewN|apply Kd.Z_drew));exact HO_183004.out⟩,⟨by (with_reducible repeat (first|refine blk_drewN ?_ _|refine blk_drew ?_|refine blk_alloc ?_ _));exact BK171.out⟩,⟨by (with_reducible repeat (first|refine blk_drewN ?_ _|refine blk_drew ?_|refine blk_alloc ?_ _));exact BK172.out⟩,⟨by (with_reducible repeat (first|refine blk_drewN ?_ _|refine blk_drew ?_|refine blk_alloc ?_ _));exact BK182.out⟩,⟨by repeat (first|(with_reducible first|exact HB.out|apply below_alloc|apply pw_below_drewN|apply below_drew1|refine below_set ?_ GE171.out|refine below_set ?_ GE172.out|refine below_set ?_ GE182.out)|exact HB.out)⟩⟩
              ·rw[if_neg c58] at H
               exact absurd H (by simp)
             ·rw[if_neg c57] at H
              exact absurd H (by simp)
            ·rw[if_neg c56] at H
             have c56b0:decide (x12_3≤(wrap64 (1+(Int.tmod t162 15))))=false:=decide_eq_false c56;clear c56;obtain rfl:=Option.some.inj H
             go_wp2
             repeat (go_quiet (fail);try go_wp2)
             go_ret
             exact⟨by first|rfl|(simp[errW_none,errW_some]<;>rfl)|(simp[*,errW_none,errW_some]<;>rfl),by repeat (first|(with_reducible first|exact HB.out|apply below_alloc|apply pw_below_drewN|apply below_drew1|refine below_set ?_ GE171.out|refine below_set ?_ GE172.out|refine below_set ?_ GE182.out)|exact HB.out)⟩
        ·rw[if_neg c52] at H
         exact absurd H (by simp)
def laws_FnRing.Pure:Prop:=∀(l0:List Int),l0.length≤maxLen→l0.length*1≤140737488351232→(∀x∈l0,(Lit.int .u8 x).wf=true)→∃k,laws_FnRing.f k l0=some true
theorem laws_FnRing.walk (P:laws_FnRing.Pure)(a0:Option Addr)(len0 cap0:Nat)(z0:List Int)(w:World)(w0:(a0=none∧len0=0∧cap0=0∧z0=[])∨∃x,a0=some x∧len0≤cap0∧cap0≤maxLen∧z0.length=cap0∧(∀i,i<z0.length→w.cell? (x.add i)=some (.int .u8 (z0.getD i 0)))∧∀n∈z0,(Lit.int .u8 n).wf=true)(y0:len0*1≤140737488351232):
  Calls Try.prog 8 #[.slice a0 len0 cap0] w fun e w'=>e=.returned (.bool true)∧Below w.heap.size w w':=by
 obtain⟨l0,rfl,hr0,hm0,hw0,hc0⟩:=ReadsInt.ofRowC w0;obtain⟨k,h⟩:=P l0 hm0 y0 hw0
 refine (laws_FnRing.calls k _ _ l0 true w (Kd.C_of_reads (d:=(0:Int)) (h1:=fun _=>rfl) hr0) hc0 h).mono ?_
 rintro e w' ⟨rfl,hd⟩;exact⟨rfl,hd⟩
end Go.Proofs.Ytejjedooecephaa.PFnRing
end
