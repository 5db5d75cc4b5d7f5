/-
  Texts joined by a program (shake.py), without what the claim does not use; printed walks among them (print.sh), and own ones.
-/
import Derived.Test.YtejjedooecephaaRing3
import Derived.Test.YtejjedooecephaaRing4
section
namespace Go.Proofs.Ytejjedooecephaa.PFnRing
open Go.RowKit Go.Proofs.YtejjedooecephaaW.PrintWords Go.Proofs.YtejjedooecephaaW.PrintLast Go.Proofs.YtejjedooecephaaW.PrintMore
attribute [local go_sem] max2_int min2_int max_two min_two max_three min_three max_four min_four -- for this text's walks alone
set_option linter.unusedVariables false
set_option linter.unusedSimpArgs false
theorem eqA67 (d:Nat)(w:World)(x0 y0:Int)(x1 y1:Int)(x2 y2:Int):
  (Op.equalIn (d+2) 67 (.agg #[.int .i64 x0,.int .i64 x1,.int .i64 x2]) (.agg #[.int .i64 y0,.int .i64 y1,.int .i64 y2])).run Try.prog w=.ok (x0==y0&&(x1==y1&&(x2==y2))) w:=by
 refine eqA_of Try.underlying67 (by kernel_rfl) ?_
 refine eqf_cons (by rfl) (by go_simp;rfl) (by go_simp;rfl) (by go_simp) ?_
 refine eqf_cons (by rfl) (by go_simp;rfl) (by go_simp;rfl) (by go_simp) ?_
 exact eqf_last (by rfl) (by go_simp;rfl) (by go_simp;rfl) (by go_simp)
attribute [local go_sem high] eqA67
def laws_wByte.f (l0:List Int)(a1:Int):Option (Int):=if (l0.length:Int)=0 then (some 0) else (if 0≤(Int.tmod a1 (l0.length:Int)) then (if (Int.tmod a1 (l0.length:Int))<(l0.length:Int) then (some (wrap64 (rd l0 (Int.tmod a1 (l0.length:Int))))) else (none)) else (none))
set_option maxHeartbeats 8000000 in
set_option maxRecDepth 100000 in
theorem laws_wByte.calls (A0:Option Addr) (c0:Nat) (l0:List Int) (a1:Int) (r:Int) (w:World) (hr0:Kd.C (Kd.int .u8) w A0 l0.length l0) (hc0:l0.length≤c0) (h:laws_wByte.f l0 a1=some r):
  Calls Try.prog 26 #[.slice A0 l0.length c0,.int .i64 a1] w fun e w'=>e=.returned (.int .i64 r)∧Drawn0 w w':=by
 have HR0:=Aside0.mk hr0;have HC0:=Aside0.mk hc0;clear hr0 hc0;have H:(if (l0.length:Int)=0 then (some 0) else (if 0≤(Int.tmod a1 (l0.length:Int)) then (if (Int.tmod a1 (l0.length:Int))<(l0.length:Int) then (some (wrap64 (rd l0 (Int.tmod a1 (l0.length:Int))))) else (none)) else (none)))=some r:=h;clear h
 by_cases c3:(l0.length:Int)=0
 ·rw[if_pos c3] at H
  have c3b0:((l0.length:Int)==0)=true:=beq_iff_eq.mpr c3;have c3b1:((l0.length:Int) !=0)=false:=bne_eq_false_iff_eq.mpr c3;clear c3;obtain rfl:=Option.some.inj H
  go_enter Try.func26,Try.ntmps26
  go_wp2
  go_ret
  exact⟨by first|rfl|(simp;done)|(simp[*];done),by repeat (first|exact Drawn0.refl _|apply Drawn0.step)⟩
 ·rw[if_neg c3] at H
  have c3b0:((l0.length:Int)==0)=false:=beq_eq_false_iff_ne.mpr c3;have c3b1:((l0.length:Int) !=0)=true:=bne_iff_ne.mpr c3
  have c3b2:¬(l0=[]):=fun h_=>c3 (by rw[h_];rfl)
  obtain⟨ji4,hji4⟩:∃j_:Int,(Int.tmod a1 (l0.length:Int))=j_:=⟨_,rfl⟩
  replace H:(if 0≤(ji4) then (if (ji4)<(l0.length:Int) then (some (wrap64 (rd l0 (ji4)))) else (none)) else (none))=some r:=by first|(rw[hji4] at H;exact H)|(simp only[hji4] at H ⊢;exact H)
  by_cases c5:0≤(ji4)
  ·rw[if_pos c5] at H
   have c5b0:decide (0≤(ji4))=true:=decide_eq_true c5;clear c5
   by_cases c6:(ji4)<(l0.length:Int)
   ·rw[if_pos c6] at H
    have c6b0:decide ((ji4)<(l0.length:Int))=true:=decide_eq_true c6;clear c6;obtain rfl:=Option.some.inj H;have p101:0≤((ji4):Int):=of_decide_eq_true (by first|(with_reducible assumption)|assumption);have q101:(ji4)<(l0.length:Int):=of_decide_eq_true (by first|(with_reducible assumption)|assumption);obtain⟨ad101,e101,hx101_0⟩:=Kd.at_int HR0.out (ji4) p101 q101
    cases e101
    replace p101:=eq_true p101;replace q101:=eq_true q101
    go_enter Try.func26,Try.ntmps26
    go_wp2
    go_ret
    exact⟨by first|rfl|(simp;done)|(simp only[←hji4]<;>(first|rfl|simp))|(simp[*];done),by repeat (first|exact Drawn0.refl _|apply Drawn0.step)⟩
   ·rw[if_neg c6] at H
    exact absurd H (by simp)
  ·rw[if_neg c5] at H
   exact absurd H (by simp)
mutual
def spec_MadeRing.l0:Nat→Int→Int→Int→List (S98)→Int→Option ((List (S98))×List Int×Int)
 |0,_,_,_,_,_=>none
 |k+1,x0,x1,x6,x131000,x131002=>if x6<x0 then (if 0<(x131000.length:Int) then (if ((rd_T98 x131000 0).f0).length<3518437208883 then (spec_MadeRing.l0 k x0 x1 (wrap64 (x6+1)) (x131000.set (0:Int).toNat (⟨(((rd_T98 x131000 0).f0)++[(⟨7,0,1,0,0⟩:S100)])⟩:S98)) x131002) else (none)) else (none)) else (spec_MadeRing.l1 k x0 x1 0 x131000 x131002)
def spec_MadeRing.l1:Nat→Int→Int→Int→List (S98)→Int→Option ((List (S98))×List Int×Int)
 |0,_,_,_,_,_=>none
 |k+1,x0,x1,x7,x131000,x131002=>if x7<x1 then (if x1=0 then (none) else (if 0<(x131000.length:Int) then (if ((rd_T98 x131000 0).f0).length<3518437208883 then ((some (x131000.set (0:Int).toNat (⟨(((rd_T98 x131000 0).f0)++[(⟨7,0,wrap64 (2+x7),0,0⟩:S100)])⟩:S98):List (S98))).bind fun y140=>(if y140.length<5864062014805 then (spec_MadeRing.l1 k x0 x1 (wrap64 (x7+1)) (y140++[(⟨(([(⟨1,0,0,wrap64 ((wrap64 (x0+1))+(Int.tmod (wrap64 (x7+1)) x1)),0⟩:S100),(⟨8,0,0,0,0⟩:S100)]:List (S100)))⟩:S98)]) x131002) else (none))) else (none)) else (none))) else (if 0<(x131000.length:Int) then (if ((rd_T98 x131000 0).f0).length<3518437208883 then (some ((x131000.set (0:Int).toNat (⟨(((rd_T98 x131000 0).f0)++[(⟨8,0,0,0,0⟩:S100)])⟩:S98)),([]:List Int),x131002)) else (none)) else (none))
end
def spec_MadeRing.f (k:Nat)(a0:Int)(a1:Int):Option ((List (S98))×List Int×Int):=spec_MadeRing.l0 k a0 a1 0 (([(⟨([]:List (S100))⟩:S98),(⟨([]:List (S100))⟩:S98)]:List (S98))) 100
def spec_MadeRing.T5:Bool×List (List Nat×List Nat):=(true,[([],[]),([0],[0]),([],[]),([2],[2]),([3],[3]),([4],[4]),([5],[5]),([],[]),([7],[7]),([6,8],[6,8]),([1,0,1,2,3,4,5,6,7,8,9],[1]),([10,0,1,2,3,4,5,6,7,8,9],[10]),([11,9,9,0,1,2,3,4,5,6,7,8,9],[9,11])])
def spec_MadeRing.B5:List Nat:=[0,1,0,4,12,28,60,0,128,508,1023,2047,4095]
theorem spec_MadeRing.tab5:rtab .any (opsOf Try.f33 5)=spec_MadeRing.T5:=by kernel_rfl
theorem spec_MadeRing.bits5:waitsOk spec_MadeRing.T5.2 spec_MadeRing.B5=true:=by kernel_rfl
def spec_MadeRing.T10:Bool×List (List Nat×List Nat):=(true,[([],[]),([0],[0]),([],[]),([2],[2]),([3],[3]),([4],[4]),([5],[5]),([],[]),([7],[7]),([8],[8]),([9],[9]),([6,10],[6,10]),([1,0,1,2,3,4,5,6,7,8,9,10,11],[1]),([12,0,1,2,3,4,5,6,7,8,9,10,11],[12]),([13,11,11,0,1,2,3,4,5,6,7,8,9,10,11],[11,13])])
def spec_MadeRing.B10:List Nat:=[0,1,0,4,12,28,60,0,128,384,896,2044,4095,8191,16383]
theorem spec_MadeRing.tab10:rtab .any (opsOf Try.f33 10)=spec_MadeRing.T10:=by kernel_rfl
theorem spec_MadeRing.bits10:waitsOk spec_MadeRing.T10.2 spec_MadeRing.B10=true:=by kernel_rfl
def spec_MadeRing.T12:Bool×List (List Nat×List Nat):=(true,[([],[]),([0],[0]),([],[]),([2],[2]),([3],[3]),([4],[4]),([5],[5]),([],[]),([7],[7]),([6,8],[6,8]),([1,0,1,2,3,4,5,6,7,8,9],[1]),([10,0,1,2,3,4,5,6,7,8,9],[10]),([11,9,9,0,1,2,3,4,5,6,7,8,9],[9,11])])
def spec_MadeRing.B12:List Nat:=[0,1,0,4,12,28,60,0,128,508,1023,2047,4095]
theorem spec_MadeRing.tab12:rtab .any (opsOf Try.f33 12)=spec_MadeRing.T12:=by kernel_rfl
theorem spec_MadeRing.bits12:waitsOk spec_MadeRing.T12.2 spec_MadeRing.B12=true:=by kernel_rfl
set_option maxHeartbeats 8000000 in
set_option maxRecDepth 100000 in
theorem spec_MadeRing.calls (k:Nat) (a0:Int) (a1:Int) (r1:List (S98)) (r2:List Int) (r3:Int) (w:World) (h:spec_MadeRing.f k a0 a1=some (r1,r2,r3)):
  Calls Try.prog 33 #[.int .i64 a0,.int .i64 a1] w fun e w'=>∃v0_ v1_:Value,e=.returned (.agg #[v0_,v1_,.int .i64 r3])∧Kd.S k98 98 w' w.heap.size (fun _=>True) v0_ r1∧Kd.R (Kd.int .i64) 3 w' w.heap.size (fun _=>True) v1_ r2∧Below w.heap.size w w':=by
 have hu35:=Try.underlying35;have hu98:=Try.underlying98;have hu100:=Try.underlying100;have HB:=Aside0.mk (Below.refl w.heap.size w);have H:(spec_MadeRing.l0 k a0 a1 0 (([(⟨([]:List (S100))⟩:S98),(⟨([]:List (S100))⟩:S98)]:List (S98))) 100)=some (r1,r2,r3):=h;clear h;obtain⟨y127,hy127⟩:∃y_:List (S98),y_=(([(⟨([]:List (S100))⟩:S98),(⟨([]:List (S100))⟩:S98)]:List (S98))):=⟨_,rfl⟩
 replace H:(spec_MadeRing.l0 k a0 a1 0 y127 100)=some (r1,r2,r3):=by first|(rw[hy127];with_reducible exact H)|(have H2_:=(Option.bind_some _ _).symm.trans H;rw[hy127];with_reducible exact H2_)|(have H2_:=(Option.bind_some _ _).symm.trans H;with_reducible exact H2_)|with_reducible exact H|(rw[hy127];exact H)|exact H
 have Ny127:=Aside0.mk hy127;clear hy127;have H':=Aside0.mk H;clear H
 go_enter Try.func33,Try.ntmps33
 go_wp2_with (first|((with_reducible refine gate_dst (N:=4) rfl ?_);refine box_event ?hg (N:=4) ?hd (cs:=#[.slice none 0 0,.slice none 0 0,.int .i64 0]) (t:=35) ?hr ?_;(case hd=>rfl);(case hg=>rfl);(case hr=>first|(go_simp;done)|(go_simp;rfl));intro gb126 hg w3 hbox hb;have n0_:=Aside0.mk (below_step (by repeat (first|(with_reducible first|exact HB.out|apply below_alloc|apply pw_below_drewN|apply below_drew1)|exact HB.out)) hb);have n1_:=Aside0.mk (hbox);have n2_:=Aside0.mk ((by rw[hg];exact (below_size (by repeat (first|(with_reducible first|exact HB.out|apply below_alloc|apply pw_below_drewN|apply below_drew1)|exact HB.out))):w.heap.size≤gb126));have n3_:=Aside0.mk ((by rw[hg];exact (below_size (by repeat (first|(with_reducible first|exact HB.out|apply below_alloc|apply pw_below_drewN|apply below_drew1)|exact HB.out))):w.heap.size≤gb126));clear HB;have HB:=n0_;have BK126:=n1_;have GW126:=n2_;have GE126:=n3_;clear n0_ n1_ n2_ n3_;clear hb hbox hg)|((with_reducible refine gate_dst (N:=11) rfl ?_);refine Kd.S_lit k98 _ 98 ?hg (N:=11) ?hd (xs:=([(⟨([]:List (S100))⟩:S98),(⟨([]:List (S100))⟩:S98)]:List (S98))) (inner:=[.slice none 0 0,.slice none 0 0]) (ok:=fun _=>True) (okp:=fun _=>True) ?hr ?hp (fun _ hk=>hk) trivial (Below.refl _ _) (Nat.le_refl _) (by simp) ?_;(case hd=>rfl);(case hg=>rfl);(case hr=>first|(go_simp;done)|(go_simp;rfl));(case hp=>exact (Reps.one (show Kd.M k98 _ _ _ (⟨([]:List (S100))⟩:S98) [.slice none 0 0] from (k98_mkM _ _ _ (⟨([]:List (S100))⟩:S98) (Kd.R_nil _ _ _ _ _))) (Reps.one (show Kd.M k98 _ _ _ (⟨([]:List (S100))⟩:S98) [.slice none 0 0] from (k98_mkM _ _ _ (⟨([]:List (S100))⟩:S98) (Kd.R_nil _ _ _ _ _))) (Reps.none _ _))));intro v128 w4 ho5 hb hg_ hnew_;clear hg_ hnew_;(first|rw [←Ny127.out] at ho5|(simp only[Int.reduceToNat] at ho5;rw[←Ny127.out] at ho5));have n0_:=Aside0.mk (Kd.S_lower ho5 (below_size (by repeat (first|(with_reducible first|exact HB.out|apply below_alloc|apply pw_below_drewN|apply below_drew1|refine below_set ?_ GE126.out)|exact HB.out))));have n1_:=Aside0.mk (blk_below (g:=gb126) (o:=.cells #[.slice none 0 0,.slice none 0 0,.int .i64 0] 35 (0,0)) (by (with_reducible repeat (first|refine blk_drewN ?_ _|refine blk_drew ?_|refine blk_alloc ?_ _));exact BK126.out) hb);have n2_:=Aside0.mk (below_step (by repeat (first|(with_reducible first|exact HB.out|apply below_alloc|apply pw_below_drewN|apply below_drew1|refine below_set ?_ GE126.out)|exact HB.out)) hb);clear BK126;clear HB;have HO129:=n0_;have BK126:=n1_;have HB:=n2_;clear n0_ n1_ n2_;clear hb ho5;obtain⟨Ao6,co6,eo6⟩:=Kd.S_slice HO129.out;subst eo6)|((with_reducible refine gate_dst (N:=5) rfl ?_);refine box_event ?hg (N:=5) ?hd (cs:=#[.slice none 0 0,.slice none 0 0,.int .i64 0]) (t:=35) ?hr ?_;(case hd=>rfl);(case hg=>rfl);(case hr=>first|(go_simp;done)|(go_simp;rfl));intro gb130 hg w7 hbox hb;have n0_:=Aside0.mk (Kd.S_below (by (with_reducible repeat (first|apply Kd.S_alloc|apply Kd.S_drewN|apply Kd.S_drew));exact HO129.out) hb);have n1_:=Aside0.mk (blk_below (g:=gb126) (o:=.cells #[.slice none 0 0,.slice none 0 0,.int .i64 0] 35 (0,0)) (by (with_reducible repeat (first|refine blk_drewN ?_ _|refine blk_drew ?_|refine blk_alloc ?_ _));exact BK126.out) hb);have n2_:=Aside0.mk (below_step (by repeat (first|(with_reducible first|exact HB.out|apply below_alloc|apply pw_below_drewN|apply below_drew1|refine below_set ?_ GE126.out)|exact HB.out)) hb);have n3_:=Aside0.mk (hbox);have n4_:=Aside0.mk ((by rw[hg];exact (below_size (by repeat (first|(with_reducible first|exact HB.out|apply below_alloc|apply pw_below_drewN|apply below_drew1|refine below_set ?_ GE126.out)|exact HB.out))):w.heap.size≤gb130));have n5_:=Aside0.mk ((by rw[hg];exact (below_size (by repeat (first|(with_reducible first|exact HB.out|apply below_alloc|apply pw_below_drewN|apply below_drew1|refine below_set ?_ GE126.out)|exact HB.out))):w.heap.size≤gb130));have n6_:=Aside0.mk ((by rw[hg];exact Nat.ne_of_lt (blk_lt (g:=gb126) (o:=.cells #[.slice none 0 0,.slice none 0 0,.int .i64 0] 35 (0,0)) (by (with_reducible repeat (first|refine blk_drewN ?_ _|refine blk_drew ?_|refine blk_alloc ?_ _));exact BK126.out)):gb126≠gb130));have n7_:=Aside0.mk ((by rw[hg];exact Nat.ne_of_gt (blk_lt (g:=gb126) (o:=.cells #[.slice none 0 0,.slice none 0 0,.int .i64 0] 35 (0,0)) (by (with_reducible repeat (first|refine blk_drewN ?_ _|refine blk_drew ?_|refine blk_alloc ?_ _));exact BK126.out)):gb130≠gb126));clear HO129;clear BK126;clear HB;have HO129:=n0_;have BK126:=n1_;have HB:=n2_;have BK130:=n3_;have GW130:=n4_;have GE130:=n5_;have NB126_130:=n6_;have NB130_126:=n7_;clear n0_ n1_ n2_ n3_ n4_ n5_ n6_ n7_;clear hb hbox hg;have hnb8:=NB130_126.out;have hnc8:=NB126_130.out;have hcz9_0:w7.cell? ⟨gb130,0,none⟩=some (.slice none 0 0):=(blk_cell BK130.out 0).trans rfl;have hcz9_1:w7.cell? ⟨gb130,1,none⟩=some (.slice none 0 0):=(blk_cell BK130.out 1).trans rfl;have hcz9_2:w7.cell? ⟨gb130,2,none⟩=some (.int .i64 0):=(blk_cell BK130.out 2).trans rfl;have hfz9_0:=blk_frozen BK130.out 0;have hfz9_1:=blk_frozen BK130.out 1;have hfz9_2:=blk_frozen BK130.out 2))
 go_loopg [6] k (fun kq v6 w'=>∃(x6_1:Int) (x131000_1:List (S98)) (u131000:Value),v6=.int .i64 x6_1∧Aside0 (spec_MadeRing.l0 kq a0 a1 x6_1 x131000_1 100=some (r1,r2,r3))∧Aside0 (kq≤k)∧Aside0 (Kd.S k98 98 w' w.heap.size (fun _=>True) u131000 x131000_1)∧Aside0 (w'.heap[gb126]?=some (.cells #[(.slice none 0 0),(.slice none 0 0),.int .i64 0] 35 (0,0)))∧Aside0 (w'.heap[gb130]?=some (.cells #[u131000,(.slice none 0 0),.int .i64 100] 35 (0,0)))∧Aside0 (Below w.heap.size w w'))
 case atStart=>exact⟨(0),(y127),(.slice Ao6 y127.length co6),(by first|rfl|(simp;done)|(simp[*];done)),H',⟨Nat.le_refl _⟩,⟨by (with_reducible repeat (first|apply Kd.S_alloc|apply Kd.S_drewN|apply Kd.S_drew));exact Kd.S_mono (Kd.S_far (p:=⟨gb130,2,none⟩) (Kd.S_far (p:=⟨gb130,1,none⟩) (Kd.S_far (p:=⟨gb130,0,none⟩) (Kd.S_types HO129.out BK130.out (by decide)) (fun _ hk=>hk.2) (.slice Ao6 y127.length co6)) (fun _ hk=>hk.2) (.slice none 0 0)) (fun _ hk=>hk.2) (.int .i64 100)) (fun _ hk=>trivial)⟩,⟨by (with_reducible repeat (first|refine blk_drewN ?_ _|refine blk_drew ?_|refine blk_alloc ?_ _));refine blk_far ?_ NB126_130.out _;(with_reducible repeat (first|refine blk_drewN ?_ _|refine blk_drew ?_|refine blk_alloc ?_ _));refine blk_far ?_ NB126_130.out _;(with_reducible repeat (first|refine blk_drewN ?_ _|refine blk_drew ?_|refine blk_alloc ?_ _));refine blk_far ?_ NB126_130.out _;(with_reducible repeat (first|refine blk_drewN ?_ _|refine blk_drew ?_|refine blk_alloc ?_ _));exact BK126.out⟩,⟨by (with_reducible repeat (first|refine blk_drewN ?_ _|refine blk_drew ?_|refine blk_alloc ?_ _));refine blk_put (cs:=#[.slice Ao6 y127.length co6,.slice none 0 0,.int .i64 0]) ?_ 2 _ rfl;(with_reducible repeat (first|refine blk_drewN ?_ _|refine blk_drew ?_|refine blk_alloc ?_ _));refine blk_put (cs:=#[.slice Ao6 y127.length co6,.slice none 0 0,.int .i64 0]) ?_ 1 _ rfl;(with_reducible repeat (first|refine blk_drewN ?_ _|refine blk_drew ?_|refine blk_alloc ?_ _));refine blk_put (cs:=#[.slice none 0 0,.slice none 0 0,.int .i64 0]) ?_ 0 _ rfl;(with_reducible repeat (first|refine blk_drewN ?_ _|refine blk_drew ?_|refine blk_alloc ?_ _));exact BK130.out⟩,⟨by repeat (first|(with_reducible first|exact HB.out|apply below_alloc|apply pw_below_drewN|apply below_drew1|refine below_set ?_ GE126.out|refine below_set ?_ GE130.out)|exact HB.out)⟩⟩
 case round=>
  clear H'
  try clear p2
  try clear c3
  try clear c8
  try clear hcz9_0
  try clear hcz9_1
  try clear hcz9_2
  try clear hfz9_0
  try clear hfz9_1
  try clear hfz9_2
  obtain⟨x6_1,x131000_1,u131000,rfl,HA,HK1,HO_131000,BK126,BK130,HB⟩:=hrel
  cases gk with
  |zero=>exact absurd HA.out (by simp[spec_MadeRing.l0])
  |succ k1=>
   have H:=HA.out;clear HA;simp only[spec_MadeRing.l0] at H
   by_cases c10:x6_1<a0
   ·rw[if_pos c10] at H
    have c10b0:decide (x6_1<a0)=true:=decide_eq_true c10;clear c10
    by_cases c11:0<(x131000_1.length:Int)
    ·rw[if_pos c11] at H
     have c11b0:decide (0<(x131000_1.length:Int))=true:=decide_eq_true c11;have c11b1:decide (0<x131000_1.length)=true:=decide_eq_true (by omega);clear c11
     by_cases c12:((rd_T98 x131000_1 0).f0).length<3518437208883
     ·rw[if_pos c12] at H
      have LMc12:=Aside0.mk c12;clear c12;obtain⟨y132,hy132⟩:∃y_:List (S100),y_=(((rd_T98 x131000_1 0).f0)++[(⟨7,0,1,0,0⟩:S100)]):=⟨_,rfl⟩
      replace H:(spec_MadeRing.l0 k1 a0 a1 (wrap64 (x6_1+1)) (x131000_1.set (0:Int).toNat (⟨y132⟩:S98)) 100)=some (r1,r2,r3):=by first|(rw[hy132];with_reducible exact H)|(have H2_:=(Option.bind_some _ _).symm.trans H;rw[hy132];with_reducible exact H2_)|(have H2_:=(Option.bind_some _ _).symm.trans H;with_reducible exact H2_)|with_reducible exact H|(rw[hy132];exact H)|exact H
      have Ny132:=Aside0.mk hy132;clear hy132;obtain⟨y135,hy135⟩:∃y_:List (S98),y_=(x131000_1.set (0:Int).toNat (⟨y132⟩:S98)):=⟨_,rfl⟩
      replace H:(spec_MadeRing.l0 k1 a0 a1 (wrap64 (x6_1+1)) y135 100)=some (r1,r2,r3):=by first|(rw[hy135];with_reducible exact H)|(have H2_:=(Option.bind_some _ _).symm.trans H;rw[hy135];with_reducible exact H2_)|(have H2_:=(Option.bind_some _ _).symm.trans H;with_reducible exact H2_)|with_reducible exact H|(rw[hy135];exact H)|exact H
      have Ny135:=Aside0.mk hy135;clear hy135;have H':=Aside0.mk H;clear H
      try go_wp2
      have n0_:=Aside0.mk (Kd.S_drew HO_131000.out);have n1_:=Aside0.mk (blk_drew BK126.out);have n2_:=Aside0.mk (blk_drew BK130.out);have n3_:=Aside0.mk (below_drew1 HB.out);clear HO_131000;clear BK126;clear BK130;clear HB;have HO_131000:=n0_;have BK126:=n1_;have BK130:=n2_;have HB:=n3_;clear n0_ n1_ n2_ n3_;obtain⟨Ao15,co15,eo15⟩:=Kd.S_slice HO_131000.out
      (first|subst eo15|(injection eo15 with f1_ f2_ f3_;have f4_:=f1_.symm;have f5_:=f3_.symm;clear f1_ f2_ f3_;subst f4_;subst f5_))
      have p131:0≤(0:Int):=(by omega);have q131:0<(x131000_1.length:Int):=of_decide_eq_true (by first|(with_reducible assumption)|assumption);obtain⟨ad131,A131_0,c131_0,e131,hx131_0,hl131_0,hi131_0⟩:=at_T98 (Kd.S_reads' HO_131000.out).2.2 0 p131 q131
      cases e131
      obtain⟨ce131,hce131,hMe131,hcc131⟩:=Kd.S_get HO_131000.out z98 0 p131 (by first|exact q131|exact of_decide_eq_true (by first|(with_reducible assumption)|assumption)|(have e_:=(Kd.S_reads' HO_131000.out).1;omega));obtain⟨ve131_0,rfl,ge131_0⟩:=k98_openM hMe131;have hv131_0:=hcc131 0 _ rfl;rw[Nat.add_zero,show (k98).sz=1 from rfl,Nat.mul_one] at hv131_0;replace hv131_0:=Option.some.inj (hv131_0.symm.trans hx131_0);rw[hv131_0] at ge131_0;have HL131_0:=Aside0.mk (show Kd.R k100 100 _ _ _ _ ((rd_T98 x131000_1 0).f0) from ge131_0);clear hv131_0 ge131_0;have HX131_0:=Aside0.mk hx131_0;clear hcc131 hce131;have qi131:(0<x131000_1.length)=True:=eq_true (by omega)
      (try rw[show ((0:Int)).toNat=0 from rfl] at hx131_0)
      (try rw[Addr.add_zero'] at hx131_0)
      have HR131_0:=Aside0.mk hi131_0;have HC131_0:=Aside0.mk hl131_0;clear hi131_0 hl131_0;replace p131:=eq_true p131;replace q131:=eq_true q131;obtain⟨go16,co16,eo16,gb16,gl16,cl16,HG16⟩:=Kd.S_form HO_131000.out (by have h_:(0:Int)<((x131000_1.length:Int):Int):=of_decide_eq_true (by first|(with_reducible assumption)|assumption);have h2_:0≤(0:Int):=(by omega);omega)
      (first|cases eo16|(injection eo16 with ea_ en_ ec_;(first|subst ea_|(injection ea_ with ea_;subst ea_));subst ec_;clear en_))
      have GB16:=Aside0.mk gb16;have GG16:=Aside0.mk HG16;clear gb16 gl16 HG16
      (first|simp only[add_plain] at hx131_0|skip)
      obtain⟨oki16,ce16,hcl16,hM16,hcc16,_,_,hH16⟩:=Kd.S_elem HO_131000.out z98 (0:Int) (by omega) (by have h_:(0:Int)<((x131000_1.length:Int):Int):=of_decide_eq_true (by first|(with_reducible assumption)|assumption);first|exact h_|(have e_:=(Kd.S_reads' HO_131000.out).1;omega)|simpa using h_);obtain⟨ve16_0,rfl,ge16_0⟩:=k98_openM hM16;have hv16:=hcc16 0 _ rfl;have hX16:=HX131_0.out
      (try simp only[add_plain] at hX16)
      (try simp only[Nat.add_zero] at hv16)
      (try rw[show (k98).sz=1 from rfl,Nat.mul_one] at hv16)
      replace hv16:=Option.some.inj (hv16.symm.trans hX16);subst hv16;clear hX16 hcc16 hcl16;have UU16:=Aside0.mk (show Kd.R k100 100 _ w.heap.size oki16 (.slice A131_0 ((rd_T98 x131000_1 0).f0).length c131_0) ((rd_T98 x131000_1 0).f0) from ge16_0);have HH16:=Aside0.mk hH16;have HN16:=Aside0.mk (Kd.S_reads' HO_131000.out).1;clear hH16 ge16_0
      refine start_ (n:=13) (S:=fun w'=>w'.cell? ⟨gb130,0,none⟩=some (.slice (some ⟨go16,0,none⟩) x131000_1.length co15)∧w'.cell? ⟨gb130,1,none⟩=some (.slice none 0 0)∧w'.cell? ⟨gb130,2,none⟩=some (.int .i64 100)∧w'.cell? ⟨go16,0,none⟩=some (.slice A131_0 ((rd_T98 x131000_1 0).f0).length c131_0)) (ds:=[12]) #[false,false,false,false,false,false,false,false,false,false,false,false,false] (by kernel_rfl) rfl rfl ⟨(blk_cell BK130.out 0).trans rfl,(blk_cell BK130.out 1).trans rfl,(blk_cell BK130.out 2).trans rfl,hx131_0⟩ (fun hHeld=>?_);refine with_tabW spec_MadeRing.tab5 spec_MadeRing.bits5 (fun HT_ HW_=>?_)
      generalize wr.drew=w14 at HO_131000 BK126 BK130 HB GG16 HH16 HL131_0 HR131_0 HX131_0 UU16 hx131_0 hHeld ⊢
      refine pure_ (i:=0) (N:=some 18) (v:=?_) (a':=?_) #[true,false,false,false,false,false,false,false,false,false,false,false,false] rfl rfl (any_of HT_.out (by kernel_rfl)) (fun _ _ _ h=>h) (Or.inl ⟨by rfl,?_⟩) ?_ ?_
      rotate_left
      ·intro w'
       go_simp
       with_reducible rfl
      rotate_left
      ·simp only[Act.put,List.setIfInBounds_toArray,List.set_cons_zero,List.set_cons_succ,i64_w,i32_w]
       rfl
      refine pure_ (i:=2) (N:=some 20) (v:=?_) (a':=?_) #[true,false,true,false,false,false,false,false,false,false,false,false,false] rfl rfl (any_of HT_.out (by kernel_rfl)) (fun _ _ _ h=>h) (Or.inl ⟨by rfl,?_⟩) ?_ ?_
      rotate_left
      ·intro w'
       go_simp
       with_reducible rfl
      rotate_left
      ·simp only[Act.put,List.setIfInBounds_toArray,List.set_cons_zero,List.set_cons_succ,i64_w,i32_w]
       rfl
      refine pure_ (i:=7) (N:=some 25) (v:=?_) (a':=?_) #[true,false,true,false,false,false,false,true,false,false,false,false,false] rfl rfl (any_of HT_.out (by kernel_rfl)) (fun _ _ _ h=>h) (Or.inl ⟨by rfl,?_⟩) ?_ ?_
      rotate_left
      ·intro w'
       go_simp
       with_reducible rfl
      rotate_left
      ·simp only[Act.put,List.setIfInBounds_toArray,List.set_cons_zero,List.set_cons_succ,i64_w,i32_w]
       rfl
      refine take_ (i:=1) (N:=some 19) (v:=?_) (a':=?_) #[true,true,true,false,false,false,false,true,false,false,false,false,false] rfl rfl (take_ofW HT_.out HW_.out (by kernel_rfl)) (fun _ _ _ h=>h) (Or.inl ⟨by rfl,?_⟩) hHeld ?_ ?_
      rotate_left
      ·rintro w' ⟨s0,s1,s2,s3⟩
       go_simp
       with_reducible rfl
      rotate_left
      ·simp only[Act.put,List.setIfInBounds_toArray,List.set_cons_zero,List.set_cons_succ,i64_w,i32_w]
       rfl
      refine take_ (i:=3) (N:=some 21) (v:=?_) (a':=?_) #[true,true,true,true,false,false,false,true,false,false,false,false,false] rfl rfl (take_ofW HT_.out HW_.out (by kernel_rfl)) (fun _ _ _ h=>h) (Or.inl ⟨by rfl,?_⟩) hHeld ?_ ?_
      rotate_left
      ·rintro w' ⟨s0,s1,s2,s3⟩
       go_simp
       with_reducible rfl
      rotate_left
      ·simp only[Act.put,List.setIfInBounds_toArray,List.set_cons_zero,List.set_cons_succ,i64_w,i32_w]
       rfl
      refine pure_ (i:=4) (N:=some 22) (v:=?_) (a':=?_) #[true,true,true,true,true,false,false,true,false,false,false,false,false] rfl rfl (any_of HT_.out (by kernel_rfl)) (fun _ _ _ h=>h) (Or.inl ⟨by rfl,?_⟩) ?_ ?_
      rotate_left
      ·intro w'
       go_simp
       with_reducible rfl
      rotate_left
      ·simp only[Act.put,List.setIfInBounds_toArray,List.set_cons_zero,List.set_cons_succ,i64_w,i32_w]
       rfl
      refine pure_ (i:=5) (N:=some 23) (v:=?_) (a':=?_) #[true,true,true,true,true,true,false,true,false,false,false,false,false] rfl rfl (any_of HT_.out (by kernel_rfl)) (fun _ _ _ h=>h) (Or.inl ⟨by rfl,?_⟩) ?_ ?_
      rotate_left
      ·intro w'
       go_simp
       with_reducible rfl
      rotate_left
      ·simp only[Act.put,List.setIfInBounds_toArray,List.set_cons_zero,List.set_cons_succ,i64_w,i32_w]
       rfl
      refine take_ (i:=6) (N:=some 24) (v:=?_) (a':=?_) #[true,true,true,true,true,true,true,true,false,false,false,false,false] rfl rfl (take_ofW HT_.out HW_.out (by kernel_rfl)) (fun _ _ _ h=>h) (Or.inl ⟨by rfl,?_⟩) hHeld ?_ ?_
      rotate_left
      ·rintro w' ⟨s0,s1,s2,s3⟩
       go_simp
       with_reducible rfl
      rotate_left
      ·simp only[Act.put,List.setIfInBounds_toArray,List.set_cons_zero,List.set_cons_succ,i64_w,i32_w]
       rfl
      refine one_ (i:=8) (N:=some 26) #[true,true,true,true,true,true,true,true,true,false,false,false,false] rfl rfl (one_of HT_.out (by kernel_rfl)) (by decide) (fun K hK=>?_)
      refine value_ (w1:=?_) (v:=?_) (by rfl) rfl ?_ ?_
      rotate_left 2
      ·go_simp
       constructor
       ·rfl
       ·rfl
      refine hK.out _ _ ⟨(blk_cell (blk_alloc BK130.out _) 0).trans rfl,(blk_cell (blk_alloc BK130.out _) 1).trans rfl,(blk_cell (blk_alloc BK130.out _) 2).trans rfl,(World.cell?_alloc_lt _ _ _ (World.block_lt_of_cell? _ _ (hHeld.2.2.2))).trans (hHeld.2.2.2)⟩ (fun hHeld=>?_)
      clear hK K
      refine norm_ (a':=?_) ?_ ?_
      rotate_left
      ·show Act.put _ (some 26) _=_
       simp only[Act.put,List.setIfInBounds_toArray,List.set_cons_zero,List.set_cons_succ,i64_w,i32_w];rfl
      refine one_ (i:=9) (N:=some 27) #[true,true,true,true,true,true,true,true,true,true,false,false,false] rfl rfl (one_of HT_.out (by kernel_rfl)) (by decide) (fun K hK=>?_)
      refine Kd.R_append_step k100 (w0:=w) w.heap.size (by rfl) (.tmp 24) (.tmp 26) 96 100 (.agg #[(.int .i64 0),(.int .i64 0),(.int .i64 0),(.int .i64 0),(.int .i64 0)]) 40 rfl Try.underlying96 info100 rfl (by decide) (by omega) (.slice A131_0 ((rd_T98 x131000_1 0).f0).length c131_0) ((rd_T98 x131000_1 0).f0) (⟨7,0,1,0,0⟩:S100) [.int .i64 7,.int .i64 0,.int .i64 1,.int .i64 0,.int .i64 0] (fun k_=>oki16 k_∨((fun _=>True)) k_∧w14.heap.size≤k_) (fun _=>False) rfl rfl ?aP (fun _ hk=>hk.elim) ?aF ?aO ?aB ?aS ?aL ?_
      (case aP=>exact k100_mkM _ _ _ (⟨7,0,1,0,0⟩:S100))
      (case aB=>exact (by repeat (first|(with_reducible first|exact HB.out|apply below_alloc|apply pw_below_drewN|apply below_drew1|refine below_set ?_ GE126.out|refine below_set ?_ GE130.out)|exact HB.out)))
      (case aF=>exact (fun k_ hk=>.inr ⟨trivial,hk⟩))
      (case aO=>exact (by (with_reducible repeat (first|apply Kd.R_alloc|apply Kd.R_drewN|apply Kd.R_drew));exact Kd.R_mono UU16.out (fun _ hk=>.inl hk)))
      (case aS=>exact (below_size (by repeat (first|(with_reducible first|exact HB.out|apply below_alloc|apply pw_below_drewN|apply below_drew1|refine below_set ?_ GE126.out|refine below_set ?_ GE130.out)|exact HB.out))))
      (case aL=>have:=LMc12.out;omega)
      intro v133 w17 ho hb hg hat
      (first|have HS3_:=cell_grown hg (hHeld.2.2.2) (by first|(rw[add_block];exact (fun e_=>((HL131_0.out.1 _ e_.symm).2) rfl))|(show some (Addr.add _ _).block≠_;rw[add_block];exact (fun e_=>((HL131_0.out.1 _ e_.symm).2) rfl))|exact (fun e_=>((HL131_0.out.1 _ e_.symm).2) rfl))|have HS3_:=cell_grown hg (cell_unalloc (hHeld.2.2.2) (by first|(rw[add_block];exact Kd.S_lt HO_131000.out _ rfl)|(show (Addr.add _ _).block<_;rw[add_block];exact Kd.S_lt HO_131000.out _ rfl)|exact Kd.S_lt HO_131000.out _ rfl)) (by first|(rw[add_block];exact (fun e_=>((HL131_0.out.1 _ e_.symm).2) rfl))|(show some (Addr.add _ _).block≠_;rw[add_block];exact (fun e_=>((HL131_0.out.1 _ e_.symm).2) rfl))|exact (fun e_=>((HL131_0.out.1 _ e_.symm).2) rfl)))
      rw[←Ny132.out] at ho;have n0_:=Aside0.mk (blk_grown (g:=gb126) (o:=.cells #[.slice none 0 0,.slice none 0 0,.int .i64 0] 35 (0,0)) (by (with_reducible repeat (first|refine blk_drewN ?_ _|refine blk_drew ?_|refine blk_alloc ?_ _));exact BK126.out) hg (Kd.R_ne HL131_0.out BK126.out (by decide)));have n1_:=Aside0.mk (blk_grown (g:=gb130) (o:=.cells #[.slice (some ⟨go16,0,none⟩) x131000_1.length co15,.slice none 0 0,.int .i64 100] 35 (0,0)) (by (with_reducible repeat (first|refine blk_drewN ?_ _|refine blk_drew ?_|refine blk_alloc ?_ _));exact BK130.out) hg (Kd.R_ne HL131_0.out BK130.out (by decide)));have n2_:=Aside0.mk (hb);have n3_:=Aside0.mk (Kd.H_grown (Kd.H_widen (by repeat (first|exact HH16.out|refine Kd.H_alloc ?_ _|refine Kd.H_drewN ?_ _|refine Kd.H_drew ?_))) hg (fun k_ e_=>.inl (UU16.out.1 k_ e_)));have n4_:=Aside0.mk (ho);clear BK126;clear BK130;clear HB;clear HH16;clear HO_131000;clear UU16;clear HL131_0;have BK126:=n0_;have BK130:=n1_;have HB:=n2_;have HH16:=n3_;have HO134:=n4_;clear n0_ n1_ n2_ n3_ n4_;clear ho hb hg hat;have p13:0≤(0:Int):=(by omega);have q13:(0:Int)<((x131000_1.length:Int):Int):=of_decide_eq_true (by first|(with_reducible assumption)|assumption);replace p13:=eq_true p13;replace q13:=eq_true q13;obtain⟨Ao20,co20,eo20⟩:=Kd.R_slice HO134.out
      (first|subst eo20|(injection eo20 with f1_ f2_ f3_;have f4_:=f1_.symm;have f5_:=f3_.symm;clear f1_ f2_ f3_;subst f4_;subst f5_))
      obtain⟨_,_,hraw18,_,_,hcc18,_⟩:=Kd.H_raw HH16.out (by omega) (by have h_:(0:Int)<((x131000_1.length:Int):Int):=of_decide_eq_true (by first|(with_reducible assumption)|assumption);first|exact h_|(have e_:=(HN16.out);omega)|simpa using h_);obtain⟨_,hfr18⟩:=Kd.H_at HH16.out (by omega) (by have h_:(0:Int)<((x131000_1.length:Int):Int):=of_decide_eq_true (by first|(with_reducible assumption)|assumption);first|exact h_|(have e_:=(HN16.out);omega)|simpa using h_);have hx18_0:=hcc18 0 _ rfl;have hf18_0:=hfr18 0
      (try simp only[Nat.add_zero] at hx18_0 hf18_0)
      (try rw[show (k98).sz=1 from rfl,Nat.mul_one] at hx18_0)
      (try rw[show (k98).sz=1 from rfl,Nat.mul_one] at hf18_0)
      (try rw[show ((0:Int)).toNat=0 from rfl] at hx18_0)
      (try simp only[Nat.reduceMul,Nat.zero_mul,Nat.zero_add,Nat.reduceAdd] at hx18_0)
      (try rw[show ((0:Int)).toNat=0 from rfl] at hf18_0)
      (try simp only[Nat.reduceMul,Nat.zero_mul,Nat.zero_add,Nat.reduceAdd] at hf18_0)
      have HP18:=Kd.S_seg0 HH16.out (by omega) (by have h_:(0:Int)<((x131000_1.length:Int):Int):=of_decide_eq_true (by first|(with_reducible assumption)|assumption);first|exact h_|(have e_:=(HN16.out);omega)|simpa using h_) (seg:=[.slice Ao20 y132.length co20]) (j:=0) (show 1≤1 from by decide) (x':=(⟨y132⟩:S98)) (k98_mkM _ _ _ (⟨y132⟩:S98) HO134.out) (fun _ hk=>hk)
      (try simp only[show (k98).sz=1 from rfl,Nat.mul_one,Nat.add_zero] at HP18)
      clear hcc18 hfr18;have HNB126_go16:=Aside0.mk (show gb126≠go16 from by have h_:=Kd.R_ne hraw18 BK126.out (by decide);intro e_;exact h_ (by rw[e_];rfl));have HNB130_go16:=Aside0.mk (show gb130≠go16 from by have h_:=Kd.R_ne hraw18 BK130.out (by decide);intro e_;exact h_ (by rw[e_];rfl));have HS18:=HP18.1;rw[←Ny135.out] at HS18;have HQ18:=Aside0.mk HS18;obtain⟨_,hgg18⟩:=Kd.R_typed hraw18 go16 rfl;have GG18_:=Aside0.mk hgg18;clear HP18 HS18 hgg18
      refine hK.out _ _ ⟨(blk_cell BK130.out 0).trans rfl,(blk_cell BK130.out 1).trans rfl,(blk_cell BK130.out 2).trans rfl,HS3_⟩ (fun hHeld=>?_)
      clear hK K
      refine norm_ (a':=?_) ?_ ?_
      rotate_left
      ·show Act.put _ (some 27) _=_
       simp only[Act.put,List.setIfInBounds_toArray,List.set_cons_zero,List.set_cons_succ,i64_w,i32_w];rfl
      refine pure_ (i:=10) (N:=some 28) (v:=?_) (a':=?_) #[true,true,true,true,true,true,true,true,true,true,true,false,false] rfl rfl (any_of HT_.out (by kernel_rfl)) (fun _ _ _ h=>h) (Or.inl ⟨by rfl,?_⟩) ?_ ?_
      rotate_left
      ·intro w'
       go_simp
       with_reducible rfl
      rotate_left
      ·simp only[Act.put,List.setIfInBounds_toArray,List.set_cons_zero,List.set_cons_succ,i64_w,i32_w]
       rfl
      refine pure_ (i:=11) (N:=some 29) (v:=?_) (a':=?_) #[true,true,true,true,true,true,true,true,true,true,true,true,false] rfl rfl (any_of HT_.out (by kernel_rfl)) (fun _ _ _ h=>h) (Or.inl ⟨by rfl,?_⟩) ?_ ?_
      rotate_left
      ·intro w'
       go_simp
       with_reducible rfl
      rotate_left
      ·simp only[Act.put,List.setIfInBounds_toArray,List.set_cons_zero,List.set_cons_succ,i64_w,i32_w]
       rfl
      refine last_ (i:=12) (N:=none) #[true,true,true,true,true,true,true,true,true,true,true,true,true] rfl rfl (one_of HT_.out (by kernel_rfl)) (by decide) (fun K hK=>?_)
      refine skip_ (w1:=?_) (by rfl) rfl ?_ ?_
      rotate_left
      ·go_simp
       rfl
      refine hK.out _ _ ?_
      clear hK K
      refine done_ (done_of HT_.out (by kernel_rfl)) ?_
      try go_wp2
      go_roundg k1
      case measure=>have:=HK1.out;omega
      case rel=>exact⟨(wrap64 (x6_1+1)),(y135),(.slice (some ⟨go16,0,none⟩) x131000_1.length co15),(by first|rfl|(simp;done)|(simp[*];done)),H',⟨by have:=HK1.out;omega⟩,⟨by (with_reducible repeat (first|apply Kd.S_alloc|apply Kd.S_drewN|apply Kd.S_drew));exact HQ18.out⟩,⟨by (with_reducible repeat (first|refine blk_drewN ?_ _|refine blk_drew ?_|refine blk_alloc ?_ _));refine blk_far ?_ HNB126_go16.out _;(with_reducible repeat (first|refine blk_drewN ?_ _|refine blk_drew ?_|refine blk_alloc ?_ _));exact BK126.out⟩,⟨by (with_reducible repeat (first|refine blk_drewN ?_ _|refine blk_drew ?_|refine blk_alloc ?_ _));refine blk_far ?_ HNB130_go16.out _;(with_reducible repeat (first|refine blk_drewN ?_ _|refine blk_drew ?_|refine blk_alloc ?_ _));exact BK130.out⟩,⟨by repeat (first|(with_reducible first|exact HB.out|apply below_alloc|apply pw_below_drewN|apply below_drew1|refine below_set ?_ GB16.out|refine below_set ?_ GE126.out|refine below_set ?_ GE130.out)|exact HB.out)⟩⟩
     ·rw[if_neg c12] at H
      exact absurd H (by simp)
    ·rw[if_neg c11] at H
     exact absurd H (by simp)
   ·rw[if_neg c10] at H
    have c10b0:decide (x6_1<a0)=false:=decide_eq_false c10;clear c10;have H':=Aside0.mk H;clear H
    go_wp2
    go_loopg [7] k1 (fun kq v7 w'=>∃(x7_2:Int) (x131000_2:List (S98)) (u131000:Value),v7=.int .i64 x7_2∧Aside0 (spec_MadeRing.l1 kq a0 a1 x7_2 x131000_2 100=some (r1,r2,r3))∧Aside0 (kq≤k1)∧Aside0 (Kd.S k98 98 w' w.heap.size (fun _=>True) u131000 x131000_2)∧Aside0 (w'.heap[gb126]?=some (.cells #[(.slice none 0 0),(.slice none 0 0),.int .i64 0] 35 (0,0)))∧Aside0 (w'.heap[gb130]?=some (.cells #[u131000,(.slice none 0 0),.int .i64 100] 35 (0,0)))∧Aside0 (Below w.heap.size w w'))
    case atStart=>exact⟨(0),(x131000_1),(u131000),(by first|rfl|(simp;done)|(simp[*];done)),H',⟨Nat.le_refl _⟩,⟨by (with_reducible repeat (first|apply Kd.S_alloc|apply Kd.S_drewN|apply Kd.S_drew));exact HO_131000.out⟩,⟨by (with_reducible repeat (first|refine blk_drewN ?_ _|refine blk_drew ?_|refine blk_alloc ?_ _));exact BK126.out⟩,⟨by (with_reducible repeat (first|refine blk_drewN ?_ _|refine blk_drew ?_|refine blk_alloc ?_ _));exact BK130.out⟩,⟨by repeat (first|(with_reducible first|exact HB.out|apply below_alloc|apply pw_below_drewN|apply below_drew1|refine below_set ?_ GE126.out|refine below_set ?_ GE130.out)|exact HB.out)⟩⟩
    case round=>
     clear H'
     try clear c1
     try clear p1
     try clear q1
     try clear hx1
     try clear qi1
     try clear p2
     try clear c3
     try clear p6
     try clear c8
     try clear c10
     try clear c10b0
     try clear c11
     try clear c11b0
     try clear c11b1
     try clear c12
     try clear c13
     try clear p13
     try clear q13
     try clear hx13
     try clear qi13
     try clear c16
     try clear c18
     try clear hx18
     try clear hf18
     try clear hcz9_0
     try clear hcz9_1
     try clear hcz9_2
     try clear hfz9_0
     try clear hfz9_1
     try clear hfz9_2
     try clear hx131_0
     try clear hx18_0
     try clear p13
     try clear p131
     try clear p2
     try clear q13
     try clear q131
     obtain⟨x7_2,x131000_2,u131000,rfl,HA,HK2,HO_131000,BK126,BK130,HB⟩:=hrel
     cases gk with
     |zero=>exact absurd HA.out (by simp[spec_MadeRing.l1])
     |succ k2=>
      have H:=HA.out;clear HA;simp only[spec_MadeRing.l1] at H
      by_cases c21:x7_2<a1
      ·rw[if_pos c21] at H
       have c21b0:decide (x7_2<a1)=true:=decide_eq_true c21;clear c21
       by_cases c22:a1=0
       ·rw[if_pos c22] at H
        exact absurd H (by simp)
       ·rw[if_neg c22] at H
        have c22b0:(a1==0)=false:=beq_eq_false_iff_ne.mpr c22;have c22b1:(a1 !=0)=true:=bne_iff_ne.mpr c22
        by_cases c23:0<(x131000_2.length:Int)
        ·rw[if_pos c23] at H
         have c23b0:decide (0<(x131000_2.length:Int))=true:=decide_eq_true c23;have c23b1:decide (0<x131000_2.length)=true:=decide_eq_true (by omega);clear c23
         by_cases c24:((rd_T98 x131000_2 0).f0).length<3518437208883
         ·rw[if_pos c24] at H
          have LMc24:=Aside0.mk c24;clear c24;obtain⟨y137,hy137⟩:∃y_:List (S100),y_=(((rd_T98 x131000_2 0).f0)++[(⟨7,0,wrap64 (2+x7_2),0,0⟩:S100)]):=⟨_,rfl⟩
          replace H:((some (x131000_2.set (0:Int).toNat (⟨y137⟩:S98):List (S98))).bind fun y140=>(if y140.length<5864062014805 then (spec_MadeRing.l1 k2 a0 a1 (wrap64 (x7_2+1)) (y140++[(⟨(([(⟨1,0,0,wrap64 ((wrap64 (a0+1))+(Int.tmod (wrap64 (x7_2+1)) a1)),0⟩:S100),(⟨8,0,0,0,0⟩:S100)]:List (S100)))⟩:S98)]) 100) else (none)))=some (r1,r2,r3):=by first|(rw[hy137];with_reducible exact H)|(have H2_:=(Option.bind_some _ _).symm.trans H;rw[hy137];with_reducible exact H2_)|(have H2_:=(Option.bind_some _ _).symm.trans H;with_reducible exact H2_)|with_reducible exact H|(rw[hy137];exact H)|exact H
          have Ny137:=Aside0.mk hy137;clear hy137;obtain⟨y140,hy140⟩:∃y_:List (S98),y_=(x131000_2.set (0:Int).toNat (⟨y137⟩:S98)):=⟨_,rfl⟩
          replace H:(if y140.length<5864062014805 then (spec_MadeRing.l1 k2 a0 a1 (wrap64 (x7_2+1)) (y140++[(⟨(([(⟨1,0,0,wrap64 ((wrap64 (a0+1))+(Int.tmod (wrap64 (x7_2+1)) a1)),0⟩:S100),(⟨8,0,0,0,0⟩:S100)]:List (S100)))⟩:S98)]) 100) else (none))=some (r1,r2,r3):=by first|(rw[hy140];with_reducible exact H)|(have H2_:=(Option.bind_some _ _).symm.trans H;rw[hy140];with_reducible exact H2_)|(have H2_:=(Option.bind_some _ _).symm.trans H;with_reducible exact H2_)|with_reducible exact H|(rw[hy140];exact H)|exact H
          have Ny140:=Aside0.mk hy140;clear hy140;obtain⟨y141,hy141⟩:∃y_:List (S100),y_=(([(⟨1,0,0,wrap64 ((wrap64 (a0+1))+(Int.tmod (wrap64 (x7_2+1)) a1)),0⟩:S100),(⟨8,0,0,0,0⟩:S100)]:List (S100))):=⟨_,rfl⟩
          replace H:(if y140.length<5864062014805 then (spec_MadeRing.l1 k2 a0 a1 (wrap64 (x7_2+1)) (y140++[(⟨y141⟩:S98)]) 100) else (none))=some (r1,r2,r3):=by first|(rw[hy141];with_reducible exact H)|(have H2_:=(Option.bind_some _ _).symm.trans H;rw[hy141];with_reducible exact H2_)|(have H2_:=(Option.bind_some _ _).symm.trans H;with_reducible exact H2_)|with_reducible exact H|(rw[hy141];exact H)|exact H
          have Ny141:=Aside0.mk hy141;clear hy141
          by_cases c26:y140.length<5864062014805
          ·rw[if_pos c26] at H
           have LMc26:=Aside0.mk c26;clear c26;obtain⟨y144,hy144⟩:∃y_:List (S98),y_=(y140++[(⟨y141⟩:S98)]):=⟨_,rfl⟩
           replace H:(spec_MadeRing.l1 k2 a0 a1 (wrap64 (x7_2+1)) y144 100)=some (r1,r2,r3):=by first|(rw[hy144];with_reducible exact H)|(have H2_:=(Option.bind_some _ _).symm.trans H;rw[hy144];with_reducible exact H2_)|(have H2_:=(Option.bind_some _ _).symm.trans H;with_reducible exact H2_)|with_reducible exact H|(rw[hy144];exact H)|exact H
           have Ny144:=Aside0.mk hy144;clear hy144;have H':=Aside0.mk H;clear H
           try go_wp2
           have n0_:=Aside0.mk (Kd.S_drew HO_131000.out);have n1_:=Aside0.mk (blk_drew BK126.out);have n2_:=Aside0.mk (blk_drew BK130.out);have n3_:=Aside0.mk (below_drew1 HB.out);clear HO_131000;clear BK126;clear BK130;clear HB;have HO_131000:=n0_;have BK126:=n1_;have BK130:=n2_;have HB:=n3_;clear n0_ n1_ n2_ n3_;obtain⟨Ao28,co28,eo28⟩:=Kd.S_slice HO_131000.out
           (first|subst eo28|(injection eo28 with f1_ f2_ f3_;have f4_:=f1_.symm;have f5_:=f3_.symm;clear f1_ f2_ f3_;subst f4_;subst f5_))
           have p136:0≤(0:Int):=(by omega);have q136:0<(x131000_2.length:Int):=of_decide_eq_true (by first|(with_reducible assumption)|assumption);obtain⟨ad136,A136_0,c136_0,e136,hx136_0,hl136_0,hi136_0⟩:=at_T98 (Kd.S_reads' HO_131000.out).2.2 0 p136 q136
           cases e136
           obtain⟨ce136,hce136,hMe136,hcc136⟩:=Kd.S_get HO_131000.out z98 0 p136 (by first|exact q136|exact of_decide_eq_true (by first|(with_reducible assumption)|assumption)|(have e_:=(Kd.S_reads' HO_131000.out).1;omega));obtain⟨ve136_0,rfl,ge136_0⟩:=k98_openM hMe136;have hv136_0:=hcc136 0 _ rfl;rw[Nat.add_zero,show (k98).sz=1 from rfl,Nat.mul_one] at hv136_0;replace hv136_0:=Option.some.inj (hv136_0.symm.trans hx136_0);rw[hv136_0] at ge136_0;have HL136_0:=Aside0.mk (show Kd.R k100 100 _ _ _ _ ((rd_T98 x131000_2 0).f0) from ge136_0);clear hv136_0 ge136_0;have HX136_0:=Aside0.mk hx136_0;clear hcc136 hce136;have qi136:(0<x131000_2.length)=True:=eq_true (by omega)
           (try rw[show ((0:Int)).toNat=0 from rfl] at hx136_0)
           (try rw[Addr.add_zero'] at hx136_0)
           have HR136_0:=Aside0.mk hi136_0;have HC136_0:=Aside0.mk hl136_0;clear hi136_0 hl136_0;replace p136:=eq_true p136;replace q136:=eq_true q136;obtain⟨go29,co29,eo29,gb29,gl29,cl29,HG29⟩:=Kd.S_form HO_131000.out (by have h_:(0:Int)<((x131000_2.length:Int):Int):=of_decide_eq_true (by first|(with_reducible assumption)|assumption);have h2_:0≤(0:Int):=(by omega);omega)
           (first|cases eo29|(injection eo29 with ea_ en_ ec_;(first|subst ea_|(injection ea_ with ea_;subst ea_));subst ec_;clear en_))
           have GB29:=Aside0.mk gb29;have GG29:=Aside0.mk HG29;clear gb29 gl29 HG29
           (first|simp only[add_plain] at hx136_0|skip)
           obtain⟨oki29,ce29,hcl29,hM29,hcc29,_,_,hH29⟩:=Kd.S_elem HO_131000.out z98 (0:Int) (by omega) (by have h_:(0:Int)<((x131000_2.length:Int):Int):=of_decide_eq_true (by first|(with_reducible assumption)|assumption);first|exact h_|(have e_:=(Kd.S_reads' HO_131000.out).1;omega)|simpa using h_);obtain⟨ve29_0,rfl,ge29_0⟩:=k98_openM hM29;have hv29:=hcc29 0 _ rfl;have hX29:=HX136_0.out
           (try simp only[add_plain] at hX29)
           (try simp only[Nat.add_zero] at hv29)
           (try rw[show (k98).sz=1 from rfl,Nat.mul_one] at hv29)
           replace hv29:=Option.some.inj (hv29.symm.trans hX29);subst hv29;clear hX29 hcc29 hcl29;have UU29:=Aside0.mk (show Kd.R k100 100 _ w.heap.size oki29 (.slice A136_0 ((rd_T98 x131000_2 0).f0).length c136_0) ((rd_T98 x131000_2 0).f0) from ge29_0);have HH29:=Aside0.mk hH29;have HN29:=Aside0.mk (Kd.S_reads' HO_131000.out).1;clear hH29 ge29_0
           refine start_ (n:=15) (S:=fun w'=>w'.cell? ⟨gb130,0,none⟩=some (.slice (some ⟨go29,0,none⟩) x131000_2.length co28)∧w'.cell? ⟨gb130,1,none⟩=some (.slice none 0 0)∧w'.cell? ⟨gb130,2,none⟩=some (.int .i64 100)∧w'.cell? ⟨go29,0,none⟩=some (.slice A136_0 ((rd_T98 x131000_2 0).f0).length c136_0)) (ds:=[14]) #[false,false,false,false,false,false,false,false,false,false,false,false,false,false,false] (by kernel_rfl) rfl rfl ⟨(blk_cell BK130.out 0).trans rfl,(blk_cell BK130.out 1).trans rfl,(blk_cell BK130.out 2).trans rfl,hx136_0⟩ (fun hHeld=>?_);refine with_tabW spec_MadeRing.tab10 spec_MadeRing.bits10 (fun HT_ HW_=>?_)
           generalize wr.drew=w27 at HO_131000 BK126 BK130 HB GG29 HH29 HL136_0 HR136_0 HX136_0 UU29 hx136_0 hHeld ⊢
           refine pure_ (i:=0) (N:=some 42) (v:=?_) (a':=?_) #[true,false,false,false,false,false,false,false,false,false,false,false,false,false,false] rfl rfl (any_of HT_.out (by kernel_rfl)) (fun _ _ _ h=>h) (Or.inl ⟨by rfl,?_⟩) ?_ ?_
           rotate_left
           ·intro w'
            go_simp
            with_reducible rfl
           rotate_left
           ·simp only[Act.put,List.setIfInBounds_toArray,List.set_cons_zero,List.set_cons_succ,i64_w,i32_w]
            rfl
           refine pure_ (i:=2) (N:=some 44) (v:=?_) (a':=?_) #[true,false,true,false,false,false,false,false,false,false,false,false,false,false,false] rfl rfl (any_of HT_.out (by kernel_rfl)) (fun _ _ _ h=>h) (Or.inl ⟨by rfl,?_⟩) ?_ ?_
           rotate_left
           ·intro w'
            go_simp
            with_reducible rfl
           rotate_left
           ·simp only[Act.put,List.setIfInBounds_toArray,List.set_cons_zero,List.set_cons_succ,i64_w,i32_w]
            rfl
           refine pure_ (i:=7) (N:=some 49) (v:=?_) (a':=?_) #[true,false,true,false,false,false,false,true,false,false,false,false,false,false,false] rfl rfl (any_of HT_.out (by kernel_rfl)) (fun _ _ _ h=>h) (Or.inl ⟨by rfl,?_⟩) ?_ ?_
           rotate_left
           ·intro w'
            go_simp
            with_reducible rfl
           rotate_left
           ·simp only[Act.put,List.setIfInBounds_toArray,List.set_cons_zero,List.set_cons_succ,i64_w,i32_w]
            rfl
           refine pure_ (i:=8) (N:=some 50) (v:=?_) (a':=?_) #[true,false,true,false,false,false,false,true,true,false,false,false,false,false,false] rfl rfl (any_of HT_.out (by kernel_rfl)) (fun _ _ _ h=>h) (Or.inl ⟨by rfl,?_⟩) ?_ ?_
           rotate_left
           ·intro w'
            go_simp
            with_reducible rfl
           rotate_left
           ·simp only[Act.put,List.setIfInBounds_toArray,List.set_cons_zero,List.set_cons_succ,i64_w,i32_w]
            rfl
           refine pure_ (i:=9) (N:=some 51) (v:=?_) (a':=?_) #[true,false,true,false,false,false,false,true,true,true,false,false,false,false,false] rfl rfl (any_of HT_.out (by kernel_rfl)) (fun _ _ _ h=>h) (Or.inl ⟨by rfl,?_⟩) ?_ ?_
           rotate_left
           ·intro w'
            go_simp
            with_reducible rfl
           rotate_left
           ·simp only[Act.put,List.setIfInBounds_toArray,List.set_cons_zero,List.set_cons_succ,i64_w,i32_w]
            rfl
           refine take_ (i:=1) (N:=some 43) (v:=?_) (a':=?_) #[true,true,true,false,false,false,false,true,true,true,false,false,false,false,false] rfl rfl (take_ofW HT_.out HW_.out (by kernel_rfl)) (fun _ _ _ h=>h) (Or.inl ⟨by rfl,?_⟩) hHeld ?_ ?_
           rotate_left
           ·rintro w' ⟨s0,s1,s2,s3⟩
            go_simp
            with_reducible rfl
           rotate_left
           ·simp only[Act.put,List.setIfInBounds_toArray,List.set_cons_zero,List.set_cons_succ,i64_w,i32_w]
            rfl
           refine take_ (i:=3) (N:=some 45) (v:=?_) (a':=?_) #[true,true,true,true,false,false,false,true,true,true,false,false,false,false,false] rfl rfl (take_ofW HT_.out HW_.out (by kernel_rfl)) (fun _ _ _ h=>h) (Or.inl ⟨by rfl,?_⟩) hHeld ?_ ?_
           rotate_left
           ·rintro w' ⟨s0,s1,s2,s3⟩
            go_simp
            with_reducible rfl
           rotate_left
           ·simp only[Act.put,List.setIfInBounds_toArray,List.set_cons_zero,List.set_cons_succ,i64_w,i32_w]
            rfl
           refine pure_ (i:=4) (N:=some 46) (v:=?_) (a':=?_) #[true,true,true,true,true,false,false,true,true,true,false,false,false,false,false] rfl rfl (any_of HT_.out (by kernel_rfl)) (fun _ _ _ h=>h) (Or.inl ⟨by rfl,?_⟩) ?_ ?_
           rotate_left
           ·intro w'
            go_simp
            with_reducible rfl
           rotate_left
           ·simp only[Act.put,List.setIfInBounds_toArray,List.set_cons_zero,List.set_cons_succ,i64_w,i32_w]
            rfl
           refine pure_ (i:=5) (N:=some 47) (v:=?_) (a':=?_) #[true,true,true,true,true,true,false,true,true,true,false,false,false,false,false] rfl rfl (any_of HT_.out (by kernel_rfl)) (fun _ _ _ h=>h) (Or.inl ⟨by rfl,?_⟩) ?_ ?_
           rotate_left
           ·intro w'
            go_simp
            with_reducible rfl
           rotate_left
           ·simp only[Act.put,List.setIfInBounds_toArray,List.set_cons_zero,List.set_cons_succ,i64_w,i32_w]
            rfl
           refine take_ (i:=6) (N:=some 48) (v:=?_) (a':=?_) #[true,true,true,true,true,true,true,true,true,true,false,false,false,false,false] rfl rfl (take_ofW HT_.out HW_.out (by kernel_rfl)) (fun _ _ _ h=>h) (Or.inl ⟨by rfl,?_⟩) hHeld ?_ ?_
           rotate_left
           ·rintro w' ⟨s0,s1,s2,s3⟩
            go_simp
            with_reducible rfl
           rotate_left
           ·simp only[Act.put,List.setIfInBounds_toArray,List.set_cons_zero,List.set_cons_succ,i64_w,i32_w]
            rfl
           refine one_ (i:=10) (N:=some 52) #[true,true,true,true,true,true,true,true,true,true,true,false,false,false,false] rfl rfl (one_of HT_.out (by kernel_rfl)) (by decide) (fun K hK=>?_)
           refine value_ (w1:=?_) (v:=?_) (by rfl) rfl ?_ ?_
           rotate_left 2
           ·go_simp
            constructor
            ·rfl
            ·rfl
           refine hK.out _ _ ⟨(blk_cell (blk_alloc BK130.out _) 0).trans rfl,(blk_cell (blk_alloc BK130.out _) 1).trans rfl,(blk_cell (blk_alloc BK130.out _) 2).trans rfl,(World.cell?_alloc_lt _ _ _ (World.block_lt_of_cell? _ _ (hHeld.2.2.2))).trans (hHeld.2.2.2)⟩ (fun hHeld=>?_)
           clear hK K
           refine norm_ (a':=?_) ?_ ?_
           rotate_left
           ·show Act.put _ (some 52) _=_
            simp only[Act.put,List.setIfInBounds_toArray,List.set_cons_zero,List.set_cons_succ,i64_w,i32_w];rfl
           refine one_ (i:=11) (N:=some 53) #[true,true,true,true,true,true,true,true,true,true,true,true,false,false,false] rfl rfl (one_of HT_.out (by kernel_rfl)) (by decide) (fun K hK=>?_)
           refine Kd.R_append_step k100 (w0:=w) w.heap.size (by rfl) (.tmp 48) (.tmp 52) 96 100 (.agg #[(.int .i64 0),(.int .i64 0),(.int .i64 0),(.int .i64 0),(.int .i64 0)]) 40 rfl Try.underlying96 info100 rfl (by decide) (by omega) (.slice A136_0 ((rd_T98 x131000_2 0).f0).length c136_0) ((rd_T98 x131000_2 0).f0) (⟨7,0,wrap64 (2+x7_2),0,0⟩:S100) [.int .i64 7,.int .i64 0,.int .i64 (wrap64 (2+x7_2)),.int .i64 0,.int .i64 0] (fun k_=>oki29 k_∨((fun _=>True)) k_∧w27.heap.size≤k_) (fun _=>False) rfl rfl ?aP (fun _ hk=>hk.elim) ?aF ?aO ?aB ?aS ?aL ?_
           (case aP=>exact k100_mkM _ _ _ (⟨7,0,wrap64 (2+x7_2),0,0⟩:S100))
           (case aB=>exact (by repeat (first|(with_reducible first|exact HB.out|apply below_alloc|apply pw_below_drewN|apply below_drew1|refine below_set ?_ GE126.out|refine below_set ?_ GE130.out)|exact HB.out)))
           (case aF=>exact (fun k_ hk=>.inr ⟨trivial,hk⟩))
           (case aO=>exact (by (with_reducible repeat (first|apply Kd.R_alloc|apply Kd.R_drewN|apply Kd.R_drew));exact Kd.R_mono UU29.out (fun _ hk=>.inl hk)))
           (case aS=>exact (below_size (by repeat (first|(with_reducible first|exact HB.out|apply below_alloc|apply pw_below_drewN|apply below_drew1|refine below_set ?_ GE126.out|refine below_set ?_ GE130.out)|exact HB.out))))
           (case aL=>have:=LMc24.out;omega)
           intro v138 w30 ho hb hg hat
           (first|have HS3_:=cell_grown hg (hHeld.2.2.2) (by first|(rw[add_block];exact (fun e_=>((HL136_0.out.1 _ e_.symm).2) rfl))|(show some (Addr.add _ _).block≠_;rw[add_block];exact (fun e_=>((HL136_0.out.1 _ e_.symm).2) rfl))|exact (fun e_=>((HL136_0.out.1 _ e_.symm).2) rfl))|have HS3_:=cell_grown hg (cell_unalloc (hHeld.2.2.2) (by first|(rw[add_block];exact Kd.S_lt HO_131000.out _ rfl)|(show (Addr.add _ _).block<_;rw[add_block];exact Kd.S_lt HO_131000.out _ rfl)|exact Kd.S_lt HO_131000.out _ rfl)) (by first|(rw[add_block];exact (fun e_=>((HL136_0.out.1 _ e_.symm).2) rfl))|(show some (Addr.add _ _).block≠_;rw[add_block];exact (fun e_=>((HL136_0.out.1 _ e_.symm).2) rfl))|exact (fun e_=>((HL136_0.out.1 _ e_.symm).2) rfl)))
           rw[←Ny137.out] at ho;have n0_:=Aside0.mk (blk_grown (g:=gb126) (o:=.cells #[.slice none 0 0,.slice none 0 0,.int .i64 0] 35 (0,0)) (by (with_reducible repeat (first|refine blk_drewN ?_ _|refine blk_drew ?_|refine blk_alloc ?_ _));exact BK126.out) hg (Kd.R_ne HL136_0.out BK126.out (by decide)));have n1_:=Aside0.mk (blk_grown (g:=gb130) (o:=.cells #[.slice (some ⟨go29,0,none⟩) x131000_2.length co28,.slice none 0 0,.int .i64 100] 35 (0,0)) (by (with_reducible repeat (first|refine blk_drewN ?_ _|refine blk_drew ?_|refine blk_alloc ?_ _));exact BK130.out) hg (Kd.R_ne HL136_0.out BK130.out (by decide)));have n2_:=Aside0.mk (hb);have n3_:=Aside0.mk (Kd.H_grown (Kd.H_widen (by repeat (first|exact HH29.out|refine Kd.H_alloc ?_ _|refine Kd.H_drewN ?_ _|refine Kd.H_drew ?_))) hg (fun k_ e_=>.inl (UU29.out.1 k_ e_)));have n4_:=Aside0.mk (ho);clear BK126;clear BK130;clear HB;clear HH29;clear HO_131000;clear UU29;clear HL136_0;have BK126:=n0_;have BK130:=n1_;have HB:=n2_;have HH29:=n3_;have HO139:=n4_;clear n0_ n1_ n2_ n3_ n4_;clear ho hb hg hat;have p25:0≤(0:Int):=(by omega);have q25:(0:Int)<((x131000_2.length:Int):Int):=of_decide_eq_true (by first|(with_reducible assumption)|assumption);replace p25:=eq_true p25;replace q25:=eq_true q25;obtain⟨Ao33,co33,eo33⟩:=Kd.R_slice HO139.out
           (first|subst eo33|(injection eo33 with f1_ f2_ f3_;have f4_:=f1_.symm;have f5_:=f3_.symm;clear f1_ f2_ f3_;subst f4_;subst f5_))
           obtain⟨_,_,hraw31,_,_,hcc31,_⟩:=Kd.H_raw HH29.out (by omega) (by have h_:(0:Int)<((x131000_2.length:Int):Int):=of_decide_eq_true (by first|(with_reducible assumption)|assumption);first|exact h_|(have e_:=(HN29.out);omega)|simpa using h_);obtain⟨_,hfr31⟩:=Kd.H_at HH29.out (by omega) (by have h_:(0:Int)<((x131000_2.length:Int):Int):=of_decide_eq_true (by first|(with_reducible assumption)|assumption);first|exact h_|(have e_:=(HN29.out);omega)|simpa using h_);have hx31_0:=hcc31 0 _ rfl;have hf31_0:=hfr31 0
           (try simp only[Nat.add_zero] at hx31_0 hf31_0)
           (try rw[show (k98).sz=1 from rfl,Nat.mul_one] at hx31_0)
           (try rw[show (k98).sz=1 from rfl,Nat.mul_one] at hf31_0)
           (try rw[show ((0:Int)).toNat=0 from rfl] at hx31_0)
           (try simp only[Nat.reduceMul,Nat.zero_mul,Nat.zero_add,Nat.reduceAdd] at hx31_0)
           (try rw[show ((0:Int)).toNat=0 from rfl] at hf31_0)
           (try simp only[Nat.reduceMul,Nat.zero_mul,Nat.zero_add,Nat.reduceAdd] at hf31_0)
           have HP31:=Kd.S_seg0 HH29.out (by omega) (by have h_:(0:Int)<((x131000_2.length:Int):Int):=of_decide_eq_true (by first|(with_reducible assumption)|assumption);first|exact h_|(have e_:=(HN29.out);omega)|simpa using h_) (seg:=[.slice Ao33 y137.length co33]) (j:=0) (show 1≤1 from by decide) (x':=(⟨y137⟩:S98)) (k98_mkM _ _ _ (⟨y137⟩:S98) HO139.out) (fun _ hk=>hk)
           (try simp only[show (k98).sz=1 from rfl,Nat.mul_one,Nat.add_zero] at HP31)
           clear hcc31 hfr31;have HNB126_go29:=Aside0.mk (show gb126≠go29 from by have h_:=Kd.R_ne hraw31 BK126.out (by decide);intro e_;exact h_ (by rw[e_];rfl));have HNB130_go29:=Aside0.mk (show gb130≠go29 from by have h_:=Kd.R_ne hraw31 BK130.out (by decide);intro e_;exact h_ (by rw[e_];rfl));have HS31:=HP31.1;rw[←Ny140.out] at HS31;have HQ31:=Aside0.mk HS31;obtain⟨_,hgg31⟩:=Kd.R_typed hraw31 go29 rfl;have GG31_:=Aside0.mk hgg31;clear HP31 HS31 hgg31
           refine hK.out _ _ ⟨(blk_cell BK130.out 0).trans rfl,(blk_cell BK130.out 1).trans rfl,(blk_cell BK130.out 2).trans rfl,HS3_⟩ (fun hHeld=>?_)
           clear hK K
           refine norm_ (a':=?_) ?_ ?_
           rotate_left
           ·show Act.put _ (some 53) _=_
            simp only[Act.put,List.setIfInBounds_toArray,List.set_cons_zero,List.set_cons_succ,i64_w,i32_w];rfl
           refine pure_ (i:=12) (N:=some 54) (v:=?_) (a':=?_) #[true,true,true,true,true,true,true,true,true,true,true,true,true,false,false] rfl rfl (any_of HT_.out (by kernel_rfl)) (fun _ _ _ h=>h) (Or.inl ⟨by rfl,?_⟩) ?_ ?_
           rotate_left
           ·intro w'
            go_simp
            with_reducible rfl
           rotate_left
           ·simp only[Act.put,List.setIfInBounds_toArray,List.set_cons_zero,List.set_cons_succ,i64_w,i32_w]
            rfl
           refine pure_ (i:=13) (N:=some 55) (v:=?_) (a':=?_) #[true,true,true,true,true,true,true,true,true,true,true,true,true,true,false] rfl rfl (any_of HT_.out (by kernel_rfl)) (fun _ _ _ h=>h) (Or.inl ⟨by rfl,?_⟩) ?_ ?_
           rotate_left
           ·intro w'
            go_simp
            with_reducible rfl
           rotate_left
           ·simp only[Act.put,List.setIfInBounds_toArray,List.set_cons_zero,List.set_cons_succ,i64_w,i32_w]
            rfl
           refine last_ (i:=14) (N:=none) #[true,true,true,true,true,true,true,true,true,true,true,true,true,true,true] rfl rfl (one_of HT_.out (by kernel_rfl)) (by decide) (fun K hK=>?_)
           refine skip_ (w1:=?_) (by rfl) rfl ?_ ?_
           rotate_left
           ·go_simp
            rfl
           refine hK.out _ _ ?_
           clear hK K
           refine done_ (done_of HT_.out (by kernel_rfl)) ?_
           have n0_:Aside0 (Kd.S k98 98 (w30.setCell ⟨go29,0,none⟩ (.slice Ao33 y137.length co33)) w.heap.size (fun _=>True) (.slice (some ⟨go29,0,none⟩) x131000_2.length co28) y140):=⟨by (with_reducible repeat (first|apply Kd.S_alloc|apply Kd.S_drewN|apply Kd.S_drew));exact HQ31.out⟩;have n1_:Aside0 ((w30.setCell ⟨go29,0,none⟩ (.slice Ao33 y137.length co33)).heap[gb126]?=some (.cells #[.slice none 0 0,.slice none 0 0,.int .i64 0] 35 (0,0))):=⟨by (with_reducible repeat (first|refine blk_drewN ?_ _|refine blk_drew ?_|refine blk_alloc ?_ _));refine blk_far ?_ HNB126_go29.out _;(with_reducible repeat (first|refine blk_drewN ?_ _|refine blk_drew ?_|refine blk_alloc ?_ _));exact BK126.out⟩;have n2_:Aside0 ((w30.setCell ⟨go29,0,none⟩ (.slice Ao33 y137.length co33)).heap[gb130]?=some (.cells #[.slice (some ⟨go29,0,none⟩) x131000_2.length co28,.slice none 0 0,.int .i64 100] 35 (0,0))):=⟨by (with_reducible repeat (first|refine blk_drewN ?_ _|refine blk_drew ?_|refine blk_alloc ?_ _));refine blk_far ?_ HNB130_go29.out _;(with_reducible repeat (first|refine blk_drewN ?_ _|refine blk_drew ?_|refine blk_alloc ?_ _));exact BK130.out⟩;have n3_:Aside0 (Below w.heap.size w (w30.setCell ⟨go29,0,none⟩ (.slice Ao33 y137.length co33))):=⟨by repeat (first|(with_reducible first|exact HB.out|apply below_alloc|apply pw_below_drewN|apply below_drew1|refine below_set ?_ GB29.out|refine below_set ?_ GE126.out|refine below_set ?_ GE130.out)|exact HB.out)⟩
           (try clear HO_131000)
           (try clear BK126)
           (try clear BK130)
           (try clear HB)
           generalize (w30.setCell ⟨go29,0,none⟩ (.slice Ao33 y137.length co33))=w34 at n0_ n1_ n2_ n3_ ⊢;have HO_131000:=n0_;have BK126:=n1_;have BK130:=n2_;have HB:=n3_;clear n0_ n1_ n2_ n3_;have hnb35:=NB130_126.out;have hnc35:=NB126_130.out;have hcz36_0:w34.cell? ⟨gb130,0,none⟩=some (.slice (some ⟨go29,0,none⟩) x131000_2.length co28):=(blk_cell BK130.out 0).trans rfl;have hcz36_1:w34.cell? ⟨gb130,1,none⟩=some (.slice none 0 0):=(blk_cell BK130.out 1).trans rfl;have hcz36_2:w34.cell? ⟨gb130,2,none⟩=some (.int .i64 100):=(blk_cell BK130.out 2).trans rfl;have hfz36_0:=blk_frozen BK130.out 0;have hfz36_1:=blk_frozen BK130.out 1;have hfz36_2:=blk_frozen BK130.out 2
           try go_wp2_with (first|((with_reducible refine gate_dst (N:=61) rfl ?_);refine Kd.R_lit k100 _ 100 ?hg (N:=61) ?hd (xs:=([(⟨1,0,0,wrap64 ((wrap64 (a0+1))+(Int.tmod (wrap64 (x7_2+1)) a1)),0⟩:S100),(⟨8,0,0,0,0⟩:S100)]:List (S100))) (inner:=[.int .i64 1,.int .i64 0,.int .i64 0,.int .i64 (wrap64 ((wrap64 (a0+1))+(Int.tmod (wrap64 (x7_2+1)) a1))),.int .i64 0,.int .i64 8,.int .i64 0,.int .i64 0,.int .i64 0,.int .i64 0]) (ok:=fun _=>True) (okp:=fun _=>True) ?hr ?hp (fun _ hk=>hk) trivial (Below.refl _ _) (Nat.le_refl _) (by simp) ?_;(case hd=>rfl);(case hg=>rfl);(case hr=>first|(go_simp;done)|(go_simp;rfl));(case hp=>exact (Reps.c5 (show Kd.M k100 _ _ _ (⟨1,0,0,wrap64 ((wrap64 (a0+1))+(Int.tmod (wrap64 (x7_2+1)) a1)),0⟩:S100) [.int .i64 1,.int .i64 0,.int .i64 0,.int .i64 (wrap64 ((wrap64 (a0+1))+(Int.tmod (wrap64 (x7_2+1)) a1))),.int .i64 0] from (k100_mkM _ _ _ (⟨1,0,0,wrap64 ((wrap64 (a0+1))+(Int.tmod (wrap64 (x7_2+1)) a1)),0⟩:S100))) (Reps.c5 (show Kd.M k100 _ _ _ (⟨8,0,0,0,0⟩:S100) [.int .i64 8,.int .i64 0,.int .i64 0,.int .i64 0,.int .i64 0] from (k100_mkM _ _ _ (⟨8,0,0,0,0⟩:S100))) (Reps.none _ _))));intro v142 w37 ho38 hb hg_ hnew_;clear hg_ hnew_;(first|rw [←Ny141.out] at ho38|(simp only[Int.reduceToNat] at ho38;rw[←Ny141.out] at ho38));have n0_:=Aside0.mk (Kd.S_elder' (by (with_reducible repeat (first|apply Kd.S_alloc|apply Kd.S_drewN|apply Kd.S_drew));exact HO_131000.out) (Kd.R_base ho38) hb);have n1_:=Aside0.mk (Kd.R_lower ho38 (below_size (by repeat (first|(with_reducible first|exact HB.out|apply below_alloc|apply pw_below_drewN|apply below_drew1|refine below_set ?_ GE126.out|refine below_set ?_ GE130.out)|exact HB.out))));have n2_:=Aside0.mk (blk_below (g:=gb126) (o:=.cells #[.slice none 0 0,.slice none 0 0,.int .i64 0] 35 (0,0)) (by (with_reducible repeat (first|refine blk_drewN ?_ _|refine blk_drew ?_|refine blk_alloc ?_ _));exact BK126.out) hb);have n3_:=Aside0.mk (blk_below (g:=gb130) (o:=.cells #[.slice (some ⟨go29,0,none⟩) x131000_2.length co28,.slice none 0 0,.int .i64 100] 35 (0,0)) (by (with_reducible repeat (first|refine blk_drewN ?_ _|refine blk_drew ?_|refine blk_alloc ?_ _));exact BK130.out) hb);have n4_:=Aside0.mk (below_step (by repeat (first|(with_reducible first|exact HB.out|apply below_alloc|apply pw_below_drewN|apply below_drew1|refine below_set ?_ GE126.out|refine below_set ?_ GE130.out)|exact HB.out)) hb);clear HO_131000;clear BK126;clear BK130;clear HB;have HO_131000:=n0_;have HO143:=n1_;have BK126:=n2_;have BK130:=n3_;have HB:=n4_;clear n0_ n1_ n2_ n3_ n4_;clear hb ho38;obtain⟨Ao39,co39,eo39⟩:=Kd.R_slice HO143.out;subst eo39)|((with_reducible refine gate_builtin (b:=.append) (xs:=#[.tmp 57,.tmp 63]) rfl ?_);at_builtin;refine Kd.S_append k98 (w0:=w) w.heap.size rfl (.tmp 57) (.tmp 63) 33 98 (.agg #[(.slice none 0 0)]) 24 rfl Try.underlying33 info98 rfl (by decide) (by omega) (.slice (some ⟨go29,0,none⟩) x131000_2.length co28) y140 (⟨y141⟩:S98) [.slice Ao39 y141.length co39] (fun _=>True) (fun k_=>some k_=(.slice Ao39 y141.length co39:Value).ownBlock) rfl rfl ?aP (fun k_ hk_=>((Kd.R_mono (ok':=fun k_=>((fun _=>True)) k_∧some k_≠(.slice (some ⟨go29,0,none⟩) x131000_2.length co28:Value).ownBlock) (Kd.R_apart' (HO143.out) (Kd.S_typed HO_131000.out) (by decide)) (fun k_ hk=>⟨trivial,hk.2⟩))).1 k_ hk_.symm) ?aF ?aO ?aB ?aS ?aL ?_;(case aP=>exact k98_mkM _ _ _ (⟨y141⟩:S98) (Kd.R_mono (Kd.R_tight rfl (Kd.R_mono (ok':=fun k_=>((fun _=>True)) k_∧some k_≠(.slice (some ⟨go29,0,none⟩) x131000_2.length co28:Value).ownBlock) (Kd.R_apart' (HO143.out) (Kd.S_typed HO_131000.out) (by decide)) (fun k_ hk=>⟨trivial,hk.2⟩))) (fun _ h_=>h_)));(case aB=>exact (by repeat (first|(with_reducible first|exact HB.out|apply below_alloc|apply pw_below_drewN|apply below_drew1|refine below_set ?_ GE126.out|refine below_set ?_ GE130.out)|exact HB.out)));(case aF=>exact (fun _ _=>trivial));(case aO=>exact (by (with_reducible repeat (first|apply Kd.S_alloc|apply Kd.S_drewN|apply Kd.S_drew));exact Kd.S_mono HO_131000.out (fun k_ hk=>⟨trivial,fun e_=>hk.2 e_⟩)));(case aS=>exact (below_size (by repeat (first|(with_reducible first|exact HB.out|apply below_alloc|apply pw_below_drewN|apply below_drew1|refine below_set ?_ GE126.out|refine below_set ?_ GE130.out)|exact HB.out))));(case aL=>have:=LMc26.out;omega);intro v145 w40 ho hb hg hat;rw[←Ny144.out] at ho;have n0_:=Aside0.mk (blk_grown (g:=gb126) (o:=.cells #[.slice none 0 0,.slice none 0 0,.int .i64 0] 35 (0,0)) (by (with_reducible repeat (first|refine blk_drewN ?_ _|refine blk_drew ?_|refine blk_alloc ?_ _));exact BK126.out) hg (Kd.S_ne HO_131000.out BK126.out (by decide)));have n1_:=Aside0.mk (blk_grown (g:=gb130) (o:=.cells #[.slice (some ⟨go29,0,none⟩) x131000_2.length co28,.slice none 0 0,.int .i64 100] 35 (0,0)) (by (with_reducible repeat (first|refine blk_drewN ?_ _|refine blk_drew ?_|refine blk_alloc ?_ _));exact BK130.out) hg (Kd.S_ne HO_131000.out BK130.out (by decide)));have n2_:=Aside0.mk (hb);have n3_:=Aside0.mk (ho);clear BK126;clear BK130;clear HB;clear HO_131000;clear HO143;have BK126:=n0_;have BK130:=n1_;have HB:=n2_;have HO146:=n3_;clear n0_ n1_ n2_ n3_;clear ho hb hg hat;obtain⟨Ao41,co41,eo41⟩:=Kd.S_slice HO146.out;subst eo41;have hcz42_0:w40.cell? ⟨gb130,0,none⟩=some (.slice (some ⟨go29,0,none⟩) x131000_2.length co28):=(blk_cell BK130.out 0).trans rfl;have hcz42_1:w40.cell? ⟨gb130,1,none⟩=some (.slice none 0 0):=(blk_cell BK130.out 1).trans rfl;have hcz42_2:w40.cell? ⟨gb130,2,none⟩=some (.int .i64 100):=(blk_cell BK130.out 2).trans rfl;have hfz42_0:=blk_frozen BK130.out 0;have hfz42_1:=blk_frozen BK130.out 1;have hfz42_2:=blk_frozen BK130.out 2))
           go_roundg k2
           case measure=>have:=HK1.out;have:=HK2.out;omega
           case rel=>exact⟨(wrap64 (x7_2+1)),(y144),(.slice Ao41 y144.length co41),(by first|rfl|(simp;done)|(simp[*];done)),H',⟨by have:=HK1.out;have:=HK2.out;omega⟩,⟨by (with_reducible repeat (first|apply Kd.S_alloc|apply Kd.S_drewN|apply Kd.S_drew));exact Kd.S_mono (Kd.S_far (p:=⟨gb130,0,none⟩) (Kd.S_types HO146.out BK130.out (by decide)) (fun _ hk=>hk.2) (.slice Ao41 y144.length co41)) (fun _ hk=>trivial)⟩,⟨by (with_reducible repeat (first|refine blk_drewN ?_ _|refine blk_drew ?_|refine blk_alloc ?_ _));refine blk_far ?_ NB126_130.out _;(with_reducible repeat (first|refine blk_drewN ?_ _|refine blk_drew ?_|refine blk_alloc ?_ _));exact BK126.out⟩,⟨by (with_reducible repeat (first|refine blk_drewN ?_ _|refine blk_drew ?_|refine blk_alloc ?_ _));refine blk_put (cs:=#[.slice (some ⟨go29,0,none⟩) x131000_2.length co28,.slice none 0 0,.int .i64 100]) ?_ 0 _ rfl;(with_reducible repeat (first|refine blk_drewN ?_ _|refine blk_drew ?_|refine blk_alloc ?_ _));exact BK130.out⟩,⟨by repeat (first|(with_reducible first|exact HB.out|apply below_alloc|apply pw_below_drewN|apply below_drew1|refine below_set ?_ GE126.out|refine below_set ?_ GE130.out)|exact HB.out)⟩⟩
          ·rw[if_neg c26] at H
           exact absurd H (by simp)
         ·rw[if_neg c24] at H
          exact absurd H (by simp)
        ·rw[if_neg c23] at H
         exact absurd H (by simp)
      ·rw[if_neg c21] at H
       have c21b0:decide (x7_2<a1)=false:=decide_eq_false c21;clear c21
       by_cases c43:0<(x131000_2.length:Int)
       ·rw[if_pos c43] at H
        have c43b0:decide (0<(x131000_2.length:Int))=true:=decide_eq_true c43;have c43b1:decide (0<x131000_2.length)=true:=decide_eq_true (by omega);clear c43
        by_cases c44:((rd_T98 x131000_2 0).f0).length<3518437208883
        ·rw[if_pos c44] at H
         have LMc44:=Aside0.mk c44;clear c44;obtain⟨y148,hy148⟩:∃y_:List (S100),y_=(((rd_T98 x131000_2 0).f0)++[(⟨8,0,0,0,0⟩:S100)]):=⟨_,rfl⟩
         replace H:(some ((x131000_2.set (0:Int).toNat (⟨y148⟩:S98)),([]:List Int),100))=some (r1,r2,r3):=by first|(rw[hy148];with_reducible exact H)|(have H2_:=(Option.bind_some _ _).symm.trans H;rw[hy148];with_reducible exact H2_)|(have H2_:=(Option.bind_some _ _).symm.trans H;with_reducible exact H2_)|with_reducible exact H|(rw[hy148];exact H)|exact H
         have Ny148:=Aside0.mk hy148;clear hy148;obtain⟨y151,hy151⟩:∃y_:List (S98),y_=(x131000_2.set (0:Int).toNat (⟨y148⟩:S98)):=⟨_,rfl⟩
         replace H:(some (y151,([]:List Int),100))=some (r1,r2,r3):=by first|(rw[hy151];with_reducible exact H)|(have H2_:=(Option.bind_some _ _).symm.trans H;rw[hy151];with_reducible exact H2_)|(have H2_:=(Option.bind_some _ _).symm.trans H;with_reducible exact H2_)|with_reducible exact H|(rw[hy151];exact H)|exact H
         have Ny151:=Aside0.mk hy151;clear hy151;simp only[Option.some.injEq,Prod.mk.injEq] at H;obtain⟨rfl,rfl,rfl⟩:=H
         try go_wp2
         have n0_:=Aside0.mk (Kd.S_drew HO_131000.out);have n1_:=Aside0.mk (blk_drew BK126.out);have n2_:=Aside0.mk (blk_drew BK130.out);have n3_:=Aside0.mk (below_drew1 HB.out);clear HO_131000;clear BK126;clear BK130;clear HB;have HO_131000:=n0_;have BK126:=n1_;have BK130:=n2_;have HB:=n3_;clear n0_ n1_ n2_ n3_;obtain⟨Ao47,co47,eo47⟩:=Kd.S_slice HO_131000.out
         (first|subst eo47|(injection eo47 with f1_ f2_ f3_;have f4_:=f1_.symm;have f5_:=f3_.symm;clear f1_ f2_ f3_;subst f4_;subst f5_))
         have p147:0≤(0:Int):=(by omega);have q147:0<(x131000_2.length:Int):=of_decide_eq_true (by first|(with_reducible assumption)|assumption);obtain⟨ad147,A147_0,c147_0,e147,hx147_0,hl147_0,hi147_0⟩:=at_T98 (Kd.S_reads' HO_131000.out).2.2 0 p147 q147
         cases e147
         obtain⟨ce147,hce147,hMe147,hcc147⟩:=Kd.S_get HO_131000.out z98 0 p147 (by first|exact q147|exact of_decide_eq_true (by first|(with_reducible assumption)|assumption)|(have e_:=(Kd.S_reads' HO_131000.out).1;omega));obtain⟨ve147_0,rfl,ge147_0⟩:=k98_openM hMe147;have hv147_0:=hcc147 0 _ rfl;rw[Nat.add_zero,show (k98).sz=1 from rfl,Nat.mul_one] at hv147_0;replace hv147_0:=Option.some.inj (hv147_0.symm.trans hx147_0);rw[hv147_0] at ge147_0;have HL147_0:=Aside0.mk (show Kd.R k100 100 _ _ _ _ ((rd_T98 x131000_2 0).f0) from ge147_0);clear hv147_0 ge147_0;have HX147_0:=Aside0.mk hx147_0;clear hcc147 hce147;have qi147:(0<x131000_2.length)=True:=eq_true (by omega)
         (try rw[show ((0:Int)).toNat=0 from rfl] at hx147_0)
         (try rw[Addr.add_zero'] at hx147_0)
         have HR147_0:=Aside0.mk hi147_0;have HC147_0:=Aside0.mk hl147_0;clear hi147_0 hl147_0;replace p147:=eq_true p147;replace q147:=eq_true q147;obtain⟨go48,co48,eo48,gb48,gl48,cl48,HG48⟩:=Kd.S_form HO_131000.out (by have h_:(0:Int)<((x131000_2.length:Int):Int):=of_decide_eq_true (by first|(with_reducible assumption)|assumption);have h2_:0≤(0:Int):=(by omega);omega)
         (first|cases eo48|(injection eo48 with ea_ en_ ec_;(first|subst ea_|(injection ea_ with ea_;subst ea_));subst ec_;clear en_))
         have GB48:=Aside0.mk gb48;have GG48:=Aside0.mk HG48;clear gb48 gl48 HG48
         (first|simp only[add_plain] at hx147_0|skip)
         obtain⟨oki48,ce48,hcl48,hM48,hcc48,_,_,hH48⟩:=Kd.S_elem HO_131000.out z98 (0:Int) (by omega) (by have h_:(0:Int)<((x131000_2.length:Int):Int):=of_decide_eq_true (by first|(with_reducible assumption)|assumption);first|exact h_|(have e_:=(Kd.S_reads' HO_131000.out).1;omega)|simpa using h_);obtain⟨ve48_0,rfl,ge48_0⟩:=k98_openM hM48;have hv48:=hcc48 0 _ rfl;have hX48:=HX147_0.out
         (try simp only[add_plain] at hX48)
         (try simp only[Nat.add_zero] at hv48)
         (try rw[show (k98).sz=1 from rfl,Nat.mul_one] at hv48)
         replace hv48:=Option.some.inj (hv48.symm.trans hX48);subst hv48;clear hX48 hcc48 hcl48;have UU48:=Aside0.mk (show Kd.R k100 100 _ w.heap.size oki48 (.slice A147_0 ((rd_T98 x131000_2 0).f0).length c147_0) ((rd_T98 x131000_2 0).f0) from ge48_0);have HH48:=Aside0.mk hH48;have HN48:=Aside0.mk (Kd.S_reads' HO_131000.out).1;clear hH48 ge48_0
         refine start_ (n:=13) (S:=fun w'=>w'.cell? ⟨gb130,0,none⟩=some (.slice (some ⟨go48,0,none⟩) x131000_2.length co47)∧w'.cell? ⟨gb130,1,none⟩=some (.slice none 0 0)∧w'.cell? ⟨gb130,2,none⟩=some (.int .i64 100)∧w'.cell? ⟨go48,0,none⟩=some (.slice A147_0 ((rd_T98 x131000_2 0).f0).length c147_0)) (ds:=[12]) #[false,false,false,false,false,false,false,false,false,false,false,false,false] (by kernel_rfl) rfl rfl ⟨(blk_cell BK130.out 0).trans rfl,(blk_cell BK130.out 1).trans rfl,(blk_cell BK130.out 2).trans rfl,hx147_0⟩ (fun hHeld=>?_);refine with_tabW spec_MadeRing.tab12 spec_MadeRing.bits12 (fun HT_ HW_=>?_)
         generalize wr.drew=w46 at HO_131000 BK126 BK130 HB GG48 HH48 HL147_0 HR147_0 HX147_0 UU48 hx147_0 hHeld ⊢
         refine pure_ (i:=0) (N:=some 66) (v:=?_) (a':=?_) #[true,false,false,false,false,false,false,false,false,false,false,false,false] rfl rfl (any_of HT_.out (by kernel_rfl)) (fun _ _ _ h=>h) (Or.inl ⟨by rfl,?_⟩) ?_ ?_
         rotate_left
         ·intro w'
          go_simp
          with_reducible rfl
         rotate_left
         ·simp only[Act.put,List.setIfInBounds_toArray,List.set_cons_zero,List.set_cons_succ,i64_w,i32_w]
          rfl
         refine pure_ (i:=2) (N:=some 68) (v:=?_) (a':=?_) #[true,false,true,false,false,false,false,false,false,false,false,false,false] rfl rfl (any_of HT_.out (by kernel_rfl)) (fun _ _ _ h=>h) (Or.inl ⟨by rfl,?_⟩) ?_ ?_
         rotate_left
         ·intro w'
          go_simp
          with_reducible rfl
         rotate_left
         ·simp only[Act.put,List.setIfInBounds_toArray,List.set_cons_zero,List.set_cons_succ,i64_w,i32_w]
          rfl
         refine pure_ (i:=7) (N:=some 73) (v:=?_) (a':=?_) #[true,false,true,false,false,false,false,true,false,false,false,false,false] rfl rfl (any_of HT_.out (by kernel_rfl)) (fun _ _ _ h=>h) (Or.inl ⟨by rfl,?_⟩) ?_ ?_
         rotate_left
         ·intro w'
          go_simp
          with_reducible rfl
         rotate_left
         ·simp only[Act.put,List.setIfInBounds_toArray,List.set_cons_zero,List.set_cons_succ,i64_w,i32_w]
          rfl
         refine take_ (i:=1) (N:=some 67) (v:=?_) (a':=?_) #[true,true,true,false,false,false,false,true,false,false,false,false,false] rfl rfl (take_ofW HT_.out HW_.out (by kernel_rfl)) (fun _ _ _ h=>h) (Or.inl ⟨by rfl,?_⟩) hHeld ?_ ?_
         rotate_left
         ·rintro w' ⟨s0,s1,s2,s3⟩
          go_simp
          with_reducible rfl
         rotate_left
         ·simp only[Act.put,List.setIfInBounds_toArray,List.set_cons_zero,List.set_cons_succ,i64_w,i32_w]
          rfl
         refine take_ (i:=3) (N:=some 69) (v:=?_) (a':=?_) #[true,true,true,true,false,false,false,true,false,false,false,false,false] rfl rfl (take_ofW HT_.out HW_.out (by kernel_rfl)) (fun _ _ _ h=>h) (Or.inl ⟨by rfl,?_⟩) hHeld ?_ ?_
         rotate_left
         ·rintro w' ⟨s0,s1,s2,s3⟩
          go_simp
          with_reducible rfl
         rotate_left
         ·simp only[Act.put,List.setIfInBounds_toArray,List.set_cons_zero,List.set_cons_succ,i64_w,i32_w]
          rfl
         refine pure_ (i:=4) (N:=some 70) (v:=?_) (a':=?_) #[true,true,true,true,true,false,false,true,false,false,false,false,false] rfl rfl (any_of HT_.out (by kernel_rfl)) (fun _ _ _ h=>h) (Or.inl ⟨by rfl,?_⟩) ?_ ?_
         rotate_left
         ·intro w'
          go_simp
          with_reducible rfl
         rotate_left
         ·simp only[Act.put,List.setIfInBounds_toArray,List.set_cons_zero,List.set_cons_succ,i64_w,i32_w]
          rfl
         refine pure_ (i:=5) (N:=some 71) (v:=?_) (a':=?_) #[true,true,true,true,true,true,false,true,false,false,false,false,false] rfl rfl (any_of HT_.out (by kernel_rfl)) (fun _ _ _ h=>h) (Or.inl ⟨by rfl,?_⟩) ?_ ?_
         rotate_left
         ·intro w'
          go_simp
          with_reducible rfl
         rotate_left
         ·simp only[Act.put,List.setIfInBounds_toArray,List.set_cons_zero,List.set_cons_succ,i64_w,i32_w]
          rfl
         refine take_ (i:=6) (N:=some 72) (v:=?_) (a':=?_) #[true,true,true,true,true,true,true,true,false,false,false,false,false] rfl rfl (take_ofW HT_.out HW_.out (by kernel_rfl)) (fun _ _ _ h=>h) (Or.inl ⟨by rfl,?_⟩) hHeld ?_ ?_
         rotate_left
         ·rintro w' ⟨s0,s1,s2,s3⟩
          go_simp
          with_reducible rfl
         rotate_left
         ·simp only[Act.put,List.setIfInBounds_toArray,List.set_cons_zero,List.set_cons_succ,i64_w,i32_w]
          rfl
         refine one_ (i:=8) (N:=some 74) #[true,true,true,true,true,true,true,true,true,false,false,false,false] rfl rfl (one_of HT_.out (by kernel_rfl)) (by decide) (fun K hK=>?_)
         refine value_ (w1:=?_) (v:=?_) (by rfl) rfl ?_ ?_
         rotate_left 2
         ·go_simp
          constructor
          ·rfl
          ·rfl
         refine hK.out _ _ ⟨(blk_cell (blk_alloc BK130.out _) 0).trans rfl,(blk_cell (blk_alloc BK130.out _) 1).trans rfl,(blk_cell (blk_alloc BK130.out _) 2).trans rfl,(World.cell?_alloc_lt _ _ _ (World.block_lt_of_cell? _ _ (hHeld.2.2.2))).trans (hHeld.2.2.2)⟩ (fun hHeld=>?_)
         clear hK K
         refine norm_ (a':=?_) ?_ ?_
         rotate_left
         ·show Act.put _ (some 74) _=_
          simp only[Act.put,List.setIfInBounds_toArray,List.set_cons_zero,List.set_cons_succ,i64_w,i32_w];rfl
         refine one_ (i:=9) (N:=some 75) #[true,true,true,true,true,true,true,true,true,true,false,false,false] rfl rfl (one_of HT_.out (by kernel_rfl)) (by decide) (fun K hK=>?_)
         refine Kd.R_append_step k100 (w0:=w) w.heap.size (by rfl) (.tmp 72) (.tmp 74) 96 100 (.agg #[(.int .i64 0),(.int .i64 0),(.int .i64 0),(.int .i64 0),(.int .i64 0)]) 40 rfl Try.underlying96 info100 rfl (by decide) (by omega) (.slice A147_0 ((rd_T98 x131000_2 0).f0).length c147_0) ((rd_T98 x131000_2 0).f0) (⟨8,0,0,0,0⟩:S100) [.int .i64 8,.int .i64 0,.int .i64 0,.int .i64 0,.int .i64 0] (fun k_=>oki48 k_∨((fun _=>True)) k_∧w46.heap.size≤k_) (fun _=>False) rfl rfl ?aP (fun _ hk=>hk.elim) ?aF ?aO ?aB ?aS ?aL ?_
         (case aP=>exact k100_mkM _ _ _ (⟨8,0,0,0,0⟩:S100))
         (case aB=>exact (by repeat (first|(with_reducible first|exact HB.out|apply below_alloc|apply pw_below_drewN|apply below_drew1|refine below_set ?_ GE126.out|refine below_set ?_ GE130.out)|exact HB.out)))
         (case aF=>exact (fun k_ hk=>.inr ⟨trivial,hk⟩))
         (case aO=>exact (by (with_reducible repeat (first|apply Kd.R_alloc|apply Kd.R_drewN|apply Kd.R_drew));exact Kd.R_mono UU48.out (fun _ hk=>.inl hk)))
         (case aS=>exact (below_size (by repeat (first|(with_reducible first|exact HB.out|apply below_alloc|apply pw_below_drewN|apply below_drew1|refine below_set ?_ GE126.out|refine below_set ?_ GE130.out)|exact HB.out))))
         (case aL=>have:=LMc44.out;omega)
         intro v149 w49 ho hb hg hat
         (first|have HS3_:=cell_grown hg (hHeld.2.2.2) (by first|(rw[add_block];exact (fun e_=>((HL147_0.out.1 _ e_.symm).2) rfl))|(show some (Addr.add _ _).block≠_;rw[add_block];exact (fun e_=>((HL147_0.out.1 _ e_.symm).2) rfl))|exact (fun e_=>((HL147_0.out.1 _ e_.symm).2) rfl))|have HS3_:=cell_grown hg (cell_unalloc (hHeld.2.2.2) (by first|(rw[add_block];exact Kd.S_lt HO_131000.out _ rfl)|(show (Addr.add _ _).block<_;rw[add_block];exact Kd.S_lt HO_131000.out _ rfl)|exact Kd.S_lt HO_131000.out _ rfl)) (by first|(rw[add_block];exact (fun e_=>((HL147_0.out.1 _ e_.symm).2) rfl))|(show some (Addr.add _ _).block≠_;rw[add_block];exact (fun e_=>((HL147_0.out.1 _ e_.symm).2) rfl))|exact (fun e_=>((HL147_0.out.1 _ e_.symm).2) rfl)))
         rw[←Ny148.out] at ho;have n0_:=Aside0.mk (blk_grown (g:=gb126) (o:=.cells #[.slice none 0 0,.slice none 0 0,.int .i64 0] 35 (0,0)) (by (with_reducible repeat (first|refine blk_drewN ?_ _|refine blk_drew ?_|refine blk_alloc ?_ _));exact BK126.out) hg (Kd.R_ne HL147_0.out BK126.out (by decide)));have n1_:=Aside0.mk (blk_grown (g:=gb130) (o:=.cells #[.slice (some ⟨go48,0,none⟩) x131000_2.length co47,.slice none 0 0,.int .i64 100] 35 (0,0)) (by (with_reducible repeat (first|refine blk_drewN ?_ _|refine blk_drew ?_|refine blk_alloc ?_ _));exact BK130.out) hg (Kd.R_ne HL147_0.out BK130.out (by decide)));have n2_:=Aside0.mk (hb);have n3_:=Aside0.mk (Kd.H_grown (Kd.H_widen (by repeat (first|exact HH48.out|refine Kd.H_alloc ?_ _|refine Kd.H_drewN ?_ _|refine Kd.H_drew ?_))) hg (fun k_ e_=>.inl (UU48.out.1 k_ e_)));have n4_:=Aside0.mk (ho);clear BK126;clear BK130;clear HB;clear HH48;clear HO_131000;clear UU48;clear HL147_0;have BK126:=n0_;have BK130:=n1_;have HB:=n2_;have HH48:=n3_;have HO150:=n4_;clear n0_ n1_ n2_ n3_ n4_;clear ho hb hg hat;have p45:0≤(0:Int):=(by omega);have q45:(0:Int)<((x131000_2.length:Int):Int):=of_decide_eq_true (by first|(with_reducible assumption)|assumption);replace p45:=eq_true p45;replace q45:=eq_true q45;obtain⟨Ao52,co52,eo52⟩:=Kd.R_slice HO150.out
         (first|subst eo52|(injection eo52 with f1_ f2_ f3_;have f4_:=f1_.symm;have f5_:=f3_.symm;clear f1_ f2_ f3_;subst f4_;subst f5_))
         obtain⟨_,_,hraw50,_,_,hcc50,_⟩:=Kd.H_raw HH48.out (by omega) (by have h_:(0:Int)<((x131000_2.length:Int):Int):=of_decide_eq_true (by first|(with_reducible assumption)|assumption);first|exact h_|(have e_:=(HN48.out);omega)|simpa using h_);obtain⟨_,hfr50⟩:=Kd.H_at HH48.out (by omega) (by have h_:(0:Int)<((x131000_2.length:Int):Int):=of_decide_eq_true (by first|(with_reducible assumption)|assumption);first|exact h_|(have e_:=(HN48.out);omega)|simpa using h_);have hx50_0:=hcc50 0 _ rfl;have hf50_0:=hfr50 0
         (try simp only[Nat.add_zero] at hx50_0 hf50_0)
         (try rw[show (k98).sz=1 from rfl,Nat.mul_one] at hx50_0)
         (try rw[show (k98).sz=1 from rfl,Nat.mul_one] at hf50_0)
         (try rw[show ((0:Int)).toNat=0 from rfl] at hx50_0)
         (try simp only[Nat.reduceMul,Nat.zero_mul,Nat.zero_add,Nat.reduceAdd] at hx50_0)
         (try rw[show ((0:Int)).toNat=0 from rfl] at hf50_0)
         (try simp only[Nat.reduceMul,Nat.zero_mul,Nat.zero_add,Nat.reduceAdd] at hf50_0)
         have HP50:=Kd.S_seg0 HH48.out (by omega) (by have h_:(0:Int)<((x131000_2.length:Int):Int):=of_decide_eq_true (by first|(with_reducible assumption)|assumption);first|exact h_|(have e_:=(HN48.out);omega)|simpa using h_) (seg:=[.slice Ao52 y148.length co52]) (j:=0) (show 1≤1 from by decide) (x':=(⟨y148⟩:S98)) (k98_mkM _ _ _ (⟨y148⟩:S98) HO150.out) (fun _ hk=>hk)
         (try simp only[show (k98).sz=1 from rfl,Nat.mul_one,Nat.add_zero] at HP50)
         clear hcc50 hfr50;have HNB126_go48:=Aside0.mk (show gb126≠go48 from by have h_:=Kd.R_ne hraw50 BK126.out (by decide);intro e_;exact h_ (by rw[e_];rfl));have HNB130_go48:=Aside0.mk (show gb130≠go48 from by have h_:=Kd.R_ne hraw50 BK130.out (by decide);intro e_;exact h_ (by rw[e_];rfl));have HS50:=HP50.1;rw[←Ny151.out] at HS50;have HQ50:=Aside0.mk HS50;obtain⟨_,hgg50⟩:=Kd.R_typed hraw50 go48 rfl;have GG50_:=Aside0.mk hgg50;clear HP50 HS50 hgg50
         refine hK.out _ _ ⟨(blk_cell BK130.out 0).trans rfl,(blk_cell BK130.out 1).trans rfl,(blk_cell BK130.out 2).trans rfl,HS3_⟩ (fun hHeld=>?_)
         clear hK K
         refine norm_ (a':=?_) ?_ ?_
         rotate_left
         ·show Act.put _ (some 75) _=_
          simp only[Act.put,List.setIfInBounds_toArray,List.set_cons_zero,List.set_cons_succ,i64_w,i32_w];rfl
         refine pure_ (i:=10) (N:=some 76) (v:=?_) (a':=?_) #[true,true,true,true,true,true,true,true,true,true,true,false,false] rfl rfl (any_of HT_.out (by kernel_rfl)) (fun _ _ _ h=>h) (Or.inl ⟨by rfl,?_⟩) ?_ ?_
         rotate_left
         ·intro w'
          go_simp
          with_reducible rfl
         rotate_left
         ·simp only[Act.put,List.setIfInBounds_toArray,List.set_cons_zero,List.set_cons_succ,i64_w,i32_w]
          rfl
         refine pure_ (i:=11) (N:=some 77) (v:=?_) (a':=?_) #[true,true,true,true,true,true,true,true,true,true,true,true,false] rfl rfl (any_of HT_.out (by kernel_rfl)) (fun _ _ _ h=>h) (Or.inl ⟨by rfl,?_⟩) ?_ ?_
         rotate_left
         ·intro w'
          go_simp
          with_reducible rfl
         rotate_left
         ·simp only[Act.put,List.setIfInBounds_toArray,List.set_cons_zero,List.set_cons_succ,i64_w,i32_w]
          rfl
         refine last_ (i:=12) (N:=none) #[true,true,true,true,true,true,true,true,true,true,true,true,true] rfl rfl (one_of HT_.out (by kernel_rfl)) (by decide) (fun K hK=>?_)
         refine skip_ (w1:=?_) (by rfl) rfl ?_ ?_
         rotate_left
         ·go_simp
          rfl
         refine hK.out _ _ ?_
         clear hK K
         refine done_ (done_of HT_.out (by kernel_rfl)) ?_
         have n0_:Aside0 (Kd.S k98 98 (w49.setCell ⟨go48,0,none⟩ (.slice Ao52 y148.length co52)) w.heap.size (fun _=>True) (.slice (some ⟨go48,0,none⟩) x131000_2.length co47) y151):=⟨by (with_reducible repeat (first|apply Kd.S_alloc|apply Kd.S_drewN|apply Kd.S_drew));exact HQ50.out⟩;have n1_:Aside0 ((w49.setCell ⟨go48,0,none⟩ (.slice Ao52 y148.length co52)).heap[gb126]?=some (.cells #[.slice none 0 0,.slice none 0 0,.int .i64 0] 35 (0,0))):=⟨by (with_reducible repeat (first|refine blk_drewN ?_ _|refine blk_drew ?_|refine blk_alloc ?_ _));refine blk_far ?_ HNB126_go48.out _;(with_reducible repeat (first|refine blk_drewN ?_ _|refine blk_drew ?_|refine blk_alloc ?_ _));exact BK126.out⟩;have n2_:Aside0 ((w49.setCell ⟨go48,0,none⟩ (.slice Ao52 y148.length co52)).heap[gb130]?=some (.cells #[.slice (some ⟨go48,0,none⟩) x131000_2.length co47,.slice none 0 0,.int .i64 100] 35 (0,0))):=⟨by (with_reducible repeat (first|refine blk_drewN ?_ _|refine blk_drew ?_|refine blk_alloc ?_ _));refine blk_far ?_ HNB130_go48.out _;(with_reducible repeat (first|refine blk_drewN ?_ _|refine blk_drew ?_|refine blk_alloc ?_ _));exact BK130.out⟩;have n3_:Aside0 (Below w.heap.size w (w49.setCell ⟨go48,0,none⟩ (.slice Ao52 y148.length co52))):=⟨by repeat (first|(with_reducible first|exact HB.out|apply below_alloc|apply pw_below_drewN|apply below_drew1|refine below_set ?_ GB48.out|refine below_set ?_ GE126.out|refine below_set ?_ GE130.out)|exact HB.out)⟩
         (try clear HO_131000)
         (try clear BK126)
         (try clear BK130)
         (try clear HB)
         generalize (w49.setCell ⟨go48,0,none⟩ (.slice Ao52 y148.length co52))=w53 at n0_ n1_ n2_ n3_ ⊢;have HO_131000:=n0_;have BK126:=n1_;have BK130:=n2_;have HB:=n3_;clear n0_ n1_ n2_ n3_;have hnb54:=NB130_126.out;have hnc54:=NB126_130.out;have hcz55_0:w53.cell? ⟨gb130,0,none⟩=some (.slice (some ⟨go48,0,none⟩) x131000_2.length co47):=(blk_cell BK130.out 0).trans rfl;have hcz55_1:w53.cell? ⟨gb130,1,none⟩=some (.slice none 0 0):=(blk_cell BK130.out 1).trans rfl;have hcz55_2:w53.cell? ⟨gb130,2,none⟩=some (.int .i64 100):=(blk_cell BK130.out 2).trans rfl;have hfz55_0:=blk_frozen BK130.out 0;have hfz55_1:=blk_frozen BK130.out 1;have hfz55_2:=blk_frozen BK130.out 2;have hcz56_0:w53.cell? ⟨gb126,0,none⟩=some (.slice none 0 0):=(blk_cell BK126.out 0).trans rfl;have hcz56_1:w53.cell? ⟨gb126,1,none⟩=some (.slice none 0 0):=(blk_cell BK126.out 1).trans rfl;have hcz56_2:w53.cell? ⟨gb126,2,none⟩=some (.int .i64 0):=(blk_cell BK126.out 2).trans rfl;have hfz56_0:=blk_frozen BK126.out 0;have hfz56_1:=blk_frozen BK126.out 1;have hfz56_2:=blk_frozen BK126.out 2
         try go_wp2
         refine bodyPost_ret (results_cell_row rfl _ _ gb126 35 #[.slice (some ⟨go48,0,none⟩) x131000_2.length co47,.slice none 0 0,.int .i64 100] (0,0) _ rfl (by (with_reducible repeat (first|refine blk_drewN ?_ _|refine blk_drew ?_|refine blk_alloc ?_ _));refine blk_put (cs:=#[.slice (some ⟨go48,0,none⟩) x131000_2.length co47,.slice none 0 0,.int .i64 0]) ?_ 2 _ rfl;(with_reducible repeat (first|refine blk_drewN ?_ _|refine blk_drew ?_|refine blk_alloc ?_ _));refine blk_put (cs:=#[.slice (some ⟨go48,0,none⟩) x131000_2.length co47,.slice none 0 0,.int .i64 0]) ?_ 1 _ rfl;(with_reducible repeat (first|refine blk_drewN ?_ _|refine blk_drew ?_|refine blk_alloc ?_ _));refine blk_put (cs:=#[.slice none 0 0,.slice none 0 0,.int .i64 0]) ?_ 0 _ rfl;(with_reducible repeat (first|refine blk_drewN ?_ _|refine blk_drew ?_|refine blk_alloc ?_ _));exact BK126.out) Try.underlying35 rfl (by kernel_rfl)) rfl ?_
         exact⟨_,_,by first|rfl|(simp[errW_none,errW_some]<;>rfl)|(simp[*,errW_none,errW_some]<;>rfl),by (with_reducible repeat (first|apply Kd.S_alloc|apply Kd.S_drewN|apply Kd.S_drew));exact Kd.S_mono (Kd.S_far (p:=⟨gb126,2,none⟩) (Kd.S_far (p:=⟨gb126,1,none⟩) (Kd.S_far (p:=⟨gb126,0,none⟩) (Kd.S_types HO_131000.out BK126.out (by decide)) (fun _ hk=>hk.2) (.slice (some ⟨go48,0,none⟩) x131000_2.length co47)) (fun _ hk=>hk.2) (.slice none 0 0)) (fun _ hk=>hk.2) (.int .i64 100)) (fun _ hk=>trivial),by first|exact Kd.R_nil _ _ _ _ _|exact Kd.N_nil _ _ _ _ _|exact Kd.V_nil _ _ _ _ _|exact Kd.Q_nil _ _ _ _ _|exact Kd.S_nil _ _ _ _ _,by repeat (first|(with_reducible first|exact HB.out|apply below_alloc|apply pw_below_drewN|apply below_drew1|refine below_set ?_ GE126.out|refine below_set ?_ GE130.out)|exact HB.out)⟩
        ·rw[if_neg c44] at H
         exact absurd H (by simp)
       ·rw[if_neg c43] at H
        exact absurd H (by simp)
theorem spec_MadeRing.callsZ (k:Nat)(a0:Int)(a1:Int)(r1:List (S98))(r2:List Int)(r3:Int)(w:World)(h:spec_MadeRing.f k a0 a1=some (r1,r2,r3)):
  Calls Try.prog 33 #[.int .i64 a0,.int .i64 a1] w fun e w'=>∃v0_ v1_:Value,e=.returned (.agg #[v0_,v1_,.int .i64 r3])∧Kd.S k98 98 w' w.heap.size (fun _=>True) v0_ r1∧Kd.Z (Kd.int .i64) 3 w' w.heap.size (fun _=>True) v1_ r2∧Below w.heap.size w w':=by
 refine (spec_MadeRing.calls k a0 a1 r1 r2 r3 w h).mono ?_
 rintro e w' ⟨v0_,v1_,h0_,h1_,h2_,h3_⟩;exact⟨v0_,v1_,h0_,h1_,(Kd.Z_of_R (fun _ _ _ _ h=>h) h2_),h3_⟩
end Go.Proofs.Ytejjedooecephaa.PFnRing
end
