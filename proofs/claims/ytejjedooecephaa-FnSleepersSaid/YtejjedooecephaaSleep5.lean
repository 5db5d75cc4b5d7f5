/-
  Texts joined by a program (shake.py), without what the claim does not use; printed walks among them (print.sh), and own ones.
-/
import Derived.Test.YtejjedooecephaaSleep3
import Derived.Test.YtejjedooecephaaSleep4
section
namespace Go.Proofs.Ytejjedooecephaa.PFnSleepers
open Go.RowKit Go.Proofs.YtejjedooecephaaW.PrintWords Go.Proofs.YtejjedooecephaaW.PrintLast Go.Proofs.YtejjedooecephaaW.PrintMore
attribute [local go_sem] max2_int min2_int max_two min_two max_three min_three max_four min_four -- for this text's walks alone
set_option linter.unusedVariables false
set_option linter.unusedSimpArgs false
def laws_wByte.f (l0:List Int)(a1:Int):Option (Int):=if (l0.length:Int)=0 then (some 0) else (if 0≤(Int.tmod a1 (l0.length:Int)) then (if (Int.tmod a1 (l0.length:Int))<(l0.length:Int) then (some (wrap64 (rd l0 (Int.tmod a1 (l0.length:Int))))) else (none)) else (none))
set_option maxHeartbeats 8000000 in
set_option maxRecDepth 100000 in
theorem laws_wByte.calls (A0:Option Addr) (c0:Nat) (l0:List Int) (a1:Int) (r:Int) (w:World) (hr0:Kd.C (Kd.int .u8) w A0 l0.length l0) (hc0:l0.length≤c0) (h:laws_wByte.f l0 a1=some r):
  Calls Try.prog 26 #[.slice A0 l0.length c0,.int .i64 a1] w fun e w'=>e=.returned (.int .i64 r)∧Drawn0 w w':=by
 have HR0:=Aside0.mk hr0;have HC0:=Aside0.mk hc0;clear hr0 hc0;have H:(if (l0.length:Int)=0 then (some 0) else (if 0≤(Int.tmod a1 (l0.length:Int)) then (if (Int.tmod a1 (l0.length:Int))<(l0.length:Int) then (some (wrap64 (rd l0 (Int.tmod a1 (l0.length:Int))))) else (none)) else (none)))=some r:=h;clear h
 by_cases c3:(l0.length:Int)=0
 ·rw[if_pos c3] at H
  have c3b0:((l0.length:Int)==0)=true:=beq_iff_eq.mpr c3;have c3b1:((l0.length:Int) !=0)=false:=bne_eq_false_iff_eq.mpr c3;clear c3;obtain rfl:=Option.some.inj H
  go_enter Try.func26,Try.ntmps26
  go_wp2
  go_ret
  exact⟨by first|rfl|(simp;done)|(simp[*];done),by repeat (first|exact Drawn0.refl _|apply Drawn0.step)⟩
 ·rw[if_neg c3] at H
  have c3b0:((l0.length:Int)==0)=false:=beq_eq_false_iff_ne.mpr c3;have c3b1:((l0.length:Int) !=0)=true:=bne_iff_ne.mpr c3
  have c3b2:¬(l0=[]):=fun h_=>c3 (by rw[h_];rfl)
  obtain⟨ji4,hji4⟩:∃j_:Int,(Int.tmod a1 (l0.length:Int))=j_:=⟨_,rfl⟩
  replace H:(if 0≤(ji4) then (if (ji4)<(l0.length:Int) then (some (wrap64 (rd l0 (ji4)))) else (none)) else (none))=some r:=by first|(rw[hji4] at H;exact H)|(simp only[hji4] at H ⊢;exact H)
  by_cases c5:0≤(ji4)
  ·rw[if_pos c5] at H
   have c5b0:decide (0≤(ji4))=true:=decide_eq_true c5;clear c5
   by_cases c6:(ji4)<(l0.length:Int)
   ·rw[if_pos c6] at H
    have c6b0:decide ((ji4)<(l0.length:Int))=true:=decide_eq_true c6;clear c6;obtain rfl:=Option.some.inj H;have p101:0≤((ji4):Int):=of_decide_eq_true (by first|(with_reducible assumption)|assumption);have q101:(ji4)<(l0.length:Int):=of_decide_eq_true (by first|(with_reducible assumption)|assumption);obtain⟨ad101,e101,hx101_0⟩:=Kd.at_int HR0.out (ji4) p101 q101
    cases e101
    replace p101:=eq_true p101;replace q101:=eq_true q101
    go_enter Try.func26,Try.ntmps26
    go_wp2
    go_ret
    exact⟨by first|rfl|(simp;done)|(simp only[←hji4]<;>(first|rfl|simp))|(simp[*];done),by repeat (first|exact Drawn0.refl _|apply Drawn0.step)⟩
   ·rw[if_neg c6] at H
    exact absurd H (by simp)
  ·rw[if_neg c5] at H
   exact absurd H (by simp)
def spec_MadeSleepers.l0:Nat→List Int→Int→Int→List (S98)→Int→Option ((List (S98))×List Int×Int)
 |0,_,_,_,_,_=>none
 |k+1,x9,x10,x11,x131000,x131002=>if x11<x10 then (if 0≤x11 then (if x11<(x9.length:Int) then (if 0<(x131000.length:Int) then (if ((rd_T98 x131000 0).f0).length<3518437208883 then ((some (x131000.set (0:Int).toNat (⟨(((rd_T98 x131000 0).f0)++[(⟨7,0,wrap64 (x11+1),0,0⟩:S100)])⟩:S98):List (S98))).bind fun y136=>(if y136.length<5864062014805 then (spec_MadeSleepers.l0 k x9 x10 (wrap64 (x11+1)) (y136++[(⟨(([(⟨1,0,0,rd x9 x11,0⟩:S100),(⟨5,0,0,0,0⟩:S100),(⟨1,1,0,x11,0⟩:S100),(⟨3,1,0,0,0⟩:S100)]:List (S100)))⟩:S98)]) x131002) else (none))) else (none)) else (none)) else (none)) else (none)) else (some (x131000,([]:List Int),x131002))
def spec_MadeSleepers.f (k:Nat)(l0:List Int):Option ((List (S98))×List Int×Int):=spec_MadeSleepers.l0 k l0 (l0.length:Int) 0 (([(⟨([]:List (S100))⟩:S98)]:List (S98))) 100
def spec_MadeSleepers.T5:Bool×List (List Nat×List Nat):=(true,[([],[]),([0],[0]),([],[]),([2],[2]),([3],[3]),([4],[4]),([5],[5]),([],[]),([7],[7]),([8],[8]),([9],[9]),([6,10],[6,10]),([1,0,1,2,3,4,5,6,7,8,9,10,11],[1]),([12,0,1,2,3,4,5,6,7,8,9,10,11],[12]),([13,11,11,0,1,2,3,4,5,6,7,8,9,10,11],[11,13])])
def spec_MadeSleepers.B5:List Nat:=[0,1,0,4,12,28,60,0,128,384,896,2044,4095,8191,16383]
theorem spec_MadeSleepers.tab5:rtab .any (opsOf Try.f28 5)=spec_MadeSleepers.T5:=by kernel_rfl
theorem spec_MadeSleepers.bits5:waitsOk spec_MadeSleepers.T5.2 spec_MadeSleepers.B5=true:=by kernel_rfl
set_option maxHeartbeats 8000000 in
set_option maxRecDepth 100000 in
theorem spec_MadeSleepers.calls (k:Nat) (A0:Option Addr) (c0:Nat) (l0:List Int) (r1:List (S98)) (r2:List Int) (r3:Int) (w:World) (hr0:Kd.C (Kd.int .i64) w A0 l0.length l0) (hc0:l0.length≤c0) (h:spec_MadeSleepers.f k l0=some (r1,r2,r3)):
  Calls Try.prog 28 #[.slice A0 l0.length c0] w fun e w'=>∃v0_ v1_:Value,e=.returned (.agg #[v0_,v1_,.int .i64 r3])∧Kd.S k98 98 w' w.heap.size (fun _=>True) v0_ r1∧Kd.R (Kd.int .i64) 3 w' w.heap.size (fun _=>True) v1_ r2∧Below w.heap.size w w':=by
 have hu35:=Try.underlying35;have hu98:=Try.underlying98;have hu100:=Try.underlying100;have HR0:=Aside0.mk hr0;have HC0:=Aside0.mk hc0;clear hr0 hc0;have HB:=Aside0.mk (Below.refl w.heap.size w);have H:(spec_MadeSleepers.l0 k l0 (l0.length:Int) 0 (([(⟨([]:List (S100))⟩:S98)]:List (S98))) 100)=some (r1,r2,r3):=h;clear h;obtain⟨y127,hy127⟩:∃y_:List (S98),y_=(([(⟨([]:List (S100))⟩:S98)]:List (S98))):=⟨_,rfl⟩
 replace H:(spec_MadeSleepers.l0 k l0 (l0.length:Int) 0 y127 100)=some (r1,r2,r3):=by first|(rw[hy127];with_reducible exact H)|(have H2_:=(Option.bind_some _ _).symm.trans H;rw[hy127];with_reducible exact H2_)|(have H2_:=(Option.bind_some _ _).symm.trans H;with_reducible exact H2_)|with_reducible exact H|(rw[hy127];exact H)|exact H
 have Ny127:=Aside0.mk hy127;clear hy127;have H':=Aside0.mk H;clear H
 go_enter Try.func28,Try.ntmps28
 go_wp2_with (first|((with_reducible refine gate_dst (N:=2) rfl ?_);refine box_event ?hg (N:=2) ?hd (cs:=#[.slice none 0 0,.slice none 0 0,.int .i64 0]) (t:=35) ?hr ?_;(case hd=>rfl);(case hg=>rfl);(case hr=>first|(go_simp;done)|(go_simp;rfl));intro gb126 hg w2 hbox hb;have n0_:=Aside0.mk (below_step (by repeat (first|(with_reducible first|exact HB.out|apply below_alloc|apply pw_below_drewN|apply below_drew1)|exact HB.out)) hb);have n1_:=Aside0.mk (hbox);have n2_:=Aside0.mk ((by rw[hg];exact (below_size (by repeat (first|(with_reducible first|exact HB.out|apply below_alloc|apply pw_below_drewN|apply below_drew1)|exact HB.out))):w.heap.size≤gb126));have n3_:=Aside0.mk ((by rw[hg];exact (below_size (by repeat (first|(with_reducible first|exact HB.out|apply below_alloc|apply pw_below_drewN|apply below_drew1)|exact HB.out))):w.heap.size≤gb126));clear HB;have HB:=n0_;have BK126:=n1_;have GW126:=n2_;have GE126:=n3_;clear n0_ n1_ n2_ n3_;clear hb hbox hg)|((with_reducible refine gate_dst (N:=7) rfl ?_);refine Kd.S_lit k98 _ 98 ?hg (N:=7) ?hd (xs:=([(⟨([]:List (S100))⟩:S98)]:List (S98))) (inner:=[.slice none 0 0]) (ok:=fun _=>True) (okp:=fun _=>True) ?hr ?hp (fun _ hk=>hk) trivial (Below.refl _ _) (Nat.le_refl _) (by simp) ?_;(case hd=>rfl);(case hg=>rfl);(case hr=>first|(go_simp;done)|(go_simp;rfl));(case hp=>exact (Reps.one (show Kd.M k98 _ _ _ (⟨([]:List (S100))⟩:S98) [.slice none 0 0] from (k98_mkM _ _ _ (⟨([]:List (S100))⟩:S98) (Kd.R_nil _ _ _ _ _))) (Reps.none _ _)));intro v128 w3 ho4 hb hg_ hnew_;clear hg_ hnew_;(first|rw [←Ny127.out] at ho4|(simp only[Int.reduceToNat] at ho4;rw[←Ny127.out] at ho4));have n0_:=Aside0.mk (Kd.S_lower ho4 (below_size (by repeat (first|(with_reducible first|exact HB.out|apply below_alloc|apply pw_below_drewN|apply below_drew1|refine below_set ?_ GE126.out)|exact HB.out))));have n1_:=Aside0.mk (blk_below (g:=gb126) (o:=.cells #[.slice none 0 0,.slice none 0 0,.int .i64 0] 35 (0,0)) (by (with_reducible repeat (first|refine blk_drewN ?_ _|refine blk_drew ?_|refine blk_alloc ?_ _));exact BK126.out) hb);have n2_:=Aside0.mk (below_step (by repeat (first|(with_reducible first|exact HB.out|apply below_alloc|apply pw_below_drewN|apply below_drew1|refine below_set ?_ GE126.out)|exact HB.out)) hb);clear BK126;clear HB;have HO129:=n0_;have BK126:=n1_;have HB:=n2_;clear n0_ n1_ n2_;clear hb ho4;obtain⟨Ao5,co5,eo5⟩:=Kd.S_slice HO129.out;subst eo5)|((with_reducible refine gate_dst (N:=3) rfl ?_);refine box_event ?hg (N:=3) ?hd (cs:=#[.slice none 0 0,.slice none 0 0,.int .i64 0]) (t:=35) ?hr ?_;(case hd=>rfl);(case hg=>rfl);(case hr=>first|(go_simp;done)|(go_simp;rfl));intro gb130 hg w6 hbox hb;have n0_:=Aside0.mk (Kd.S_below (by (with_reducible repeat (first|apply Kd.S_alloc|apply Kd.S_drewN|apply Kd.S_drew));exact HO129.out) hb);have n1_:=Aside0.mk (blk_below (g:=gb126) (o:=.cells #[.slice none 0 0,.slice none 0 0,.int .i64 0] 35 (0,0)) (by (with_reducible repeat (first|refine blk_drewN ?_ _|refine blk_drew ?_|refine blk_alloc ?_ _));exact BK126.out) hb);have n2_:=Aside0.mk (below_step (by repeat (first|(with_reducible first|exact HB.out|apply below_alloc|apply pw_below_drewN|apply below_drew1|refine below_set ?_ GE126.out)|exact HB.out)) hb);have n3_:=Aside0.mk (hbox);have n4_:=Aside0.mk ((by rw[hg];exact (below_size (by repeat (first|(with_reducible first|exact HB.out|apply below_alloc|apply pw_below_drewN|apply below_drew1|refine below_set ?_ GE126.out)|exact HB.out))):w.heap.size≤gb130));have n5_:=Aside0.mk ((by rw[hg];exact (below_size (by repeat (first|(with_reducible first|exact HB.out|apply below_alloc|apply pw_below_drewN|apply below_drew1|refine below_set ?_ GE126.out)|exact HB.out))):w.heap.size≤gb130));have n6_:=Aside0.mk ((by rw[hg];exact Nat.ne_of_lt (blk_lt (g:=gb126) (o:=.cells #[.slice none 0 0,.slice none 0 0,.int .i64 0] 35 (0,0)) (by (with_reducible repeat (first|refine blk_drewN ?_ _|refine blk_drew ?_|refine blk_alloc ?_ _));exact BK126.out)):gb126≠gb130));have n7_:=Aside0.mk ((by rw[hg];exact Nat.ne_of_gt (blk_lt (g:=gb126) (o:=.cells #[.slice none 0 0,.slice none 0 0,.int .i64 0] 35 (0,0)) (by (with_reducible repeat (first|refine blk_drewN ?_ _|refine blk_drew ?_|refine blk_alloc ?_ _));exact BK126.out)):gb130≠gb126));clear HO129;clear BK126;clear HB;have HO129:=n0_;have BK126:=n1_;have HB:=n2_;have BK130:=n3_;have GW130:=n4_;have GE130:=n5_;have NB126_130:=n6_;have NB130_126:=n7_;clear n0_ n1_ n2_ n3_ n4_ n5_ n6_ n7_;clear hb hbox hg;have hnb7:=NB130_126.out;have hnc7:=NB126_130.out;have hcz8_0:w6.cell? ⟨gb130,0,none⟩=some (.slice none 0 0):=(blk_cell BK130.out 0).trans rfl;have hcz8_1:w6.cell? ⟨gb130,1,none⟩=some (.slice none 0 0):=(blk_cell BK130.out 1).trans rfl;have hcz8_2:w6.cell? ⟨gb130,2,none⟩=some (.int .i64 0):=(blk_cell BK130.out 2).trans rfl;have hfz8_0:=blk_frozen BK130.out 0;have hfz8_1:=blk_frozen BK130.out 1;have hfz8_2:=blk_frozen BK130.out 2))
 go_loopg [11] k (fun kq v11 w'=>∃(x11_1:Int) (x131000_1:List (S98)) (u131000:Value),v11=.int .i64 x11_1∧Aside0 (spec_MadeSleepers.l0 kq l0 (l0.length:Int) x11_1 x131000_1 100=some (r1,r2,r3))∧Aside0 (kq≤k)∧Aside0 (Kd.S k98 98 w' w.heap.size (fun _=>True) u131000 x131000_1)∧Aside0 (w'.heap[gb126]?=some (.cells #[(.slice none 0 0),(.slice none 0 0),.int .i64 0] 35 (0,0)))∧Aside0 (w'.heap[gb130]?=some (.cells #[u131000,(.slice none 0 0),.int .i64 100] 35 (0,0)))∧Aside0 (Below w.heap.size w w'))
 case atStart=>exact⟨(0),(y127),(.slice Ao5 y127.length co5),(by first|rfl|(simp;done)|(simp[*];done)),H',⟨Nat.le_refl _⟩,⟨by (with_reducible repeat (first|apply Kd.S_alloc|apply Kd.S_drewN|apply Kd.S_drew));exact Kd.S_mono (Kd.S_far (p:=⟨gb130,2,none⟩) (Kd.S_far (p:=⟨gb130,1,none⟩) (Kd.S_far (p:=⟨gb130,0,none⟩) (Kd.S_types HO129.out BK130.out (by decide)) (fun _ hk=>hk.2) (.slice Ao5 y127.length co5)) (fun _ hk=>hk.2) (.slice none 0 0)) (fun _ hk=>hk.2) (.int .i64 100)) (fun _ hk=>trivial)⟩,⟨by (with_reducible repeat (first|refine blk_drewN ?_ _|refine blk_drew ?_|refine blk_alloc ?_ _));refine blk_far ?_ NB126_130.out _;(with_reducible repeat (first|refine blk_drewN ?_ _|refine blk_drew ?_|refine blk_alloc ?_ _));refine blk_far ?_ NB126_130.out _;(with_reducible repeat (first|refine blk_drewN ?_ _|refine blk_drew ?_|refine blk_alloc ?_ _));refine blk_far ?_ NB126_130.out _;(with_reducible repeat (first|refine blk_drewN ?_ _|refine blk_drew ?_|refine blk_alloc ?_ _));exact BK126.out⟩,⟨by (with_reducible repeat (first|refine blk_drewN ?_ _|refine blk_drew ?_|refine blk_alloc ?_ _));refine blk_put (cs:=#[.slice Ao5 y127.length co5,.slice none 0 0,.int .i64 0]) ?_ 2 _ rfl;(with_reducible repeat (first|refine blk_drewN ?_ _|refine blk_drew ?_|refine blk_alloc ?_ _));refine blk_put (cs:=#[.slice Ao5 y127.length co5,.slice none 0 0,.int .i64 0]) ?_ 1 _ rfl;(with_reducible repeat (first|refine blk_drewN ?_ _|refine blk_drew ?_|refine blk_alloc ?_ _));refine blk_put (cs:=#[.slice none 0 0,.slice none 0 0,.int .i64 0]) ?_ 0 _ rfl;(with_reducible repeat (first|refine blk_drewN ?_ _|refine blk_drew ?_|refine blk_alloc ?_ _));exact BK130.out⟩,⟨by repeat (first|(with_reducible first|exact HB.out|apply below_alloc|apply pw_below_drewN|apply below_drew1|refine below_set ?_ GE126.out|refine below_set ?_ GE130.out)|exact HB.out)⟩⟩
 case round=>
  clear H'
  try clear c2
  try clear p2
  try clear c7
  try clear hcz8_0
  try clear hcz8_1
  try clear hcz8_2
  try clear hfz8_0
  try clear hfz8_1
  try clear hfz8_2
  obtain⟨x11_1,x131000_1,u131000,rfl,HA,HK1,HO_131000,BK126,BK130,HB⟩:=hrel
  cases gk with
  |zero=>exact absurd HA.out (by simp[spec_MadeSleepers.l0])
  |succ k1=>
   have H:=HA.out;clear HA;simp only[spec_MadeSleepers.l0] at H
   by_cases c9:x11_1<(l0.length:Int)
   ·rw[if_pos c9] at H
    have c9b0:decide (x11_1<(l0.length:Int))=true:=decide_eq_true c9;clear c9
    by_cases c10:0≤x11_1
    ·rw[if_pos c10] at H
     have c10b0:decide (0≤x11_1)=true:=decide_eq_true c10;clear c10
     by_cases c11:x11_1<(l0.length:Int)
     ·rw[if_pos c11] at H
      have c11b0:decide (x11_1<(l0.length:Int))=true:=decide_eq_true c11;clear c11
      by_cases c12:0<(x131000_1.length:Int)
      ·rw[if_pos c12] at H
       have c12b0:decide (0<(x131000_1.length:Int))=true:=decide_eq_true c12;have c12b1:decide (0<x131000_1.length)=true:=decide_eq_true (by omega);clear c12
       by_cases c13:((rd_T98 x131000_1 0).f0).length<3518437208883
       ·rw[if_pos c13] at H
        have LMc13:=Aside0.mk c13;clear c13;obtain⟨y133,hy133⟩:∃y_:List (S100),y_=(((rd_T98 x131000_1 0).f0)++[(⟨7,0,wrap64 (x11_1+1),0,0⟩:S100)]):=⟨_,rfl⟩
        replace H:((some (x131000_1.set (0:Int).toNat (⟨y133⟩:S98):List (S98))).bind fun y136=>(if y136.length<5864062014805 then (spec_MadeSleepers.l0 k1 l0 (l0.length:Int) (wrap64 (x11_1+1)) (y136++[(⟨(([(⟨1,0,0,rd l0 x11_1,0⟩:S100),(⟨5,0,0,0,0⟩:S100),(⟨1,1,0,x11_1,0⟩:S100),(⟨3,1,0,0,0⟩:S100)]:List (S100)))⟩:S98)]) 100) else (none)))=some (r1,r2,r3):=by first|(rw[hy133];with_reducible exact H)|(have H2_:=(Option.bind_some _ _).symm.trans H;rw[hy133];with_reducible exact H2_)|(have H2_:=(Option.bind_some _ _).symm.trans H;with_reducible exact H2_)|with_reducible exact H|(rw[hy133];exact H)|exact H
        have Ny133:=Aside0.mk hy133;clear hy133;obtain⟨y136,hy136⟩:∃y_:List (S98),y_=(x131000_1.set (0:Int).toNat (⟨y133⟩:S98)):=⟨_,rfl⟩
        replace H:(if y136.length<5864062014805 then (spec_MadeSleepers.l0 k1 l0 (l0.length:Int) (wrap64 (x11_1+1)) (y136++[(⟨(([(⟨1,0,0,rd l0 x11_1,0⟩:S100),(⟨5,0,0,0,0⟩:S100),(⟨1,1,0,x11_1,0⟩:S100),(⟨3,1,0,0,0⟩:S100)]:List (S100)))⟩:S98)]) 100) else (none))=some (r1,r2,r3):=by first|(rw[hy136];with_reducible exact H)|(have H2_:=(Option.bind_some _ _).symm.trans H;rw[hy136];with_reducible exact H2_)|(have H2_:=(Option.bind_some _ _).symm.trans H;with_reducible exact H2_)|with_reducible exact H|(rw[hy136];exact H)|exact H
        have Ny136:=Aside0.mk hy136;clear hy136;obtain⟨y137,hy137⟩:∃y_:List (S100),y_=(([(⟨1,0,0,rd l0 x11_1,0⟩:S100),(⟨5,0,0,0,0⟩:S100),(⟨1,1,0,x11_1,0⟩:S100),(⟨3,1,0,0,0⟩:S100)]:List (S100))):=⟨_,rfl⟩
        replace H:(if y136.length<5864062014805 then (spec_MadeSleepers.l0 k1 l0 (l0.length:Int) (wrap64 (x11_1+1)) (y136++[(⟨y137⟩:S98)]) 100) else (none))=some (r1,r2,r3):=by first|(rw[hy137];with_reducible exact H)|(have H2_:=(Option.bind_some _ _).symm.trans H;rw[hy137];with_reducible exact H2_)|(have H2_:=(Option.bind_some _ _).symm.trans H;with_reducible exact H2_)|with_reducible exact H|(rw[hy137];exact H)|exact H
        have Ny137:=Aside0.mk hy137;clear hy137
        by_cases c15:y136.length<5864062014805
        ·rw[if_pos c15] at H
         have LMc15:=Aside0.mk c15;clear c15;obtain⟨y140,hy140⟩:∃y_:List (S98),y_=(y136++[(⟨y137⟩:S98)]):=⟨_,rfl⟩
         replace H:(spec_MadeSleepers.l0 k1 l0 (l0.length:Int) (wrap64 (x11_1+1)) y140 100)=some (r1,r2,r3):=by first|(rw[hy140];with_reducible exact H)|(have H2_:=(Option.bind_some _ _).symm.trans H;rw[hy140];with_reducible exact H2_)|(have H2_:=(Option.bind_some _ _).symm.trans H;with_reducible exact H2_)|with_reducible exact H|(rw[hy140];exact H)|exact H
         have Ny140:=Aside0.mk hy140;clear hy140;have H':=Aside0.mk H;clear H;have p131:0≤(x11_1:Int):=of_decide_eq_true (by first|(with_reducible assumption)|assumption);have q131:x11_1<(l0.length:Int):=of_decide_eq_true (by first|(with_reducible assumption)|assumption);obtain⟨ad131,e131,hx131_0⟩:=Kd.at_int HR0.out x11_1 p131 q131
         cases e131
         replace hx131_0:=(HB.out.cell (World.block_lt_of_cell? w _ hx131_0)).trans hx131_0;replace p131:=eq_true p131;replace q131:=eq_true q131
         try go_wp2
         have n0_:=Aside0.mk (Kd.S_drew HO_131000.out);have n1_:=Aside0.mk (blk_drew BK126.out);have n2_:=Aside0.mk (blk_drew BK130.out);have n3_:=Aside0.mk (below_drew1 HB.out);clear HO_131000;clear BK126;clear BK130;clear HB;have HO_131000:=n0_;have BK126:=n1_;have BK130:=n2_;have HB:=n3_;clear n0_ n1_ n2_ n3_;obtain⟨Ao17,co17,eo17⟩:=Kd.S_slice HO_131000.out
         (first|subst eo17|(injection eo17 with f1_ f2_ f3_;have f4_:=f1_.symm;have f5_:=f3_.symm;clear f1_ f2_ f3_;subst f4_;subst f5_))
         have p132:0≤(0:Int):=(by omega);have q132:0<(x131000_1.length:Int):=of_decide_eq_true (by first|(with_reducible assumption)|assumption);obtain⟨ad132,A132_0,c132_0,e132,hx132_0,hl132_0,hi132_0⟩:=at_T98 (Kd.S_reads' HO_131000.out).2.2 0 p132 q132
         cases e132
         obtain⟨ce132,hce132,hMe132,hcc132⟩:=Kd.S_get HO_131000.out z98 0 p132 (by first|exact q132|exact of_decide_eq_true (by first|(with_reducible assumption)|assumption)|(have e_:=(Kd.S_reads' HO_131000.out).1;omega));obtain⟨ve132_0,rfl,ge132_0⟩:=k98_openM hMe132;have hv132_0:=hcc132 0 _ rfl;rw[Nat.add_zero,show (k98).sz=1 from rfl,Nat.mul_one] at hv132_0;replace hv132_0:=Option.some.inj (hv132_0.symm.trans hx132_0);rw[hv132_0] at ge132_0;have HL132_0:=Aside0.mk (show Kd.R k100 100 _ _ _ _ ((rd_T98 x131000_1 0).f0) from ge132_0);clear hv132_0 ge132_0;have HX132_0:=Aside0.mk hx132_0;clear hcc132 hce132;have qi132:(0<x131000_1.length)=True:=eq_true (by omega)
         (try rw[show ((0:Int)).toNat=0 from rfl] at hx132_0)
         (try rw[Addr.add_zero'] at hx132_0)
         have HR132_0:=Aside0.mk hi132_0;have HC132_0:=Aside0.mk hl132_0;clear hi132_0 hl132_0;replace p132:=eq_true p132;replace q132:=eq_true q132;obtain⟨go18,co18,eo18,gb18,gl18,cl18,HG18⟩:=Kd.S_form HO_131000.out (by have h_:(0:Int)<((x131000_1.length:Int):Int):=of_decide_eq_true (by first|(with_reducible assumption)|assumption);have h2_:0≤(0:Int):=(by omega);omega)
         (first|cases eo18|(injection eo18 with ea_ en_ ec_;(first|subst ea_|(injection ea_ with ea_;subst ea_));subst ec_;clear en_))
         have GB18:=Aside0.mk gb18;have GG18:=Aside0.mk HG18;clear gb18 gl18 HG18
         (first|simp only[add_plain] at hx132_0|skip)
         obtain⟨oki18,ce18,hcl18,hM18,hcc18,_,_,hH18⟩:=Kd.S_elem HO_131000.out z98 (0:Int) (by omega) (by have h_:(0:Int)<((x131000_1.length:Int):Int):=of_decide_eq_true (by first|(with_reducible assumption)|assumption);first|exact h_|(have e_:=(Kd.S_reads' HO_131000.out).1;omega)|simpa using h_);obtain⟨ve18_0,rfl,ge18_0⟩:=k98_openM hM18;have hv18:=hcc18 0 _ rfl;have hX18:=HX132_0.out
         (try simp only[add_plain] at hX18)
         (try simp only[Nat.add_zero] at hv18)
         (try rw[show (k98).sz=1 from rfl,Nat.mul_one] at hv18)
         replace hv18:=Option.some.inj (hv18.symm.trans hX18);subst hv18;clear hX18 hcc18 hcl18;have UU18:=Aside0.mk (show Kd.R k100 100 _ w.heap.size oki18 (.slice A132_0 ((rd_T98 x131000_1 0).f0).length c132_0) ((rd_T98 x131000_1 0).f0) from ge18_0);have HH18:=Aside0.mk hH18;have HN18:=Aside0.mk (Kd.S_reads' HO_131000.out).1;clear hH18 ge18_0
         refine start_ (n:=15) (S:=fun w'=>w'.cell? ⟨gb130,0,none⟩=some (.slice (some ⟨go18,0,none⟩) x131000_1.length co17)∧w'.cell? ⟨gb130,1,none⟩=some (.slice none 0 0)∧w'.cell? ⟨gb130,2,none⟩=some (.int .i64 100)∧w'.cell? ⟨go18,0,none⟩=some (.slice A132_0 ((rd_T98 x131000_1 0).f0).length c132_0)) (ds:=[14]) #[false,false,false,false,false,false,false,false,false,false,false,false,false,false,false] (by kernel_rfl) rfl rfl ⟨(blk_cell BK130.out 0).trans rfl,(blk_cell BK130.out 1).trans rfl,(blk_cell BK130.out 2).trans rfl,hx132_0⟩ (fun hHeld=>?_);refine with_tabW spec_MadeSleepers.tab5 spec_MadeSleepers.bits5 (fun HT_ HW_=>?_)
         generalize wr.drew=w16 at HO_131000 BK126 BK130 HB GG18 HH18 HL132_0 HR132_0 HX132_0 UU18 hx132_0 hHeld ⊢
         refine pure_ (i:=0) (N:=some 16) (v:=?_) (a':=?_) #[true,false,false,false,false,false,false,false,false,false,false,false,false,false,false] rfl rfl (any_of HT_.out (by kernel_rfl)) (fun _ _ _ h=>h) (Or.inl ⟨by rfl,?_⟩) ?_ ?_
         rotate_left
         ·intro w'
          go_simp
          with_reducible rfl
         rotate_left
         ·simp only[Act.put,List.setIfInBounds_toArray,List.set_cons_zero,List.set_cons_succ,i64_w,i32_w]
          rfl
         refine pure_ (i:=2) (N:=some 18) (v:=?_) (a':=?_) #[true,false,true,false,false,false,false,false,false,false,false,false,false,false,false] rfl rfl (any_of HT_.out (by kernel_rfl)) (fun _ _ _ h=>h) (Or.inl ⟨by rfl,?_⟩) ?_ ?_
         rotate_left
         ·intro w'
          go_simp
          with_reducible rfl
         rotate_left
         ·simp only[Act.put,List.setIfInBounds_toArray,List.set_cons_zero,List.set_cons_succ,i64_w,i32_w]
          rfl
         refine pure_ (i:=7) (N:=some 23) (v:=?_) (a':=?_) #[true,false,true,false,false,false,false,true,false,false,false,false,false,false,false] rfl rfl (any_of HT_.out (by kernel_rfl)) (fun _ _ _ h=>h) (Or.inl ⟨by rfl,?_⟩) ?_ ?_
         rotate_left
         ·intro w'
          go_simp
          with_reducible rfl
         rotate_left
         ·simp only[Act.put,List.setIfInBounds_toArray,List.set_cons_zero,List.set_cons_succ,i64_w,i32_w]
          rfl
         refine pure_ (i:=8) (N:=some 24) (v:=?_) (a':=?_) #[true,false,true,false,false,false,false,true,true,false,false,false,false,false,false] rfl rfl (any_of HT_.out (by kernel_rfl)) (fun _ _ _ h=>h) (Or.inl ⟨by rfl,?_⟩) ?_ ?_
         rotate_left
         ·intro w'
          go_simp
          with_reducible rfl
         rotate_left
         ·simp only[Act.put,List.setIfInBounds_toArray,List.set_cons_zero,List.set_cons_succ,i64_w,i32_w]
          rfl
         refine pure_ (i:=9) (N:=some 25) (v:=?_) (a':=?_) #[true,false,true,false,false,false,false,true,true,true,false,false,false,false,false] rfl rfl (any_of HT_.out (by kernel_rfl)) (fun _ _ _ h=>h) (Or.inl ⟨by rfl,?_⟩) ?_ ?_
         rotate_left
         ·intro w'
          go_simp
          with_reducible rfl
         rotate_left
         ·simp only[Act.put,List.setIfInBounds_toArray,List.set_cons_zero,List.set_cons_succ,i64_w,i32_w]
          rfl
         refine take_ (i:=1) (N:=some 17) (v:=?_) (a':=?_) #[true,true,true,false,false,false,false,true,true,true,false,false,false,false,false] rfl rfl (take_ofW HT_.out HW_.out (by kernel_rfl)) (fun _ _ _ h=>h) (Or.inl ⟨by rfl,?_⟩) hHeld ?_ ?_
         rotate_left
         ·rintro w' ⟨s0,s1,s2,s3⟩
          go_simp
          with_reducible rfl
         rotate_left
         ·simp only[Act.put,List.setIfInBounds_toArray,List.set_cons_zero,List.set_cons_succ,i64_w,i32_w]
          rfl
         refine take_ (i:=3) (N:=some 19) (v:=?_) (a':=?_) #[true,true,true,true,false,false,false,true,true,true,false,false,false,false,false] rfl rfl (take_ofW HT_.out HW_.out (by kernel_rfl)) (fun _ _ _ h=>h) (Or.inl ⟨by rfl,?_⟩) hHeld ?_ ?_
         rotate_left
         ·rintro w' ⟨s0,s1,s2,s3⟩
          go_simp
          with_reducible rfl
         rotate_left
         ·simp only[Act.put,List.setIfInBounds_toArray,List.set_cons_zero,List.set_cons_succ,i64_w,i32_w]
          rfl
         refine pure_ (i:=4) (N:=some 20) (v:=?_) (a':=?_) #[true,true,true,true,true,false,false,true,true,true,false,false,false,false,false] rfl rfl (any_of HT_.out (by kernel_rfl)) (fun _ _ _ h=>h) (Or.inl ⟨by rfl,?_⟩) ?_ ?_
         rotate_left
         ·intro w'
          go_simp
          with_reducible rfl
         rotate_left
         ·simp only[Act.put,List.setIfInBounds_toArray,List.set_cons_zero,List.set_cons_succ,i64_w,i32_w]
          rfl
         refine pure_ (i:=5) (N:=some 21) (v:=?_) (a':=?_) #[true,true,true,true,true,true,false,true,true,true,false,false,false,false,false] rfl rfl (any_of HT_.out (by kernel_rfl)) (fun _ _ _ h=>h) (Or.inl ⟨by rfl,?_⟩) ?_ ?_
         rotate_left
         ·intro w'
          go_simp
          with_reducible rfl
         rotate_left
         ·simp only[Act.put,List.setIfInBounds_toArray,List.set_cons_zero,List.set_cons_succ,i64_w,i32_w]
          rfl
         refine take_ (i:=6) (N:=some 22) (v:=?_) (a':=?_) #[true,true,true,true,true,true,true,true,true,true,false,false,false,false,false] rfl rfl (take_ofW HT_.out HW_.out (by kernel_rfl)) (fun _ _ _ h=>h) (Or.inl ⟨by rfl,?_⟩) hHeld ?_ ?_
         rotate_left
         ·rintro w' ⟨s0,s1,s2,s3⟩
          go_simp
          with_reducible rfl
         rotate_left
         ·simp only[Act.put,List.setIfInBounds_toArray,List.set_cons_zero,List.set_cons_succ,i64_w,i32_w]
          rfl
         refine one_ (i:=10) (N:=some 26) #[true,true,true,true,true,true,true,true,true,true,true,false,false,false,false] rfl rfl (one_of HT_.out (by kernel_rfl)) (by decide) (fun K hK=>?_)
         refine value_ (w1:=?_) (v:=?_) (by rfl) rfl ?_ ?_
         rotate_left 2
         ·go_simp
          constructor
          ·rfl
          ·rfl
         refine hK.out _ _ ⟨(blk_cell (blk_alloc BK130.out _) 0).trans rfl,(blk_cell (blk_alloc BK130.out _) 1).trans rfl,(blk_cell (blk_alloc BK130.out _) 2).trans rfl,(World.cell?_alloc_lt _ _ _ (World.block_lt_of_cell? _ _ (hHeld.2.2.2))).trans (hHeld.2.2.2)⟩ (fun hHeld=>?_)
         clear hK K
         refine norm_ (a':=?_) ?_ ?_
         rotate_left
         ·show Act.put _ (some 26) _=_
          simp only[Act.put,List.setIfInBounds_toArray,List.set_cons_zero,List.set_cons_succ,i64_w,i32_w];rfl
         refine one_ (i:=11) (N:=some 27) #[true,true,true,true,true,true,true,true,true,true,true,true,false,false,false] rfl rfl (one_of HT_.out (by kernel_rfl)) (by decide) (fun K hK=>?_)
         refine Kd.R_append_step k100 (w0:=w) w.heap.size (by rfl) (.tmp 22) (.tmp 26) 96 100 (.agg #[(.int .i64 0),(.int .i64 0),(.int .i64 0),(.int .i64 0),(.int .i64 0)]) 40 rfl Try.underlying96 info100 rfl (by decide) (by omega) (.slice A132_0 ((rd_T98 x131000_1 0).f0).length c132_0) ((rd_T98 x131000_1 0).f0) (⟨7,0,wrap64 (x11_1+1),0,0⟩:S100) [.int .i64 7,.int .i64 0,.int .i64 (wrap64 (x11_1+1)),.int .i64 0,.int .i64 0] (fun k_=>oki18 k_∨((fun _=>True)) k_∧w16.heap.size≤k_) (fun _=>False) rfl rfl ?aP (fun _ hk=>hk.elim) ?aF ?aO ?aB ?aS ?aL ?_
         (case aP=>exact k100_mkM _ _ _ (⟨7,0,wrap64 (x11_1+1),0,0⟩:S100))
         (case aB=>exact (by repeat (first|(with_reducible first|exact HB.out|apply below_alloc|apply pw_below_drewN|apply below_drew1|refine below_set ?_ GE126.out|refine below_set ?_ GE130.out)|exact HB.out)))
         (case aF=>exact (fun k_ hk=>.inr ⟨trivial,hk⟩))
         (case aO=>exact (by (with_reducible repeat (first|apply Kd.R_alloc|apply Kd.R_drewN|apply Kd.R_drew));exact Kd.R_mono UU18.out (fun _ hk=>.inl hk)))
         (case aS=>exact (below_size (by repeat (first|(with_reducible first|exact HB.out|apply below_alloc|apply pw_below_drewN|apply below_drew1|refine below_set ?_ GE126.out|refine below_set ?_ GE130.out)|exact HB.out))))
         (case aL=>have:=LMc13.out;omega)
         intro v134 w19 ho hb hg hat
         (first|have HS3_:=cell_grown hg (hHeld.2.2.2) (by first|(rw[add_block];exact (fun e_=>((HL132_0.out.1 _ e_.symm).2) rfl))|(show some (Addr.add _ _).block≠_;rw[add_block];exact (fun e_=>((HL132_0.out.1 _ e_.symm).2) rfl))|exact (fun e_=>((HL132_0.out.1 _ e_.symm).2) rfl))|have HS3_:=cell_grown hg (cell_unalloc (hHeld.2.2.2) (by first|(rw[add_block];exact Kd.S_lt HO_131000.out _ rfl)|(show (Addr.add _ _).block<_;rw[add_block];exact Kd.S_lt HO_131000.out _ rfl)|exact Kd.S_lt HO_131000.out _ rfl)) (by first|(rw[add_block];exact (fun e_=>((HL132_0.out.1 _ e_.symm).2) rfl))|(show some (Addr.add _ _).block≠_;rw[add_block];exact (fun e_=>((HL132_0.out.1 _ e_.symm).2) rfl))|exact (fun e_=>((HL132_0.out.1 _ e_.symm).2) rfl)))
         rw[←Ny133.out] at ho;have n0_:=Aside0.mk (blk_grown (g:=gb126) (o:=.cells #[.slice none 0 0,.slice none 0 0,.int .i64 0] 35 (0,0)) (by (with_reducible repeat (first|refine blk_drewN ?_ _|refine blk_drew ?_|refine blk_alloc ?_ _));exact BK126.out) hg (Kd.R_ne HL132_0.out BK126.out (by decide)));have n1_:=Aside0.mk (blk_grown (g:=gb130) (o:=.cells #[.slice (some ⟨go18,0,none⟩) x131000_1.length co17,.slice none 0 0,.int .i64 100] 35 (0,0)) (by (with_reducible repeat (first|refine blk_drewN ?_ _|refine blk_drew ?_|refine blk_alloc ?_ _));exact BK130.out) hg (Kd.R_ne HL132_0.out BK130.out (by decide)));have n2_:=Aside0.mk (hb);have n3_:=Aside0.mk (Kd.H_grown (Kd.H_widen (by repeat (first|exact HH18.out|refine Kd.H_alloc ?_ _|refine Kd.H_drewN ?_ _|refine Kd.H_drew ?_))) hg (fun k_ e_=>.inl (UU18.out.1 k_ e_)));have n4_:=Aside0.mk (ho);clear BK126;clear BK130;clear HB;clear HH18;clear HO_131000;clear UU18;clear HL132_0;have BK126:=n0_;have BK130:=n1_;have HB:=n2_;have HH18:=n3_;have HO135:=n4_;clear n0_ n1_ n2_ n3_ n4_;clear ho hb hg hat;have p14:0≤(0:Int):=(by omega);have q14:(0:Int)<((x131000_1.length:Int):Int):=of_decide_eq_true (by first|(with_reducible assumption)|assumption);replace p14:=eq_true p14;replace q14:=eq_true q14;obtain⟨Ao22,co22,eo22⟩:=Kd.R_slice HO135.out
         (first|subst eo22|(injection eo22 with f1_ f2_ f3_;have f4_:=f1_.symm;have f5_:=f3_.symm;clear f1_ f2_ f3_;subst f4_;subst f5_))
         obtain⟨_,_,hraw20,_,_,hcc20,_⟩:=Kd.H_raw HH18.out (by omega) (by have h_:(0:Int)<((x131000_1.length:Int):Int):=of_decide_eq_true (by first|(with_reducible assumption)|assumption);first|exact h_|(have e_:=(HN18.out);omega)|simpa using h_);obtain⟨_,hfr20⟩:=Kd.H_at HH18.out (by omega) (by have h_:(0:Int)<((x131000_1.length:Int):Int):=of_decide_eq_true (by first|(with_reducible assumption)|assumption);first|exact h_|(have e_:=(HN18.out);omega)|simpa using h_);have hx20_0:=hcc20 0 _ rfl;have hf20_0:=hfr20 0
         (try simp only[Nat.add_zero] at hx20_0 hf20_0)
         (try rw[show (k98).sz=1 from rfl,Nat.mul_one] at hx20_0)
         (try rw[show (k98).sz=1 from rfl,Nat.mul_one] at hf20_0)
         (try rw[show ((0:Int)).toNat=0 from rfl] at hx20_0)
         (try simp only[Nat.reduceMul,Nat.zero_mul,Nat.zero_add,Nat.reduceAdd] at hx20_0)
         (try rw[show ((0:Int)).toNat=0 from rfl] at hf20_0)
         (try simp only[Nat.reduceMul,Nat.zero_mul,Nat.zero_add,Nat.reduceAdd] at hf20_0)
         have HP20:=Kd.S_seg0 HH18.out (by omega) (by have h_:(0:Int)<((x131000_1.length:Int):Int):=of_decide_eq_true (by first|(with_reducible assumption)|assumption);first|exact h_|(have e_:=(HN18.out);omega)|simpa using h_) (seg:=[.slice Ao22 y133.length co22]) (j:=0) (show 1≤1 from by decide) (x':=(⟨y133⟩:S98)) (k98_mkM _ _ _ (⟨y133⟩:S98) HO135.out) (fun _ hk=>hk)
         (try simp only[show (k98).sz=1 from rfl,Nat.mul_one,Nat.add_zero] at HP20)
         clear hcc20 hfr20;have HNB126_go18:=Aside0.mk (show gb126≠go18 from by have h_:=Kd.R_ne hraw20 BK126.out (by decide);intro e_;exact h_ (by rw[e_];rfl));have HNB130_go18:=Aside0.mk (show gb130≠go18 from by have h_:=Kd.R_ne hraw20 BK130.out (by decide);intro e_;exact h_ (by rw[e_];rfl));have HS20:=HP20.1;rw[←Ny136.out] at HS20;have HQ20:=Aside0.mk HS20;obtain⟨_,hgg20⟩:=Kd.R_typed hraw20 go18 rfl;have GG20_:=Aside0.mk hgg20;clear HP20 HS20 hgg20
         refine hK.out _ _ ⟨(blk_cell BK130.out 0).trans rfl,(blk_cell BK130.out 1).trans rfl,(blk_cell BK130.out 2).trans rfl,HS3_⟩ (fun hHeld=>?_)
         clear hK K
         refine norm_ (a':=?_) ?_ ?_
         rotate_left
         ·show Act.put _ (some 27) _=_
          simp only[Act.put,List.setIfInBounds_toArray,List.set_cons_zero,List.set_cons_succ,i64_w,i32_w];rfl
         refine pure_ (i:=12) (N:=some 28) (v:=?_) (a':=?_) #[true,true,true,true,true,true,true,true,true,true,true,true,true,false,false] rfl rfl (any_of HT_.out (by kernel_rfl)) (fun _ _ _ h=>h) (Or.inl ⟨by rfl,?_⟩) ?_ ?_
         rotate_left
         ·intro w'
          go_simp
          with_reducible rfl
         rotate_left
         ·simp only[Act.put,List.setIfInBounds_toArray,List.set_cons_zero,List.set_cons_succ,i64_w,i32_w]
          rfl
         refine pure_ (i:=13) (N:=some 29) (v:=?_) (a':=?_) #[true,true,true,true,true,true,true,true,true,true,true,true,true,true,false] rfl rfl (any_of HT_.out (by kernel_rfl)) (fun _ _ _ h=>h) (Or.inl ⟨by rfl,?_⟩) ?_ ?_
         rotate_left
         ·intro w'
          go_simp
          with_reducible rfl
         rotate_left
         ·simp only[Act.put,List.setIfInBounds_toArray,List.set_cons_zero,List.set_cons_succ,i64_w,i32_w]
          rfl
         refine last_ (i:=14) (N:=none) #[true,true,true,true,true,true,true,true,true,true,true,true,true,true,true] rfl rfl (one_of HT_.out (by kernel_rfl)) (by decide) (fun K hK=>?_)
         refine skip_ (w1:=?_) (by rfl) rfl ?_ ?_
         rotate_left
         ·go_simp
          rfl
         refine hK.out _ _ ?_
         clear hK K
         refine done_ (done_of HT_.out (by kernel_rfl)) ?_
         have n0_:Aside0 (Kd.S k98 98 (w19.setCell ⟨go18,0,none⟩ (.slice Ao22 y133.length co22)) w.heap.size (fun _=>True) (.slice (some ⟨go18,0,none⟩) x131000_1.length co17) y136):=⟨by (with_reducible repeat (first|apply Kd.S_alloc|apply Kd.S_drewN|apply Kd.S_drew));exact HQ20.out⟩;have n1_:Aside0 ((w19.setCell ⟨go18,0,none⟩ (.slice Ao22 y133.length co22)).heap[gb126]?=some (.cells #[.slice none 0 0,.slice none 0 0,.int .i64 0] 35 (0,0))):=⟨by (with_reducible repeat (first|refine blk_drewN ?_ _|refine blk_drew ?_|refine blk_alloc ?_ _));refine blk_far ?_ HNB126_go18.out _;(with_reducible repeat (first|refine blk_drewN ?_ _|refine blk_drew ?_|refine blk_alloc ?_ _));exact BK126.out⟩;have n2_:Aside0 ((w19.setCell ⟨go18,0,none⟩ (.slice Ao22 y133.length co22)).heap[gb130]?=some (.cells #[.slice (some ⟨go18,0,none⟩) x131000_1.length co17,.slice none 0 0,.int .i64 100] 35 (0,0))):=⟨by (with_reducible repeat (first|refine blk_drewN ?_ _|refine blk_drew ?_|refine blk_alloc ?_ _));refine blk_far ?_ HNB130_go18.out _;(with_reducible repeat (first|refine blk_drewN ?_ _|refine blk_drew ?_|refine blk_alloc ?_ _));exact BK130.out⟩;have n3_:Aside0 (Below w.heap.size w (w19.setCell ⟨go18,0,none⟩ (.slice Ao22 y133.length co22))):=⟨by repeat (first|(with_reducible first|exact HB.out|apply below_alloc|apply pw_below_drewN|apply below_drew1|refine below_set ?_ GB18.out|refine below_set ?_ GE126.out|refine below_set ?_ GE130.out)|exact HB.out)⟩
         (try clear HO_131000)
         (try clear BK126)
         (try clear BK130)
         (try clear HB)
         generalize (w19.setCell ⟨go18,0,none⟩ (.slice Ao22 y133.length co22))=w23 at n0_ n1_ n2_ n3_ ⊢;have HO_131000:=n0_;have BK126:=n1_;have BK130:=n2_;have HB:=n3_;clear n0_ n1_ n2_ n3_;have hnb24:=NB130_126.out;have hnc24:=NB126_130.out;have hcz25_0:w23.cell? ⟨gb130,0,none⟩=some (.slice (some ⟨go18,0,none⟩) x131000_1.length co17):=(blk_cell BK130.out 0).trans rfl;have hcz25_1:w23.cell? ⟨gb130,1,none⟩=some (.slice none 0 0):=(blk_cell BK130.out 1).trans rfl;have hcz25_2:w23.cell? ⟨gb130,2,none⟩=some (.int .i64 100):=(blk_cell BK130.out 2).trans rfl;have hfz25_0:=blk_frozen BK130.out 0;have hfz25_1:=blk_frozen BK130.out 1;have hfz25_2:=blk_frozen BK130.out 2
         try go_wp2_with (first|((with_reducible refine gate_dst (N:=38) rfl ?_);refine Kd.R_lit k100 _ 100 ?hg (N:=38) ?hd (xs:=([(⟨1,0,0,rd l0 x11_1,0⟩:S100),(⟨5,0,0,0,0⟩:S100),(⟨1,1,0,x11_1,0⟩:S100),(⟨3,1,0,0,0⟩:S100)]:List (S100))) (inner:=[.int .i64 1,.int .i64 0,.int .i64 0,.int .i64 (rd l0 x11_1),.int .i64 0,.int .i64 5,.int .i64 0,.int .i64 0,.int .i64 0,.int .i64 0,.int .i64 1,.int .i64 1,.int .i64 0,.int .i64 x11_1,.int .i64 0,.int .i64 3,.int .i64 1,.int .i64 0,.int .i64 0,.int .i64 0]) (ok:=fun _=>True) (okp:=fun _=>True) ?hr ?hp (fun _ hk=>hk) trivial (Below.refl _ _) (Nat.le_refl _) (by simp) ?_;(case hd=>rfl);(case hg=>rfl);(case hr=>first|(go_simp;done)|(go_simp;rfl));(case hp=>exact (Reps.c5 (show Kd.M k100 _ _ _ (⟨1,0,0,rd l0 x11_1,0⟩:S100) [.int .i64 1,.int .i64 0,.int .i64 0,.int .i64 (rd l0 x11_1),.int .i64 0] from (k100_mkM _ _ _ (⟨1,0,0,rd l0 x11_1,0⟩:S100))) (Reps.c5 (show Kd.M k100 _ _ _ (⟨5,0,0,0,0⟩:S100) [.int .i64 5,.int .i64 0,.int .i64 0,.int .i64 0,.int .i64 0] from (k100_mkM _ _ _ (⟨5,0,0,0,0⟩:S100))) (Reps.c5 (show Kd.M k100 _ _ _ (⟨1,1,0,x11_1,0⟩:S100) [.int .i64 1,.int .i64 1,.int .i64 0,.int .i64 x11_1,.int .i64 0] from (k100_mkM _ _ _ (⟨1,1,0,x11_1,0⟩:S100))) (Reps.c5 (show Kd.M k100 _ _ _ (⟨3,1,0,0,0⟩:S100) [.int .i64 3,.int .i64 1,.int .i64 0,.int .i64 0,.int .i64 0] from (k100_mkM _ _ _ (⟨3,1,0,0,0⟩:S100))) (Reps.none _ _))))));intro v138 w26 ho27 hb hg_ hnew_;clear hg_ hnew_;(first|rw [←Ny137.out] at ho27|(simp only[Int.reduceToNat] at ho27;rw[←Ny137.out] at ho27));have n0_:=Aside0.mk (Kd.S_elder' (by (with_reducible repeat (first|apply Kd.S_alloc|apply Kd.S_drewN|apply Kd.S_drew));exact HO_131000.out) (Kd.R_base ho27) hb);have n1_:=Aside0.mk (Kd.R_lower ho27 (below_size (by repeat (first|(with_reducible first|exact HB.out|apply below_alloc|apply pw_below_drewN|apply below_drew1|refine below_set ?_ GE126.out|refine below_set ?_ GE130.out)|exact HB.out))));have n2_:=Aside0.mk (blk_below (g:=gb126) (o:=.cells #[.slice none 0 0,.slice none 0 0,.int .i64 0] 35 (0,0)) (by (with_reducible repeat (first|refine blk_drewN ?_ _|refine blk_drew ?_|refine blk_alloc ?_ _));exact BK126.out) hb);have n3_:=Aside0.mk (blk_below (g:=gb130) (o:=.cells #[.slice (some ⟨go18,0,none⟩) x131000_1.length co17,.slice none 0 0,.int .i64 100] 35 (0,0)) (by (with_reducible repeat (first|refine blk_drewN ?_ _|refine blk_drew ?_|refine blk_alloc ?_ _));exact BK130.out) hb);have n4_:=Aside0.mk (below_step (by repeat (first|(with_reducible first|exact HB.out|apply below_alloc|apply pw_below_drewN|apply below_drew1|refine below_set ?_ GE126.out|refine below_set ?_ GE130.out)|exact HB.out)) hb);clear HO_131000;clear BK126;clear BK130;clear HB;have HO_131000:=n0_;have HO139:=n1_;have BK126:=n2_;have BK130:=n3_;have HB:=n4_;clear n0_ n1_ n2_ n3_ n4_;clear hb ho27;obtain⟨Ao28,co28,eo28⟩:=Kd.R_slice HO139.out;subst eo28)|((with_reducible refine gate_builtin (b:=.append) (xs:=#[.tmp 31,.tmp 40]) rfl ?_);at_builtin;refine Kd.S_append k98 (w0:=w) w.heap.size rfl (.tmp 31) (.tmp 40) 33 98 (.agg #[(.slice none 0 0)]) 24 rfl Try.underlying33 info98 rfl (by decide) (by omega) (.slice (some ⟨go18,0,none⟩) x131000_1.length co17) y136 (⟨y137⟩:S98) [.slice Ao28 y137.length co28] (fun _=>True) (fun k_=>some k_=(.slice Ao28 y137.length co28:Value).ownBlock) rfl rfl ?aP (fun k_ hk_=>((Kd.R_mono (ok':=fun k_=>((fun _=>True)) k_∧some k_≠(.slice (some ⟨go18,0,none⟩) x131000_1.length co17:Value).ownBlock) (Kd.R_apart' (HO139.out) (Kd.S_typed HO_131000.out) (by decide)) (fun k_ hk=>⟨trivial,hk.2⟩))).1 k_ hk_.symm) ?aF ?aO ?aB ?aS ?aL ?_;(case aP=>exact k98_mkM _ _ _ (⟨y137⟩:S98) (Kd.R_mono (Kd.R_tight rfl (Kd.R_mono (ok':=fun k_=>((fun _=>True)) k_∧some k_≠(.slice (some ⟨go18,0,none⟩) x131000_1.length co17:Value).ownBlock) (Kd.R_apart' (HO139.out) (Kd.S_typed HO_131000.out) (by decide)) (fun k_ hk=>⟨trivial,hk.2⟩))) (fun _ h_=>h_)));(case aB=>exact (by repeat (first|(with_reducible first|exact HB.out|apply below_alloc|apply pw_below_drewN|apply below_drew1|refine below_set ?_ GE126.out|refine below_set ?_ GE130.out)|exact HB.out)));(case aF=>exact (fun _ _=>trivial));(case aO=>exact (by (with_reducible repeat (first|apply Kd.S_alloc|apply Kd.S_drewN|apply Kd.S_drew));exact Kd.S_mono HO_131000.out (fun k_ hk=>⟨trivial,fun e_=>hk.2 e_⟩)));(case aS=>exact (below_size (by repeat (first|(with_reducible first|exact HB.out|apply below_alloc|apply pw_below_drewN|apply below_drew1|refine below_set ?_ GE126.out|refine below_set ?_ GE130.out)|exact HB.out))));(case aL=>have:=LMc15.out;omega);intro v141 w29 ho hb hg hat;rw[←Ny140.out] at ho;have n0_:=Aside0.mk (blk_grown (g:=gb126) (o:=.cells #[.slice none 0 0,.slice none 0 0,.int .i64 0] 35 (0,0)) (by (with_reducible repeat (first|refine blk_drewN ?_ _|refine blk_drew ?_|refine blk_alloc ?_ _));exact BK126.out) hg (Kd.S_ne HO_131000.out BK126.out (by decide)));have n1_:=Aside0.mk (blk_grown (g:=gb130) (o:=.cells #[.slice (some ⟨go18,0,none⟩) x131000_1.length co17,.slice none 0 0,.int .i64 100] 35 (0,0)) (by (with_reducible repeat (first|refine blk_drewN ?_ _|refine blk_drew ?_|refine blk_alloc ?_ _));exact BK130.out) hg (Kd.S_ne HO_131000.out BK130.out (by decide)));have n2_:=Aside0.mk (hb);have n3_:=Aside0.mk (ho);clear BK126;clear BK130;clear HB;clear HO_131000;clear HO139;have BK126:=n0_;have BK130:=n1_;have HB:=n2_;have HO142:=n3_;clear n0_ n1_ n2_ n3_;clear ho hb hg hat;obtain⟨Ao30,co30,eo30⟩:=Kd.S_slice HO142.out;subst eo30;have hcz31_0:w29.cell? ⟨gb130,0,none⟩=some (.slice (some ⟨go18,0,none⟩) x131000_1.length co17):=(blk_cell BK130.out 0).trans rfl;have hcz31_1:w29.cell? ⟨gb130,1,none⟩=some (.slice none 0 0):=(blk_cell BK130.out 1).trans rfl;have hcz31_2:w29.cell? ⟨gb130,2,none⟩=some (.int .i64 100):=(blk_cell BK130.out 2).trans rfl;have hfz31_0:=blk_frozen BK130.out 0;have hfz31_1:=blk_frozen BK130.out 1;have hfz31_2:=blk_frozen BK130.out 2))
         go_roundg k1
         case measure=>have:=HK1.out;omega
         case rel=>exact⟨(wrap64 (x11_1+1)),(y140),(.slice Ao30 y140.length co30),(by first|rfl|(simp;done)|(simp[*];done)),H',⟨by have:=HK1.out;omega⟩,⟨by (with_reducible repeat (first|apply Kd.S_alloc|apply Kd.S_drewN|apply Kd.S_drew));exact Kd.S_mono (Kd.S_far (p:=⟨gb130,0,none⟩) (Kd.S_types HO142.out BK130.out (by decide)) (fun _ hk=>hk.2) (.slice Ao30 y140.length co30)) (fun _ hk=>trivial)⟩,⟨by (with_reducible repeat (first|refine blk_drewN ?_ _|refine blk_drew ?_|refine blk_alloc ?_ _));refine blk_far ?_ NB126_130.out _;(with_reducible repeat (first|refine blk_drewN ?_ _|refine blk_drew ?_|refine blk_alloc ?_ _));exact BK126.out⟩,⟨by (with_reducible repeat (first|refine blk_drewN ?_ _|refine blk_drew ?_|refine blk_alloc ?_ _));refine blk_put (cs:=#[.slice (some ⟨go18,0,none⟩) x131000_1.length co17,.slice none 0 0,.int .i64 100]) ?_ 0 _ rfl;(with_reducible repeat (first|refine blk_drewN ?_ _|refine blk_drew ?_|refine blk_alloc ?_ _));exact BK130.out⟩,⟨by repeat (first|(with_reducible first|exact HB.out|apply below_alloc|apply pw_below_drewN|apply below_drew1|refine below_set ?_ GE126.out|refine below_set ?_ GE130.out)|exact HB.out)⟩⟩
        ·rw[if_neg c15] at H
         exact absurd H (by simp)
       ·rw[if_neg c13] at H
        exact absurd H (by simp)
      ·rw[if_neg c12] at H
       exact absurd H (by simp)
     ·rw[if_neg c11] at H
      exact absurd H (by simp)
    ·rw[if_neg c10] at H
     exact absurd H (by simp)
   ·rw[if_neg c9] at H
    have c9b0:decide (x11_1<(l0.length:Int))=false:=decide_eq_false c9;clear c9;simp only[Option.some.injEq,Prod.mk.injEq] at H;obtain⟨rfl,rfl,rfl⟩:=H;have hnb32:=NB130_126.out;have hnc32:=NB126_130.out;have hcz33_0:wr.cell? ⟨gb130,0,none⟩=some (u131000):=(blk_cell BK130.out 0).trans rfl;have hcz33_1:wr.cell? ⟨gb130,1,none⟩=some (.slice none 0 0):=(blk_cell BK130.out 1).trans rfl;have hcz33_2:wr.cell? ⟨gb130,2,none⟩=some (.int .i64 100):=(blk_cell BK130.out 2).trans rfl;have hfz33_0:=blk_frozen BK130.out 0;have hfz33_1:=blk_frozen BK130.out 1;have hfz33_2:=blk_frozen BK130.out 2;obtain⟨Ao34,co34,eo34⟩:=Kd.S_slice HO_131000.out;subst eo34;have hcz35_0:wr.cell? ⟨gb126,0,none⟩=some (.slice none 0 0):=(blk_cell BK126.out 0).trans rfl;have hcz35_1:wr.cell? ⟨gb126,1,none⟩=some (.slice none 0 0):=(blk_cell BK126.out 1).trans rfl;have hcz35_2:wr.cell? ⟨gb126,2,none⟩=some (.int .i64 0):=(blk_cell BK126.out 2).trans rfl;have hfz35_0:=blk_frozen BK126.out 0;have hfz35_1:=blk_frozen BK126.out 1;have hfz35_2:=blk_frozen BK126.out 2
    go_wp2
    refine bodyPost_ret (results_cell_row rfl _ _ gb126 35 #[.slice Ao34 x131000_1.length co34,.slice none 0 0,.int .i64 100] (0,0) _ rfl (by (with_reducible repeat (first|refine blk_drewN ?_ _|refine blk_drew ?_|refine blk_alloc ?_ _));refine blk_put (cs:=#[.slice Ao34 x131000_1.length co34,.slice none 0 0,.int .i64 0]) ?_ 2 _ rfl;(with_reducible repeat (first|refine blk_drewN ?_ _|refine blk_drew ?_|refine blk_alloc ?_ _));refine blk_put (cs:=#[.slice Ao34 x131000_1.length co34,.slice none 0 0,.int .i64 0]) ?_ 1 _ rfl;(with_reducible repeat (first|refine blk_drewN ?_ _|refine blk_drew ?_|refine blk_alloc ?_ _));refine blk_put (cs:=#[.slice none 0 0,.slice none 0 0,.int .i64 0]) ?_ 0 _ rfl;(with_reducible repeat (first|refine blk_drewN ?_ _|refine blk_drew ?_|refine blk_alloc ?_ _));exact BK126.out) Try.underlying35 rfl (by kernel_rfl)) rfl ?_
    exact⟨_,_,by first|rfl|(simp[errW_none,errW_some]<;>rfl)|(simp[*,errW_none,errW_some]<;>rfl),by (with_reducible repeat (first|apply Kd.S_alloc|apply Kd.S_drewN|apply Kd.S_drew));exact Kd.S_mono (Kd.S_far (p:=⟨gb126,2,none⟩) (Kd.S_far (p:=⟨gb126,1,none⟩) (Kd.S_far (p:=⟨gb126,0,none⟩) (Kd.S_types HO_131000.out BK126.out (by decide)) (fun _ hk=>hk.2) (.slice Ao34 x131000_1.length co34)) (fun _ hk=>hk.2) (.slice none 0 0)) (fun _ hk=>hk.2) (.int .i64 100)) (fun _ hk=>trivial),by first|exact Kd.R_nil _ _ _ _ _|exact Kd.N_nil _ _ _ _ _|exact Kd.V_nil _ _ _ _ _|exact Kd.Q_nil _ _ _ _ _|exact Kd.S_nil _ _ _ _ _,by repeat (first|(with_reducible first|exact HB.out|apply below_alloc|apply pw_below_drewN|apply below_drew1|refine below_set ?_ GE126.out|refine below_set ?_ GE130.out)|exact HB.out)⟩
def laws_wNums.l0:Nat→List Int→List Int→Int→Int→Option (Bool)
 |0,_,_,_,_=>none
 |k+1,x0,x1,x12,x13=>if x13<x12 then (if 0≤x13 then (if x13<(x0.length:Int) then (if x13<(x1.length:Int) then (if (rd x0 x13)=(rd x1 x13) then (laws_wNums.l0 k x0 x1 x12 (wrap64 (x13+1))) else (some false)) else (none)) else (none)) else (none)) else (some true)
def laws_wNums.f (k:Nat)(l0:List Int)(l1:List Int):Option (Bool):=if (l0.length:Int)=(l1.length:Int) then (laws_wNums.l0 k l0 l1 (l0.length:Int) 0) else (some false)
set_option maxHeartbeats 8000000 in
set_option maxRecDepth 100000 in
theorem laws_wNums.calls (k:Nat) (A0:Option Addr) (c0:Nat) (l0:List Int) (A1:Option Addr) (c1:Nat) (l1:List Int) (r:Bool) (w:World) (hr0:Kd.C (Kd.int .i64) w A0 l0.length l0) (hc0:l0.length≤c0) (hr1:Kd.C (Kd.int .i64) w A1 l1.length l1) (hc1:l1.length≤c1) (h:laws_wNums.f k l0 l1=some r):
  Calls Try.prog 29 #[.slice A0 l0.length c0,.slice A1 l1.length c1] w fun e w'=>e=.returned (.bool r)∧Drawn0 w w':=by
 have HR0:=Aside0.mk hr0;have HC0:=Aside0.mk hc0;clear hr0 hc0;have HR1:=Aside0.mk hr1;have HC1:=Aside0.mk hc1;clear hr1 hc1;have H:(if (l0.length:Int)=(l1.length:Int) then (laws_wNums.l0 k l0 l1 (l0.length:Int) 0) else (some false))=some r:=h;clear h
 by_cases c3:(l0.length:Int)=(l1.length:Int)
 ·rw[if_pos c3] at H
  have c3b0:((l0.length:Int)==(l1.length:Int))=true:=beq_iff_eq.mpr c3;have c3b1:((l0.length:Int) !=(l1.length:Int))=false:=bne_eq_false_iff_eq.mpr c3
  have c3b2:(l0.length==l1.length)=true:=by first|simpa using c3|(simp at c3 ⊢;omega)
  clear c3;have H':=Aside0.mk H;clear H
  go_enter Try.func29,Try.ntmps29
  go_wp2
  repeat (go_quiet (fail);try go_wp2)
  go_loopg [13] k (fun kq v13 w'=>∃(x13_1:Int),v13=.int .i64 x13_1∧Aside0 (laws_wNums.l0 kq l0 l1 (l0.length:Int) x13_1=some r)∧Aside0 (kq≤k)∧Drawn0 w w')
  case atStart=>exact⟨(0),(by first|rfl|(simp;done)|(simp[*];done)),H',⟨Nat.le_refl _⟩,by repeat (first|exact Drawn0.refl _|apply Drawn0.step)⟩
  case round=>
   clear H'
   try clear c1
   try clear c2
   try clear p2
   try clear c3
   try clear c3b0
   try clear c3b1
   try clear c3b2
   obtain⟨x13_1,rfl,HA,HK1,⟨m1,rfl⟩⟩:=hrel
   cases gk with
   |zero=>exact absurd HA.out (by simp[laws_wNums.l0])
   |succ k1=>
    have H:=HA.out;clear HA;simp only[laws_wNums.l0] at H
    by_cases c4:x13_1<(l0.length:Int)
    ·rw[if_pos c4] at H
     have c4b0:decide (x13_1<(l0.length:Int))=true:=decide_eq_true c4;clear c4
     by_cases c5:0≤x13_1
     ·rw[if_pos c5] at H
      have c5b0:decide (0≤x13_1)=true:=decide_eq_true c5;clear c5
      by_cases c6:x13_1<(l0.length:Int)
      ·rw[if_pos c6] at H
       have c6b0:decide (x13_1<(l0.length:Int))=true:=decide_eq_true c6;clear c6
       by_cases c7:x13_1<(l1.length:Int)
       ·rw[if_pos c7] at H
        have c7b0:decide (x13_1<(l1.length:Int))=true:=decide_eq_true c7;clear c7
        by_cases c8:(rd l0 x13_1)=(rd l1 x13_1)
        ·rw[if_pos c8] at H
         have c8b0:((rd l0 x13_1)==(rd l1 x13_1))=true:=beq_iff_eq.mpr c8;have c8b1:((rd l0 x13_1) !=(rd l1 x13_1))=false:=bne_eq_false_iff_eq.mpr c8;clear c8;have H':=Aside0.mk H;clear H;have p143:0≤(x13_1:Int):=of_decide_eq_true (by first|(with_reducible assumption)|assumption);have q143:x13_1<(l0.length:Int):=of_decide_eq_true (by first|(with_reducible assumption)|assumption);obtain⟨ad143,e143,hx143_0⟩:=Kd.at_int HR0.out x13_1 p143 q143
         cases e143
         replace p143:=eq_true p143;replace q143:=eq_true q143;have p144:0≤(x13_1:Int):=of_decide_eq_true (by first|(with_reducible assumption)|assumption);have q144:x13_1<(l1.length:Int):=of_decide_eq_true (by first|(with_reducible assumption)|assumption);obtain⟨ad144,e144,hx144_0⟩:=Kd.at_int HR1.out x13_1 p144 q144
         cases e144
         replace p144:=eq_true p144;replace q144:=eq_true q144
         go_wp2
         repeat (go_quiet (fail);try go_wp2)
         go_roundg k1
         case measure=>have:=HK1.out;omega
         case rel=>exact⟨(wrap64 (x13_1+1)),(by first|rfl|(simp;done)|(simp[*];done)),H',⟨by have:=HK1.out;omega⟩,by repeat (first|exact Drawn0.refl _|apply Drawn0.step)⟩
        ·rw[if_neg c8] at H
         have c8b0:((rd l0 x13_1)==(rd l1 x13_1))=false:=beq_eq_false_iff_ne.mpr c8;have c8b1:((rd l0 x13_1) !=(rd l1 x13_1))=true:=bne_iff_ne.mpr c8;obtain rfl:=Option.some.inj H;have p143:0≤(x13_1:Int):=of_decide_eq_true (by first|(with_reducible assumption)|assumption);have q143:x13_1<(l0.length:Int):=of_decide_eq_true (by first|(with_reducible assumption)|assumption);obtain⟨ad143,e143,hx143_0⟩:=Kd.at_int HR0.out x13_1 p143 q143
         cases e143
         replace p143:=eq_true p143;replace q143:=eq_true q143;have p144:0≤(x13_1:Int):=of_decide_eq_true (by first|(with_reducible assumption)|assumption);have q144:x13_1<(l1.length:Int):=of_decide_eq_true (by first|(with_reducible assumption)|assumption);obtain⟨ad144,e144,hx144_0⟩:=Kd.at_int HR1.out x13_1 p144 q144
         cases e144
         replace p144:=eq_true p144;replace q144:=eq_true q144
         go_wp2
         repeat (go_quiet (fail);try go_wp2)
         go_ret
         exact⟨by first|rfl|(simp;done)|(simp[*];done),by repeat (first|exact Drawn0.refl _|apply Drawn0.step)⟩
       ·rw[if_neg c7] at H
        exact absurd H (by simp)
      ·rw[if_neg c6] at H
       exact absurd H (by simp)
     ·rw[if_neg c5] at H
      exact absurd H (by simp)
    ·rw[if_neg c4] at H
     have c4b0:decide (x13_1<(l0.length:Int))=false:=decide_eq_false c4;clear c4;obtain rfl:=Option.some.inj H
     go_wp2
     repeat (go_quiet (fail);try go_wp2)
     go_ret
     exact⟨by first|rfl|(simp;done)|(simp[*];done),by repeat (first|exact Drawn0.refl _|apply Drawn0.step)⟩
 ·rw[if_neg c3] at H
  have c3b0:((l0.length:Int)==(l1.length:Int))=false:=beq_eq_false_iff_ne.mpr c3;have c3b1:((l0.length:Int) !=(l1.length:Int))=true:=bne_iff_ne.mpr c3
  have c3b2:(l0.length==l1.length)=false:=by first|simpa using c3|(simp at c3 ⊢;omega)
  obtain rfl:=Option.some.inj H
  go_enter Try.func29,Try.ntmps29
  go_wp2
  repeat (go_quiet (fail);try go_wp2)
  go_ret
  exact⟨by first|rfl|(simp;done)|(simp[*];done),by repeat (first|exact Drawn0.refl _|apply Drawn0.step)⟩
def laws_wSays.l0:Nat→List Int→List (S72)→Int→Int→Option (List Int)
 |0,_,_,_,_=>none
 |k+1,x3,x7,x8,x9=>if x9<x8 then (if 0≤x9 then (if x9<(x7.length:Int) then (if ((rd_T72 x7 x9).f0)=2 then (if x3.length<17592186044416 then (laws_wSays.l0 k (x3++[(rd_T72 x7 x9).f3]) x7 x8 (wrap64 (x9+1))) else (none)) else (laws_wSays.l0 k x3 x7 x8 (wrap64 (x9+1)))) else (none)) else (none)) else (some x3)
def laws_wSays.f (k:Nat)(a0_0:Int)(l0_1:List (S72))(a0_2:Int)(a0_3:Int)(l0_4:List Int):Option (List Int):=laws_wSays.l0 k ([]:List Int) l0_1 (l0_1.length:Int) 0
set_option maxHeartbeats 8000000 in
set_option maxRecDepth 100000 in
theorem laws_wSays.calls (k:Nat) (a0_0:Int) (A0_1:Option Addr) (c0_1:Nat) (l0_1:List (S72)) (a0_2:Int) (a0_3:Int) (A0_4:Option Addr) (c0_4:Nat) (l0_4:List Int) (r:List Int) (w:World) (hr0_1:Kd.C k72 w A0_1 l0_1.length l0_1) (hc0_1:l0_1.length≤c0_1) (hr0_4:Kd.C (Kd.int .i64) w A0_4 l0_4.length l0_4) (hc0_4:l0_4.length≤c0_4) (h:laws_wSays.f k a0_0 l0_1 a0_2 a0_3 l0_4=some r):
  Calls Try.prog 30 #[.agg #[.int .i64 a0_0,.slice A0_1 l0_1.length c0_1,.int .i64 a0_2,.int .i64 a0_3,.slice A0_4 l0_4.length c0_4]] w fun e w'=>∃v0_:Value,e=.returned (v0_)∧Kd.R (Kd.int .i64) 2 w' w.heap.size (fun _=>True) v0_ r∧Below w.heap.size w w':=by
 have hu53:=Try.underlying53;have hu72:=Try.underlying72;have HR0_1:=Aside0.mk hr0_1;have HC0_1:=Aside0.mk hc0_1;clear hr0_1 hc0_1;have HR0_4:=Aside0.mk hr0_4;have HC0_4:=Aside0.mk hc0_4;clear hr0_4 hc0_4;have HB:=Aside0.mk (Below.refl w.heap.size w);have H:(laws_wSays.l0 k ([]:List Int) l0_1 (l0_1.length:Int) 0)=some r:=h;clear h;have H':=Aside0.mk H;clear H
 go_enter Try.func30,Try.ntmps30
 go_wp2_with (first|((with_reducible refine gate_dst (N:=1) rfl ?_);refine box_event ?hg (N:=1) ?hd (cs:=#[.int .i64 a0_0,.slice A0_1 l0_1.length c0_1,.int .i64 a0_2,.int .i64 a0_3,.slice A0_4 l0_4.length c0_4]) (t:=53) ?hr ?_;(case hd=>rfl);(case hg=>rfl);(case hr=>first|(go_simp;done)|(go_simp;rfl));intro gb145 hg w2 hbox hb;have n0_:=Aside0.mk (below_step (by repeat (first|(with_reducible first|exact HB.out|apply below_alloc|apply pw_below_drewN|apply below_drew1)|exact HB.out)) hb);have n1_:=Aside0.mk (hbox);have n2_:=Aside0.mk ((by rw[hg];exact (below_size (by repeat (first|(with_reducible first|exact HB.out|apply below_alloc|apply pw_below_drewN|apply below_drew1)|exact HB.out))):w.heap.size≤gb145));have n3_:=Aside0.mk ((by rw[hg];exact (below_size (by repeat (first|(with_reducible first|exact HB.out|apply below_alloc|apply pw_below_drewN|apply below_drew1)|exact HB.out))):w.heap.size≤gb145));clear HB;have HB:=n0_;have BK145:=n1_;have GW145:=n2_;have GE145:=n3_;clear n0_ n1_ n2_ n3_;clear hb hbox hg;have hcz3_0:w2.cell? ⟨gb145,0,none⟩=some (.int .i64 a0_0):=(blk_cell BK145.out 0).trans rfl;have hcz3_1:w2.cell? ⟨gb145,1,none⟩=some (.slice A0_1 l0_1.length c0_1):=(blk_cell BK145.out 1).trans rfl;have hcz3_2:w2.cell? ⟨gb145,2,none⟩=some (.int .i64 a0_2):=(blk_cell BK145.out 2).trans rfl;have hcz3_3:w2.cell? ⟨gb145,3,none⟩=some (.int .i64 a0_3):=(blk_cell BK145.out 3).trans rfl;have hcz3_4:w2.cell? ⟨gb145,4,none⟩=some (.slice A0_4 l0_4.length c0_4):=(blk_cell BK145.out 4).trans rfl;have hfz3_0:=blk_frozen BK145.out 0;have hfz3_1:=blk_frozen BK145.out 1;have hfz3_2:=blk_frozen BK145.out 2;have hfz3_3:=blk_frozen BK145.out 3;have hfz3_4:=blk_frozen BK145.out 4))
 go_loopg [3,9] k (fun kq v3 v9 w'=>∃(x3_1:List Int) (x9_1:Int),v9=.int .i64 x9_1∧Aside0 (laws_wSays.l0 kq x3_1 l0_1 (l0_1.length:Int) x9_1=some r)∧Aside0 (kq≤k)∧Aside0 (Kd.R (Kd.int .i64) 2 w' w.heap.size (fun _=>True) v3 x3_1)∧Aside0 (w'.heap[gb145]?=some (.cells #[.int .i64 a0_0,(.slice A0_1 l0_1.length c0_1),.int .i64 a0_2,.int .i64 a0_3,(.slice A0_4 l0_4.length c0_4)] 53 (0,0)))∧Aside0 (Below w.heap.size w w'))
 case atStart=>exact⟨(([]:List Int)),(0),(by first|rfl|(simp;done)|(simp[*];done)),H',⟨Nat.le_refl _⟩,⟨by first|exact Kd.R_nil _ _ _ _ _|exact Kd.N_nil _ _ _ _ _|exact Kd.V_nil _ _ _ _ _|exact Kd.Q_nil _ _ _ _ _|exact Kd.S_nil _ _ _ _ _⟩,⟨by (with_reducible repeat (first|refine blk_drewN ?_ _|refine blk_drew ?_|refine blk_alloc ?_ _));exact BK145.out⟩,⟨by repeat (first|(with_reducible first|exact HB.out|apply below_alloc|apply pw_below_drewN|apply below_drew1|refine below_set ?_ GE145.out)|exact HB.out)⟩⟩
 case round=>
  clear H'
  try clear p2
  try clear c3
  try clear hcz3_0
  try clear hcz3_1
  try clear hcz3_2
  try clear hcz3_3
  try clear hcz3_4
  try clear hfz3_0
  try clear hfz3_1
  try clear hfz3_2
  try clear hfz3_3
  try clear hfz3_4
  obtain⟨x3_1,x9_1,rfl,HA,HK1,HO_3,BK145,HB⟩:=hrel
  cases gk with
  |zero=>exact absurd HA.out (by simp[laws_wSays.l0])
  |succ k1=>
   have H:=HA.out;clear HA;simp only[laws_wSays.l0] at H
   by_cases c4:x9_1<(l0_1.length:Int)
   ·rw[if_pos c4] at H
    have c4b0:decide (x9_1<(l0_1.length:Int))=true:=decide_eq_true c4;clear c4
    by_cases c5:0≤x9_1
    ·rw[if_pos c5] at H
     have c5b0:decide (0≤x9_1)=true:=decide_eq_true c5;clear c5
     by_cases c6:x9_1<(l0_1.length:Int)
     ·rw[if_pos c6] at H
      have c6b0:decide (x9_1<(l0_1.length:Int))=true:=decide_eq_true c6;clear c6
      by_cases c7:((rd_T72 l0_1 x9_1).f0)=2
      ·rw[if_pos c7] at H
       have c7b0:(((rd_T72 l0_1 x9_1).f0)==2)=true:=beq_iff_eq.mpr c7;have c7b1:(((rd_T72 l0_1 x9_1).f0) !=2)=false:=bne_eq_false_iff_eq.mpr c7;clear c7
       by_cases c8:x3_1.length<17592186044416
       ·rw[if_pos c8] at H
        have LMc8:=Aside0.mk c8;clear c8;obtain⟨y148,hy148⟩:∃y_:List Int,y_=(x3_1++[(rd_T72 l0_1 x9_1).f3]):=⟨_,rfl⟩
        replace H:(laws_wSays.l0 k1 y148 l0_1 (l0_1.length:Int) (wrap64 (x9_1+1)))=some r:=by first|(rw[hy148];with_reducible exact H)|(have H2_:=(Option.bind_some _ _).symm.trans H;rw[hy148];with_reducible exact H2_)|(have H2_:=(Option.bind_some _ _).symm.trans H;with_reducible exact H2_)|with_reducible exact H|(rw[hy148];exact H)|exact H
        have Ny148:=Aside0.mk hy148;clear hy148;have H':=Aside0.mk H;clear H;have p146:0≤(x9_1:Int):=of_decide_eq_true (by first|(with_reducible assumption)|assumption);have q146:x9_1<(l0_1.length:Int):=of_decide_eq_true (by first|(with_reducible assumption)|assumption);obtain⟨ad146,e146,hx146_0,hx146_1,hx146_2,hx146_3⟩:=at_T72 HR0_1.out x9_1 p146 q146
        cases e146
        replace hx146_0:=(HB.out.cell (World.block_lt_of_cell? w _ hx146_0)).trans hx146_0;replace hx146_1:=(HB.out.cell (World.block_lt_of_cell? w _ hx146_1)).trans hx146_1;replace hx146_2:=(HB.out.cell (World.block_lt_of_cell? w _ hx146_2)).trans hx146_2;replace hx146_3:=(HB.out.cell (World.block_lt_of_cell? w _ hx146_3)).trans hx146_3;replace p146:=eq_true p146;replace q146:=eq_true q146
        go_wp2_with (first|((with_reducible refine gate_dst (N:=5) rfl ?_);refine box_event ?hg (N:=5) ?hd (cs:=#[.int .i64 0,.int .i64 0,.int .i64 0,.int .i64 0]) (t:=72) ?hr ?_;(case hd=>rfl);(case hg=>rfl);(case hr=>first|(go_simp;done)|(go_simp;rfl));intro gb147 hg w9 hbox hb;have n0_:=Aside0.mk (Kd.R_below (by (with_reducible repeat (first|apply Kd.R_alloc|apply Kd.R_drewN|apply Kd.R_drew));exact HO_3.out) hb);have n1_:=Aside0.mk (blk_below (g:=gb145) (o:=.cells #[.int .i64 a0_0,.slice (some ad146) l0_1.length c0_1,.int .i64 a0_2,.int .i64 a0_3,.slice A0_4 l0_4.length c0_4] 53 (0,0)) (by (with_reducible repeat (first|refine blk_drewN ?_ _|refine blk_drew ?_|refine blk_alloc ?_ _));exact BK145.out) hb);have n2_:=Aside0.mk (below_step (by repeat (first|(with_reducible first|exact HB.out|apply below_alloc|apply pw_below_drewN|apply below_drew1|refine below_set ?_ GE145.out)|exact HB.out)) hb);have n3_:=Aside0.mk (hbox);have n4_:=Aside0.mk ((by rw[hg];exact (below_size (by repeat (first|(with_reducible first|exact HB.out|apply below_alloc|apply pw_below_drewN|apply below_drew1|refine below_set ?_ GE145.out)|exact HB.out))):w.heap.size≤gb147));have n5_:=Aside0.mk ((by rw[hg];exact (below_size (by repeat (first|(with_reducible first|exact HB.out|apply below_alloc|apply pw_below_drewN|apply below_drew1|refine below_set ?_ GE145.out)|exact HB.out))):w.heap.size≤gb147));have n6_:=Aside0.mk ((by rw[hg];exact Nat.ne_of_lt (blk_lt (g:=gb145) (o:=.cells #[.int .i64 a0_0,.slice (some ad146) l0_1.length c0_1,.int .i64 a0_2,.int .i64 a0_3,.slice A0_4 l0_4.length c0_4] 53 (0,0)) (by (with_reducible repeat (first|refine blk_drewN ?_ _|refine blk_drew ?_|refine blk_alloc ?_ _));exact BK145.out)):gb145≠gb147));have n7_:=Aside0.mk ((by rw[hg];exact Nat.ne_of_gt (blk_lt (g:=gb145) (o:=.cells #[.int .i64 a0_0,.slice (some ad146) l0_1.length c0_1,.int .i64 a0_2,.int .i64 a0_3,.slice A0_4 l0_4.length c0_4] 53 (0,0)) (by (with_reducible repeat (first|refine blk_drewN ?_ _|refine blk_drew ?_|refine blk_alloc ?_ _));exact BK145.out)):gb147≠gb145));clear HO_3;clear BK145;clear HB;have HO_3:=n0_;have BK145:=n1_;have HB:=n2_;have BK147:=n3_;have GW147:=n4_;have GE147:=n5_;have NB145_147:=n6_;have NB147_145:=n7_;clear n0_ n1_ n2_ n3_ n4_ n5_ n6_ n7_;clear hb hbox hg;have hnb10:=NB147_145.out;have hnc10:=NB145_147.out;have hcz11_0:w9.cell? ⟨gb147,0,none⟩=some (.int .i64 0):=(blk_cell BK147.out 0).trans rfl;have hcz11_1:w9.cell? ⟨gb147,1,none⟩=some (.int .i64 0):=(blk_cell BK147.out 1).trans rfl;have hcz11_2:w9.cell? ⟨gb147,2,none⟩=some (.int .i64 0):=(blk_cell BK147.out 2).trans rfl;have hcz11_3:w9.cell? ⟨gb147,3,none⟩=some (.int .i64 0):=(blk_cell BK147.out 3).trans rfl;have hfz11_0:=blk_frozen BK147.out 0;have hfz11_1:=blk_frozen BK147.out 1;have hfz11_2:=blk_frozen BK147.out 2;have hfz11_3:=blk_frozen BK147.out 3)|((with_reducible refine gate_builtin (b:=.append) (xs:=#[.tmp 16,.tmp 19]) rfl ?_);at_builtin;refine Kd.R_append (Kd.int .i64) (w0:=w) w.heap.size rfl (.tmp 16) (.tmp 19) 56 2 (.int .i64 0) 8 rfl Try.underlying56 info2 rfl (by decide) (by omega) u3 x3_1 ((rd_T72 l0_1 x9_1).f3) [.int .i64 ((rd_T72 l0_1 x9_1).f3)] (fun _=>True) (fun _=>False) rfl (by first|(go_simp;done)|(go_simp;rfl)) ?aP (fun _ hk=>hk.elim) ?aF ?aO ?aB ?aS ?aL ?_;(case aP=>exact rfl);(case aB=>exact (by repeat (first|(with_reducible first|exact HB.out|apply below_alloc|apply pw_below_drewN|apply below_drew1|refine below_set ?_ GE145.out|refine below_set ?_ GE147.out)|exact HB.out)));(case aF=>exact (fun _ _=>trivial));(case aO=>exact (by (with_reducible repeat (first|apply Kd.R_alloc|apply Kd.R_drewN|apply Kd.R_drew));exact Kd.R_mono (Kd.R_far (p:=⟨gb147,3,none⟩) (Kd.R_far (p:=⟨gb147,2,none⟩) (Kd.R_far (p:=⟨gb147,1,none⟩) (Kd.R_far (p:=⟨gb147,0,none⟩) (Kd.R_types HO_3.out BK147.out (by decide)) (fun _ hk=>hk.2) (.int .i64 ((rd_T72 l0_1 x9_1).f0))) (fun _ hk=>hk.2) (.int .i64 ((rd_T72 l0_1 x9_1).f1))) (fun _ hk=>hk.2) (.int .i64 ((rd_T72 l0_1 x9_1).f2))) (fun _ hk=>hk.2) (.int .i64 ((rd_T72 l0_1 x9_1).f3))) (fun _ hk=>trivial)));(case aS=>exact (below_size (by repeat (first|(with_reducible first|exact HB.out|apply below_alloc|apply pw_below_drewN|apply below_drew1|refine below_set ?_ GE145.out|refine below_set ?_ GE147.out)|exact HB.out))));(case aL=>have:=LMc8.out;omega);intro v149 w12 ho hb hg hat;rw[←Ny148.out] at ho;have n0_:=Aside0.mk (blk_grown (g:=gb145) (o:=.cells #[.int .i64 a0_0,.slice (some ad146) l0_1.length c0_1,.int .i64 a0_2,.int .i64 a0_3,.slice A0_4 l0_4.length c0_4] 53 (0,0)) (by (with_reducible repeat (first|refine blk_drewN ?_ _|refine blk_drew ?_|refine blk_alloc ?_ _));refine blk_far ?_ NB145_147.out _;(with_reducible repeat (first|refine blk_drewN ?_ _|refine blk_drew ?_|refine blk_alloc ?_ _));refine blk_far ?_ NB145_147.out _;(with_reducible repeat (first|refine blk_drewN ?_ _|refine blk_drew ?_|refine blk_alloc ?_ _));refine blk_far ?_ NB145_147.out _;(with_reducible repeat (first|refine blk_drewN ?_ _|refine blk_drew ?_|refine blk_alloc ?_ _));refine blk_far ?_ NB145_147.out _;(with_reducible repeat (first|refine blk_drewN ?_ _|refine blk_drew ?_|refine blk_alloc ?_ _));exact BK145.out) hg (Kd.R_ne HO_3.out BK145.out (by decide)));have n1_:=Aside0.mk (blk_grown (g:=gb147) (o:=.cells #[.int .i64 ((rd_T72 l0_1 x9_1).f0),.int .i64 ((rd_T72 l0_1 x9_1).f1),.int .i64 ((rd_T72 l0_1 x9_1).f2),.int .i64 ((rd_T72 l0_1 x9_1).f3)] 72 (0,0)) (by (with_reducible repeat (first|refine blk_drewN ?_ _|refine blk_drew ?_|refine blk_alloc ?_ _));refine blk_put (cs:=#[.int .i64 ((rd_T72 l0_1 x9_1).f0),.int .i64 ((rd_T72 l0_1 x9_1).f1),.int .i64 ((rd_T72 l0_1 x9_1).f2),.int .i64 0]) ?_ 3 _ rfl;(with_reducible repeat (first|refine blk_drewN ?_ _|refine blk_drew ?_|refine blk_alloc ?_ _));refine blk_put (cs:=#[.int .i64 ((rd_T72 l0_1 x9_1).f0),.int .i64 ((rd_T72 l0_1 x9_1).f1),.int .i64 0,.int .i64 0]) ?_ 2 _ rfl;(with_reducible repeat (first|refine blk_drewN ?_ _|refine blk_drew ?_|refine blk_alloc ?_ _));refine blk_put (cs:=#[.int .i64 ((rd_T72 l0_1 x9_1).f0),.int .i64 0,.int .i64 0,.int .i64 0]) ?_ 1 _ rfl;(with_reducible repeat (first|refine blk_drewN ?_ _|refine blk_drew ?_|refine blk_alloc ?_ _));refine blk_put (cs:=#[.int .i64 0,.int .i64 0,.int .i64 0,.int .i64 0]) ?_ 0 _ rfl;(with_reducible repeat (first|refine blk_drewN ?_ _|refine blk_drew ?_|refine blk_alloc ?_ _));exact BK147.out) hg (Kd.R_ne HO_3.out BK147.out (by decide)));have n2_:=Aside0.mk (hb);have n3_:=Aside0.mk (ho);clear BK145;clear BK147;clear HB;clear HO_3;have BK145:=n0_;have BK147:=n1_;have HB:=n2_;have HO150:=n3_;clear n0_ n1_ n2_ n3_;clear ho hb hg hat))
        go_roundg k1
        case measure=>have:=HK1.out;omega
        case rel=>exact⟨(y148),(wrap64 (x9_1+1)),(by first|rfl|(simp;done)|(simp[*];done)),H',⟨by have:=HK1.out;omega⟩,⟨by (with_reducible repeat (first|apply Kd.R_alloc|apply Kd.R_drewN|apply Kd.R_drew));exact HO150.out⟩,⟨by (with_reducible repeat (first|refine blk_drewN ?_ _|refine blk_drew ?_|refine blk_alloc ?_ _));exact BK145.out⟩,⟨by repeat (first|(with_reducible first|exact HB.out|apply below_alloc|apply pw_below_drewN|apply below_drew1|refine below_set ?_ GE145.out|refine below_set ?_ GE147.out)|exact HB.out)⟩⟩
       ·rw[if_neg c8] at H
        exact absurd H (by simp)
      ·rw[if_neg c7] at H
       have c7b0:(((rd_T72 l0_1 x9_1).f0)==2)=false:=beq_eq_false_iff_ne.mpr c7;have c7b1:(((rd_T72 l0_1 x9_1).f0) !=2)=true:=bne_iff_ne.mpr c7;have H':=Aside0.mk H;clear H;have p146:0≤(x9_1:Int):=of_decide_eq_true (by first|(with_reducible assumption)|assumption);have q146:x9_1<(l0_1.length:Int):=of_decide_eq_true (by first|(with_reducible assumption)|assumption);obtain⟨ad146,e146,hx146_0,hx146_1,hx146_2,hx146_3⟩:=at_T72 HR0_1.out x9_1 p146 q146
       cases e146
       replace hx146_0:=(HB.out.cell (World.block_lt_of_cell? w _ hx146_0)).trans hx146_0;replace hx146_1:=(HB.out.cell (World.block_lt_of_cell? w _ hx146_1)).trans hx146_1;replace hx146_2:=(HB.out.cell (World.block_lt_of_cell? w _ hx146_2)).trans hx146_2;replace hx146_3:=(HB.out.cell (World.block_lt_of_cell? w _ hx146_3)).trans hx146_3;replace p146:=eq_true p146;replace q146:=eq_true q146
       go_wp2_with (first|((with_reducible refine gate_dst (N:=5) rfl ?_);refine box_event ?hg (N:=5) ?hd (cs:=#[.int .i64 0,.int .i64 0,.int .i64 0,.int .i64 0]) (t:=72) ?hr ?_;(case hd=>rfl);(case hg=>rfl);(case hr=>first|(go_simp;done)|(go_simp;rfl));intro gb147 hg w13 hbox hb;have n0_:=Aside0.mk (Kd.R_below (by (with_reducible repeat (first|apply Kd.R_alloc|apply Kd.R_drewN|apply Kd.R_drew));exact HO_3.out) hb);have n1_:=Aside0.mk (blk_below (g:=gb145) (o:=.cells #[.int .i64 a0_0,.slice (some ad146) l0_1.length c0_1,.int .i64 a0_2,.int .i64 a0_3,.slice A0_4 l0_4.length c0_4] 53 (0,0)) (by (with_reducible repeat (first|refine blk_drewN ?_ _|refine blk_drew ?_|refine blk_alloc ?_ _));exact BK145.out) hb);have n2_:=Aside0.mk (below_step (by repeat (first|(with_reducible first|exact HB.out|apply below_alloc|apply pw_below_drewN|apply below_drew1|refine below_set ?_ GE145.out)|exact HB.out)) hb);have n3_:=Aside0.mk (hbox);have n4_:=Aside0.mk ((by rw[hg];exact (below_size (by repeat (first|(with_reducible first|exact HB.out|apply below_alloc|apply pw_below_drewN|apply below_drew1|refine below_set ?_ GE145.out)|exact HB.out))):w.heap.size≤gb147));have n5_:=Aside0.mk ((by rw[hg];exact (below_size (by repeat (first|(with_reducible first|exact HB.out|apply below_alloc|apply pw_below_drewN|apply below_drew1|refine below_set ?_ GE145.out)|exact HB.out))):w.heap.size≤gb147));have n6_:=Aside0.mk ((by rw[hg];exact Nat.ne_of_lt (blk_lt (g:=gb145) (o:=.cells #[.int .i64 a0_0,.slice (some ad146) l0_1.length c0_1,.int .i64 a0_2,.int .i64 a0_3,.slice A0_4 l0_4.length c0_4] 53 (0,0)) (by (with_reducible repeat (first|refine blk_drewN ?_ _|refine blk_drew ?_|refine blk_alloc ?_ _));exact BK145.out)):gb145≠gb147));have n7_:=Aside0.mk ((by rw[hg];exact Nat.ne_of_gt (blk_lt (g:=gb145) (o:=.cells #[.int .i64 a0_0,.slice (some ad146) l0_1.length c0_1,.int .i64 a0_2,.int .i64 a0_3,.slice A0_4 l0_4.length c0_4] 53 (0,0)) (by (with_reducible repeat (first|refine blk_drewN ?_ _|refine blk_drew ?_|refine blk_alloc ?_ _));exact BK145.out)):gb147≠gb145));clear HO_3;clear BK145;clear HB;have HO_3:=n0_;have BK145:=n1_;have HB:=n2_;have BK147:=n3_;have GW147:=n4_;have GE147:=n5_;have NB145_147:=n6_;have NB147_145:=n7_;clear n0_ n1_ n2_ n3_ n4_ n5_ n6_ n7_;clear hb hbox hg;have hnb14:=NB147_145.out;have hnc14:=NB145_147.out;have hcz15_0:w13.cell? ⟨gb147,0,none⟩=some (.int .i64 0):=(blk_cell BK147.out 0).trans rfl;have hcz15_1:w13.cell? ⟨gb147,1,none⟩=some (.int .i64 0):=(blk_cell BK147.out 1).trans rfl;have hcz15_2:w13.cell? ⟨gb147,2,none⟩=some (.int .i64 0):=(blk_cell BK147.out 2).trans rfl;have hcz15_3:w13.cell? ⟨gb147,3,none⟩=some (.int .i64 0):=(blk_cell BK147.out 3).trans rfl;have hfz15_0:=blk_frozen BK147.out 0;have hfz15_1:=blk_frozen BK147.out 1;have hfz15_2:=blk_frozen BK147.out 2;have hfz15_3:=blk_frozen BK147.out 3))
       go_roundg k1
       case measure=>have:=HK1.out;omega
       case rel=>exact⟨(x3_1),(wrap64 (x9_1+1)),(by first|rfl|(simp;done)|(simp[*];done)),H',⟨by have:=HK1.out;omega⟩,⟨by (with_reducible repeat (first|apply Kd.R_alloc|apply Kd.R_drewN|apply Kd.R_drew));exact Kd.R_mono (Kd.R_far (p:=⟨gb147,3,none⟩) (Kd.R_far (p:=⟨gb147,2,none⟩) (Kd.R_far (p:=⟨gb147,1,none⟩) (Kd.R_far (p:=⟨gb147,0,none⟩) (Kd.R_types HO_3.out BK147.out (by decide)) (fun _ hk=>hk.2) (.int .i64 ((rd_T72 l0_1 x9_1).f0))) (fun _ hk=>hk.2) (.int .i64 ((rd_T72 l0_1 x9_1).f1))) (fun _ hk=>hk.2) (.int .i64 ((rd_T72 l0_1 x9_1).f2))) (fun _ hk=>hk.2) (.int .i64 ((rd_T72 l0_1 x9_1).f3))) (fun _ hk=>trivial)⟩,⟨by (with_reducible repeat (first|refine blk_drewN ?_ _|refine blk_drew ?_|refine blk_alloc ?_ _));refine blk_far ?_ NB145_147.out _;(with_reducible repeat (first|refine blk_drewN ?_ _|refine blk_drew ?_|refine blk_alloc ?_ _));refine blk_far ?_ NB145_147.out _;(with_reducible repeat (first|refine blk_drewN ?_ _|refine blk_drew ?_|refine blk_alloc ?_ _));refine blk_far ?_ NB145_147.out _;(with_reducible repeat (first|refine blk_drewN ?_ _|refine blk_drew ?_|refine blk_alloc ?_ _));refine blk_far ?_ NB145_147.out _;(with_reducible repeat (first|refine blk_drewN ?_ _|refine blk_drew ?_|refine blk_alloc ?_ _));exact BK145.out⟩,⟨by repeat (first|(with_reducible first|exact HB.out|apply below_alloc|apply pw_below_drewN|apply below_drew1|refine below_set ?_ GE145.out|refine below_set ?_ GE147.out)|exact HB.out)⟩⟩
     ·rw[if_neg c6] at H
      exact absurd H (by simp)
    ·rw[if_neg c5] at H
     exact absurd H (by simp)
   ·rw[if_neg c4] at H
    have c4b0:decide (x9_1<(l0_1.length:Int))=false:=decide_eq_false c4;clear c4;obtain rfl:=Option.some.inj H
    go_wp2
    go_ret
    exact⟨_,by first|rfl|(simp[errW_none,errW_some]<;>rfl)|(simp[*,errW_none,errW_some]<;>rfl),by (with_reducible repeat (first|apply Kd.R_alloc|apply Kd.R_drewN|apply Kd.R_drew));exact HO_3.out,by repeat (first|(with_reducible first|exact HB.out|apply below_alloc|apply pw_below_drewN|apply below_drew1|refine below_set ?_ GE145.out)|exact HB.out)⟩
end Go.Proofs.Ytejjedooecephaa.PFnSleepers
end
