/-
  Texts joined by a program (shake.py), without what the claim does not use; printed walks among them (print.sh), and own ones.
-/
import Derived.Test.YtejjedooecephaaPipe3
import Derived.Test.YtejjedooecephaaPipe4
section
namespace Go.Proofs.Ytejjedooecephaa.PFnPipe
open Go.RowKit Go.Proofs.YtejjedooecephaaW.PrintWords Go.Proofs.YtejjedooecephaaW.PrintLast Go.Proofs.YtejjedooecephaaW.PrintMore
attribute [local go_sem] max2_int min2_int max_two min_two max_three min_three max_four min_four -- for this text's walks alone
set_option linter.unusedVariables false
set_option linter.unusedSimpArgs false
def laws_wByte.f (l0:List Int)(a1:Int):Option (Int):=if (l0.length:Int)=0 then (some 0) else (if 0≤(Int.tmod a1 (l0.length:Int)) then (if (Int.tmod a1 (l0.length:Int))<(l0.length:Int) then (some (wrap64 (rd l0 (Int.tmod a1 (l0.length:Int))))) else (none)) else (none))
set_option maxHeartbeats 8000000 in
set_option maxRecDepth 100000 in
theorem laws_wByte.calls (A0:Option Addr) (c0:Nat) (l0:List Int) (a1:Int) (r:Int) (w:World) (hr0:Kd.C (Kd.int .u8) w A0 l0.length l0) (hc0:l0.length≤c0) (h:laws_wByte.f l0 a1=some r):
  Calls Try.prog 26 #[.slice A0 l0.length c0,.int .i64 a1] w fun e w'=>e=.returned (.int .i64 r)∧Drawn0 w w':=by
 have HR0:=Aside0.mk hr0;have HC0:=Aside0.mk hc0;clear hr0 hc0;have H:(if (l0.length:Int)=0 then (some 0) else (if 0≤(Int.tmod a1 (l0.length:Int)) then (if (Int.tmod a1 (l0.length:Int))<(l0.length:Int) then (some (wrap64 (rd l0 (Int.tmod a1 (l0.length:Int))))) else (none)) else (none)))=some r:=h;clear h
 by_cases c3:(l0.length:Int)=0
 ·rw[if_pos c3] at H
  have c3b0:((l0.length:Int)==0)=true:=beq_iff_eq.mpr c3;have c3b1:((l0.length:Int) !=0)=false:=bne_eq_false_iff_eq.mpr c3;clear c3;obtain rfl:=Option.some.inj H
  go_enter Try.func26,Try.ntmps26
  go_wp2
  go_ret
  exact⟨by first|rfl|(simp;done)|(simp[*];done),by repeat (first|exact Drawn0.refl _|apply Drawn0.step)⟩
 ·rw[if_neg c3] at H
  have c3b0:((l0.length:Int)==0)=false:=beq_eq_false_iff_ne.mpr c3;have c3b1:((l0.length:Int) !=0)=true:=bne_iff_ne.mpr c3
  have c3b2:¬(l0=[]):=fun h_=>c3 (by rw[h_];rfl)
  obtain⟨ji4,hji4⟩:∃j_:Int,(Int.tmod a1 (l0.length:Int))=j_:=⟨_,rfl⟩
  replace H:(if 0≤(ji4) then (if (ji4)<(l0.length:Int) then (some (wrap64 (rd l0 (ji4)))) else (none)) else (none))=some r:=by first|(rw[hji4] at H;exact H)|(simp only[hji4] at H ⊢;exact H)
  by_cases c5:0≤(ji4)
  ·rw[if_pos c5] at H
   have c5b0:decide (0≤(ji4))=true:=decide_eq_true c5;clear c5
   by_cases c6:(ji4)<(l0.length:Int)
   ·rw[if_pos c6] at H
    have c6b0:decide ((ji4)<(l0.length:Int))=true:=decide_eq_true c6;clear c6;obtain rfl:=Option.some.inj H;have p101:0≤((ji4):Int):=of_decide_eq_true (by first|(with_reducible assumption)|assumption);have q101:(ji4)<(l0.length:Int):=of_decide_eq_true (by first|(with_reducible assumption)|assumption);obtain⟨ad101,e101,hx101_0⟩:=Kd.at_int HR0.out (ji4) p101 q101
    cases e101
    replace p101:=eq_true p101;replace q101:=eq_true q101
    go_enter Try.func26,Try.ntmps26
    go_wp2
    go_ret
    exact⟨by first|rfl|(simp;done)|(simp only[←hji4]<;>(first|rfl|simp))|(simp[*];done),by repeat (first|exact Drawn0.refl _|apply Drawn0.step)⟩
   ·rw[if_neg c6] at H
    exact absurd H (by simp)
  ·rw[if_neg c5] at H
   exact absurd H (by simp)
def laws_wNums.l0:Nat→List Int→List Int→Int→Int→Option (Bool)
 |0,_,_,_,_=>none
 |k+1,x0,x1,x12,x13=>if x13<x12 then (if 0≤x13 then (if x13<(x0.length:Int) then (if x13<(x1.length:Int) then (if (rd x0 x13)=(rd x1 x13) then (laws_wNums.l0 k x0 x1 x12 (wrap64 (x13+1))) else (some false)) else (none)) else (none)) else (none)) else (some true)
def laws_wNums.f (k:Nat)(l0:List Int)(l1:List Int):Option (Bool):=if (l0.length:Int)=(l1.length:Int) then (laws_wNums.l0 k l0 l1 (l0.length:Int) 0) else (some false)
set_option maxHeartbeats 8000000 in
set_option maxRecDepth 100000 in
theorem laws_wNums.calls (k:Nat) (A0:Option Addr) (c0:Nat) (l0:List Int) (A1:Option Addr) (c1:Nat) (l1:List Int) (r:Bool) (w:World) (hr0:Kd.C (Kd.int .i64) w A0 l0.length l0) (hc0:l0.length≤c0) (hr1:Kd.C (Kd.int .i64) w A1 l1.length l1) (hc1:l1.length≤c1) (h:laws_wNums.f k l0 l1=some r):
  Calls Try.prog 29 #[.slice A0 l0.length c0,.slice A1 l1.length c1] w fun e w'=>e=.returned (.bool r)∧Drawn0 w w':=by
 have HR0:=Aside0.mk hr0;have HC0:=Aside0.mk hc0;clear hr0 hc0;have HR1:=Aside0.mk hr1;have HC1:=Aside0.mk hc1;clear hr1 hc1;have H:(if (l0.length:Int)=(l1.length:Int) then (laws_wNums.l0 k l0 l1 (l0.length:Int) 0) else (some false))=some r:=h;clear h
 by_cases c3:(l0.length:Int)=(l1.length:Int)
 ·rw[if_pos c3] at H
  have c3b0:((l0.length:Int)==(l1.length:Int))=true:=beq_iff_eq.mpr c3;have c3b1:((l0.length:Int) !=(l1.length:Int))=false:=bne_eq_false_iff_eq.mpr c3
  have c3b2:(l0.length==l1.length)=true:=by first|simpa using c3|(simp at c3 ⊢;omega)
  clear c3;have H':=Aside0.mk H;clear H
  go_enter Try.func29,Try.ntmps29
  go_wp2
  repeat (go_quiet (fail);try go_wp2)
  go_loopg [13] k (fun kq v13 w'=>∃(x13_1:Int),v13=.int .i64 x13_1∧Aside0 (laws_wNums.l0 kq l0 l1 (l0.length:Int) x13_1=some r)∧Aside0 (kq≤k)∧Drawn0 w w')
  case atStart=>exact⟨(0),(by first|rfl|(simp;done)|(simp[*];done)),H',⟨Nat.le_refl _⟩,by repeat (first|exact Drawn0.refl _|apply Drawn0.step)⟩
  case round=>
   clear H'
   try clear c1
   try clear c2
   try clear p2
   try clear c3
   try clear c3b0
   try clear c3b1
   try clear c3b2
   obtain⟨x13_1,rfl,HA,HK1,⟨m1,rfl⟩⟩:=hrel
   cases gk with
   |zero=>exact absurd HA.out (by simp[laws_wNums.l0])
   |succ k1=>
    have H:=HA.out;clear HA;simp only[laws_wNums.l0] at H
    by_cases c4:x13_1<(l0.length:Int)
    ·rw[if_pos c4] at H
     have c4b0:decide (x13_1<(l0.length:Int))=true:=decide_eq_true c4;clear c4
     by_cases c5:0≤x13_1
     ·rw[if_pos c5] at H
      have c5b0:decide (0≤x13_1)=true:=decide_eq_true c5;clear c5
      by_cases c6:x13_1<(l0.length:Int)
      ·rw[if_pos c6] at H
       have c6b0:decide (x13_1<(l0.length:Int))=true:=decide_eq_true c6;clear c6
       by_cases c7:x13_1<(l1.length:Int)
       ·rw[if_pos c7] at H
        have c7b0:decide (x13_1<(l1.length:Int))=true:=decide_eq_true c7;clear c7
        by_cases c8:(rd l0 x13_1)=(rd l1 x13_1)
        ·rw[if_pos c8] at H
         have c8b0:((rd l0 x13_1)==(rd l1 x13_1))=true:=beq_iff_eq.mpr c8;have c8b1:((rd l0 x13_1) !=(rd l1 x13_1))=false:=bne_eq_false_iff_eq.mpr c8;clear c8;have H':=Aside0.mk H;clear H;have p126:0≤(x13_1:Int):=of_decide_eq_true (by first|(with_reducible assumption)|assumption);have q126:x13_1<(l0.length:Int):=of_decide_eq_true (by first|(with_reducible assumption)|assumption);obtain⟨ad126,e126,hx126_0⟩:=Kd.at_int HR0.out x13_1 p126 q126
         cases e126
         replace p126:=eq_true p126;replace q126:=eq_true q126;have p127:0≤(x13_1:Int):=of_decide_eq_true (by first|(with_reducible assumption)|assumption);have q127:x13_1<(l1.length:Int):=of_decide_eq_true (by first|(with_reducible assumption)|assumption);obtain⟨ad127,e127,hx127_0⟩:=Kd.at_int HR1.out x13_1 p127 q127
         cases e127
         replace p127:=eq_true p127;replace q127:=eq_true q127
         go_wp2
         repeat (go_quiet (fail);try go_wp2)
         go_roundg k1
         case measure=>have:=HK1.out;omega
         case rel=>exact⟨(wrap64 (x13_1+1)),(by first|rfl|(simp;done)|(simp[*];done)),H',⟨by have:=HK1.out;omega⟩,by repeat (first|exact Drawn0.refl _|apply Drawn0.step)⟩
        ·rw[if_neg c8] at H
         have c8b0:((rd l0 x13_1)==(rd l1 x13_1))=false:=beq_eq_false_iff_ne.mpr c8;have c8b1:((rd l0 x13_1) !=(rd l1 x13_1))=true:=bne_iff_ne.mpr c8;obtain rfl:=Option.some.inj H;have p126:0≤(x13_1:Int):=of_decide_eq_true (by first|(with_reducible assumption)|assumption);have q126:x13_1<(l0.length:Int):=of_decide_eq_true (by first|(with_reducible assumption)|assumption);obtain⟨ad126,e126,hx126_0⟩:=Kd.at_int HR0.out x13_1 p126 q126
         cases e126
         replace p126:=eq_true p126;replace q126:=eq_true q126;have p127:0≤(x13_1:Int):=of_decide_eq_true (by first|(with_reducible assumption)|assumption);have q127:x13_1<(l1.length:Int):=of_decide_eq_true (by first|(with_reducible assumption)|assumption);obtain⟨ad127,e127,hx127_0⟩:=Kd.at_int HR1.out x13_1 p127 q127
         cases e127
         replace p127:=eq_true p127;replace q127:=eq_true q127
         go_wp2
         repeat (go_quiet (fail);try go_wp2)
         go_ret
         exact⟨by first|rfl|(simp;done)|(simp[*];done),by repeat (first|exact Drawn0.refl _|apply Drawn0.step)⟩
       ·rw[if_neg c7] at H
        exact absurd H (by simp)
      ·rw[if_neg c6] at H
       exact absurd H (by simp)
     ·rw[if_neg c5] at H
      exact absurd H (by simp)
    ·rw[if_neg c4] at H
     have c4b0:decide (x13_1<(l0.length:Int))=false:=decide_eq_false c4;clear c4;obtain rfl:=Option.some.inj H
     go_wp2
     repeat (go_quiet (fail);try go_wp2)
     go_ret
     exact⟨by first|rfl|(simp;done)|(simp[*];done),by repeat (first|exact Drawn0.refl _|apply Drawn0.step)⟩
 ·rw[if_neg c3] at H
  have c3b0:((l0.length:Int)==(l1.length:Int))=false:=beq_eq_false_iff_ne.mpr c3;have c3b1:((l0.length:Int) !=(l1.length:Int))=true:=bne_iff_ne.mpr c3
  have c3b2:(l0.length==l1.length)=false:=by first|simpa using c3|(simp at c3 ⊢;omega)
  obtain rfl:=Option.some.inj H
  go_enter Try.func29,Try.ntmps29
  go_wp2
  repeat (go_quiet (fail);try go_wp2)
  go_ret
  exact⟨by first|rfl|(simp;done)|(simp[*];done),by repeat (first|exact Drawn0.refl _|apply Drawn0.step)⟩
def laws_wSays.l0:Nat→List Int→List (S72)→Int→Int→Option (List Int)
 |0,_,_,_,_=>none
 |k+1,x3,x7,x8,x9=>if x9<x8 then (if 0≤x9 then (if x9<(x7.length:Int) then (if ((rd_T72 x7 x9).f0)=2 then (if x3.length<17592186044416 then (laws_wSays.l0 k (x3++[(rd_T72 x7 x9).f3]) x7 x8 (wrap64 (x9+1))) else (none)) else (laws_wSays.l0 k x3 x7 x8 (wrap64 (x9+1)))) else (none)) else (none)) else (some x3)
def laws_wSays.f (k:Nat)(a0_0:Int)(l0_1:List (S72))(a0_2:Int)(a0_3:Int)(l0_4:List Int):Option (List Int):=laws_wSays.l0 k ([]:List Int) l0_1 (l0_1.length:Int) 0
set_option maxHeartbeats 8000000 in
set_option maxRecDepth 100000 in
theorem laws_wSays.calls (k:Nat) (a0_0:Int) (A0_1:Option Addr) (c0_1:Nat) (l0_1:List (S72)) (a0_2:Int) (a0_3:Int) (A0_4:Option Addr) (c0_4:Nat) (l0_4:List Int) (r:List Int) (w:World) (hr0_1:Kd.C k72 w A0_1 l0_1.length l0_1) (hc0_1:l0_1.length≤c0_1) (hr0_4:Kd.C (Kd.int .i64) w A0_4 l0_4.length l0_4) (hc0_4:l0_4.length≤c0_4) (h:laws_wSays.f k a0_0 l0_1 a0_2 a0_3 l0_4=some r):
  Calls Try.prog 30 #[.agg #[.int .i64 a0_0,.slice A0_1 l0_1.length c0_1,.int .i64 a0_2,.int .i64 a0_3,.slice A0_4 l0_4.length c0_4]] w fun e w'=>∃v0_:Value,e=.returned (v0_)∧Kd.R (Kd.int .i64) 2 w' w.heap.size (fun _=>True) v0_ r∧Below w.heap.size w w':=by
 have hu53:=Try.underlying53;have hu72:=Try.underlying72;have HR0_1:=Aside0.mk hr0_1;have HC0_1:=Aside0.mk hc0_1;clear hr0_1 hc0_1;have HR0_4:=Aside0.mk hr0_4;have HC0_4:=Aside0.mk hc0_4;clear hr0_4 hc0_4;have HB:=Aside0.mk (Below.refl w.heap.size w);have H:(laws_wSays.l0 k ([]:List Int) l0_1 (l0_1.length:Int) 0)=some r:=h;clear h;have H':=Aside0.mk H;clear H
 go_enter Try.func30,Try.ntmps30
 go_wp2_with (first|((with_reducible refine gate_dst (N:=1) rfl ?_);refine box_event ?hg (N:=1) ?hd (cs:=#[.int .i64 a0_0,.slice A0_1 l0_1.length c0_1,.int .i64 a0_2,.int .i64 a0_3,.slice A0_4 l0_4.length c0_4]) (t:=53) ?hr ?_;(case hd=>rfl);(case hg=>rfl);(case hr=>first|(go_simp;done)|(go_simp;rfl));intro gb128 hg w2 hbox hb;have n0_:=Aside0.mk (below_step (by repeat (first|(with_reducible first|exact HB.out|apply below_alloc|apply pw_below_drewN|apply below_drew1)|exact HB.out)) hb);have n1_:=Aside0.mk (hbox);have n2_:=Aside0.mk ((by rw[hg];exact (below_size (by repeat (first|(with_reducible first|exact HB.out|apply below_alloc|apply pw_below_drewN|apply below_drew1)|exact HB.out))):w.heap.size≤gb128));have n3_:=Aside0.mk ((by rw[hg];exact (below_size (by repeat (first|(with_reducible first|exact HB.out|apply below_alloc|apply pw_below_drewN|apply below_drew1)|exact HB.out))):w.heap.size≤gb128));clear HB;have HB:=n0_;have BK128:=n1_;have GW128:=n2_;have GE128:=n3_;clear n0_ n1_ n2_ n3_;clear hb hbox hg;have hcz3_0:w2.cell? ⟨gb128,0,none⟩=some (.int .i64 a0_0):=(blk_cell BK128.out 0).trans rfl;have hcz3_1:w2.cell? ⟨gb128,1,none⟩=some (.slice A0_1 l0_1.length c0_1):=(blk_cell BK128.out 1).trans rfl;have hcz3_2:w2.cell? ⟨gb128,2,none⟩=some (.int .i64 a0_2):=(blk_cell BK128.out 2).trans rfl;have hcz3_3:w2.cell? ⟨gb128,3,none⟩=some (.int .i64 a0_3):=(blk_cell BK128.out 3).trans rfl;have hcz3_4:w2.cell? ⟨gb128,4,none⟩=some (.slice A0_4 l0_4.length c0_4):=(blk_cell BK128.out 4).trans rfl;have hfz3_0:=blk_frozen BK128.out 0;have hfz3_1:=blk_frozen BK128.out 1;have hfz3_2:=blk_frozen BK128.out 2;have hfz3_3:=blk_frozen BK128.out 3;have hfz3_4:=blk_frozen BK128.out 4))
 go_loopg [3,9] k (fun kq v3 v9 w'=>∃(x3_1:List Int) (x9_1:Int),v9=.int .i64 x9_1∧Aside0 (laws_wSays.l0 kq x3_1 l0_1 (l0_1.length:Int) x9_1=some r)∧Aside0 (kq≤k)∧Aside0 (Kd.R (Kd.int .i64) 2 w' w.heap.size (fun _=>True) v3 x3_1)∧Aside0 (w'.heap[gb128]?=some (.cells #[.int .i64 a0_0,(.slice A0_1 l0_1.length c0_1),.int .i64 a0_2,.int .i64 a0_3,(.slice A0_4 l0_4.length c0_4)] 53 (0,0)))∧Aside0 (Below w.heap.size w w'))
 case atStart=>exact⟨(([]:List Int)),(0),(by first|rfl|(simp;done)|(simp[*];done)),H',⟨Nat.le_refl _⟩,⟨by first|exact Kd.R_nil _ _ _ _ _|exact Kd.N_nil _ _ _ _ _|exact Kd.V_nil _ _ _ _ _|exact Kd.Q_nil _ _ _ _ _|exact Kd.S_nil _ _ _ _ _⟩,⟨by (with_reducible repeat (first|refine blk_drewN ?_ _|refine blk_drew ?_|refine blk_alloc ?_ _));exact BK128.out⟩,⟨by repeat (first|(with_reducible first|exact HB.out|apply below_alloc|apply pw_below_drewN|apply below_drew1|refine below_set ?_ GE128.out)|exact HB.out)⟩⟩
 case round=>
  clear H'
  try clear p2
  try clear c3
  try clear hcz3_0
  try clear hcz3_1
  try clear hcz3_2
  try clear hcz3_3
  try clear hcz3_4
  try clear hfz3_0
  try clear hfz3_1
  try clear hfz3_2
  try clear hfz3_3
  try clear hfz3_4
  obtain⟨x3_1,x9_1,rfl,HA,HK1,HO_3,BK128,HB⟩:=hrel
  cases gk with
  |zero=>exact absurd HA.out (by simp[laws_wSays.l0])
  |succ k1=>
   have H:=HA.out;clear HA;simp only[laws_wSays.l0] at H
   by_cases c4:x9_1<(l0_1.length:Int)
   ·rw[if_pos c4] at H
    have c4b0:decide (x9_1<(l0_1.length:Int))=true:=decide_eq_true c4;clear c4
    by_cases c5:0≤x9_1
    ·rw[if_pos c5] at H
     have c5b0:decide (0≤x9_1)=true:=decide_eq_true c5;clear c5
     by_cases c6:x9_1<(l0_1.length:Int)
     ·rw[if_pos c6] at H
      have c6b0:decide (x9_1<(l0_1.length:Int))=true:=decide_eq_true c6;clear c6
      by_cases c7:((rd_T72 l0_1 x9_1).f0)=2
      ·rw[if_pos c7] at H
       have c7b0:(((rd_T72 l0_1 x9_1).f0)==2)=true:=beq_iff_eq.mpr c7;have c7b1:(((rd_T72 l0_1 x9_1).f0) !=2)=false:=bne_eq_false_iff_eq.mpr c7;clear c7
       by_cases c8:x3_1.length<17592186044416
       ·rw[if_pos c8] at H
        have LMc8:=Aside0.mk c8;clear c8;obtain⟨y131,hy131⟩:∃y_:List Int,y_=(x3_1++[(rd_T72 l0_1 x9_1).f3]):=⟨_,rfl⟩
        replace H:(laws_wSays.l0 k1 y131 l0_1 (l0_1.length:Int) (wrap64 (x9_1+1)))=some r:=by first|(rw[hy131];with_reducible exact H)|(have H2_:=(Option.bind_some _ _).symm.trans H;rw[hy131];with_reducible exact H2_)|(have H2_:=(Option.bind_some _ _).symm.trans H;with_reducible exact H2_)|with_reducible exact H|(rw[hy131];exact H)|exact H
        have Ny131:=Aside0.mk hy131;clear hy131;have H':=Aside0.mk H;clear H;have p129:0≤(x9_1:Int):=of_decide_eq_true (by first|(with_reducible assumption)|assumption);have q129:x9_1<(l0_1.length:Int):=of_decide_eq_true (by first|(with_reducible assumption)|assumption);obtain⟨ad129,e129,hx129_0,hx129_1,hx129_2,hx129_3⟩:=at_T72 HR0_1.out x9_1 p129 q129
        cases e129
        replace hx129_0:=(HB.out.cell (World.block_lt_of_cell? w _ hx129_0)).trans hx129_0;replace hx129_1:=(HB.out.cell (World.block_lt_of_cell? w _ hx129_1)).trans hx129_1;replace hx129_2:=(HB.out.cell (World.block_lt_of_cell? w _ hx129_2)).trans hx129_2;replace hx129_3:=(HB.out.cell (World.block_lt_of_cell? w _ hx129_3)).trans hx129_3;replace p129:=eq_true p129;replace q129:=eq_true q129
        go_wp2_with (first|((with_reducible refine gate_dst (N:=5) rfl ?_);refine box_event ?hg (N:=5) ?hd (cs:=#[.int .i64 0,.int .i64 0,.int .i64 0,.int .i64 0]) (t:=72) ?hr ?_;(case hd=>rfl);(case hg=>rfl);(case hr=>first|(go_simp;done)|(go_simp;rfl));intro gb130 hg w9 hbox hb;have n0_:=Aside0.mk (Kd.R_below (by (with_reducible repeat (first|apply Kd.R_alloc|apply Kd.R_drewN|apply Kd.R_drew));exact HO_3.out) hb);have n1_:=Aside0.mk (blk_below (g:=gb128) (o:=.cells #[.int .i64 a0_0,.slice (some ad129) l0_1.length c0_1,.int .i64 a0_2,.int .i64 a0_3,.slice A0_4 l0_4.length c0_4] 53 (0,0)) (by (with_reducible repeat (first|refine blk_drewN ?_ _|refine blk_drew ?_|refine blk_alloc ?_ _));exact BK128.out) hb);have n2_:=Aside0.mk (below_step (by repeat (first|(with_reducible first|exact HB.out|apply below_alloc|apply pw_below_drewN|apply below_drew1|refine below_set ?_ GE128.out)|exact HB.out)) hb);have n3_:=Aside0.mk (hbox);have n4_:=Aside0.mk ((by rw[hg];exact (below_size (by repeat (first|(with_reducible first|exact HB.out|apply below_alloc|apply pw_below_drewN|apply below_drew1|refine below_set ?_ GE128.out)|exact HB.out))):w.heap.size≤gb130));have n5_:=Aside0.mk ((by rw[hg];exact (below_size (by repeat (first|(with_reducible first|exact HB.out|apply below_alloc|apply pw_below_drewN|apply below_drew1|refine below_set ?_ GE128.out)|exact HB.out))):w.heap.size≤gb130));have n6_:=Aside0.mk ((by rw[hg];exact Nat.ne_of_lt (blk_lt (g:=gb128) (o:=.cells #[.int .i64 a0_0,.slice (some ad129) l0_1.length c0_1,.int .i64 a0_2,.int .i64 a0_3,.slice A0_4 l0_4.length c0_4] 53 (0,0)) (by (with_reducible repeat (first|refine blk_drewN ?_ _|refine blk_drew ?_|refine blk_alloc ?_ _));exact BK128.out)):gb128≠gb130));have n7_:=Aside0.mk ((by rw[hg];exact Nat.ne_of_gt (blk_lt (g:=gb128) (o:=.cells #[.int .i64 a0_0,.slice (some ad129) l0_1.length c0_1,.int .i64 a0_2,.int .i64 a0_3,.slice A0_4 l0_4.length c0_4] 53 (0,0)) (by (with_reducible repeat (first|refine blk_drewN ?_ _|refine blk_drew ?_|refine blk_alloc ?_ _));exact BK128.out)):gb130≠gb128));clear HO_3;clear BK128;clear HB;have HO_3:=n0_;have BK128:=n1_;have HB:=n2_;have BK130:=n3_;have GW130:=n4_;have GE130:=n5_;have NB128_130:=n6_;have NB130_128:=n7_;clear n0_ n1_ n2_ n3_ n4_ n5_ n6_ n7_;clear hb hbox hg;have hnb10:=NB130_128.out;have hnc10:=NB128_130.out;have hcz11_0:w9.cell? ⟨gb130,0,none⟩=some (.int .i64 0):=(blk_cell BK130.out 0).trans rfl;have hcz11_1:w9.cell? ⟨gb130,1,none⟩=some (.int .i64 0):=(blk_cell BK130.out 1).trans rfl;have hcz11_2:w9.cell? ⟨gb130,2,none⟩=some (.int .i64 0):=(blk_cell BK130.out 2).trans rfl;have hcz11_3:w9.cell? ⟨gb130,3,none⟩=some (.int .i64 0):=(blk_cell BK130.out 3).trans rfl;have hfz11_0:=blk_frozen BK130.out 0;have hfz11_1:=blk_frozen BK130.out 1;have hfz11_2:=blk_frozen BK130.out 2;have hfz11_3:=blk_frozen BK130.out 3)|((with_reducible refine gate_builtin (b:=.append) (xs:=#[.tmp 16,.tmp 19]) rfl ?_);at_builtin;refine Kd.R_append (Kd.int .i64) (w0:=w) w.heap.size rfl (.tmp 16) (.tmp 19) 56 2 (.int .i64 0) 8 rfl Try.underlying56 info2 rfl (by decide) (by omega) u3 x3_1 ((rd_T72 l0_1 x9_1).f3) [.int .i64 ((rd_T72 l0_1 x9_1).f3)] (fun _=>True) (fun _=>False) rfl (by first|(go_simp;done)|(go_simp;rfl)) ?aP (fun _ hk=>hk.elim) ?aF ?aO ?aB ?aS ?aL ?_;(case aP=>exact rfl);(case aB=>exact (by repeat (first|(with_reducible first|exact HB.out|apply below_alloc|apply pw_below_drewN|apply below_drew1|refine below_set ?_ GE128.out|refine below_set ?_ GE130.out)|exact HB.out)));(case aF=>exact (fun _ _=>trivial));(case aO=>exact (by (with_reducible repeat (first|apply Kd.R_alloc|apply Kd.R_drewN|apply Kd.R_drew));exact Kd.R_mono (Kd.R_far (p:=⟨gb130,3,none⟩) (Kd.R_far (p:=⟨gb130,2,none⟩) (Kd.R_far (p:=⟨gb130,1,none⟩) (Kd.R_far (p:=⟨gb130,0,none⟩) (Kd.R_types HO_3.out BK130.out (by decide)) (fun _ hk=>hk.2) (.int .i64 ((rd_T72 l0_1 x9_1).f0))) (fun _ hk=>hk.2) (.int .i64 ((rd_T72 l0_1 x9_1).f1))) (fun _ hk=>hk.2) (.int .i64 ((rd_T72 l0_1 x9_1).f2))) (fun _ hk=>hk.2) (.int .i64 ((rd_T72 l0_1 x9_1).f3))) (fun _ hk=>trivial)));(case aS=>exact (below_size (by repeat (first|(with_reducible first|exact HB.out|apply below_alloc|apply pw_below_drewN|apply below_drew1|refine below_set ?_ GE128.out|refine below_set ?_ GE130.out)|exact HB.out))));(case aL=>have:=LMc8.out;omega);intro v132 w12 ho hb hg hat;rw[←Ny131.out] at ho;have n0_:=Aside0.mk (blk_grown (g:=gb128) (o:=.cells #[.int .i64 a0_0,.slice (some ad129) l0_1.length c0_1,.int .i64 a0_2,.int .i64 a0_3,.slice A0_4 l0_4.length c0_4] 53 (0,0)) (by (with_reducible repeat (first|refine blk_drewN ?_ _|refine blk_drew ?_|refine blk_alloc ?_ _));refine blk_far ?_ NB128_130.out _;(with_reducible repeat (first|refine blk_drewN ?_ _|refine blk_drew ?_|refine blk_alloc ?_ _));refine blk_far ?_ NB128_130.out _;(with_reducible repeat (first|refine blk_drewN ?_ _|refine blk_drew ?_|refine blk_alloc ?_ _));refine blk_far ?_ NB128_130.out _;(with_reducible repeat (first|refine blk_drewN ?_ _|refine blk_drew ?_|refine blk_alloc ?_ _));refine blk_far ?_ NB128_130.out _;(with_reducible repeat (first|refine blk_drewN ?_ _|refine blk_drew ?_|refine blk_alloc ?_ _));exact BK128.out) hg (Kd.R_ne HO_3.out BK128.out (by decide)));have n1_:=Aside0.mk (blk_grown (g:=gb130) (o:=.cells #[.int .i64 ((rd_T72 l0_1 x9_1).f0),.int .i64 ((rd_T72 l0_1 x9_1).f1),.int .i64 ((rd_T72 l0_1 x9_1).f2),.int .i64 ((rd_T72 l0_1 x9_1).f3)] 72 (0,0)) (by (with_reducible repeat (first|refine blk_drewN ?_ _|refine blk_drew ?_|refine blk_alloc ?_ _));refine blk_put (cs:=#[.int .i64 ((rd_T72 l0_1 x9_1).f0),.int .i64 ((rd_T72 l0_1 x9_1).f1),.int .i64 ((rd_T72 l0_1 x9_1).f2),.int .i64 0]) ?_ 3 _ rfl;(with_reducible repeat (first|refine blk_drewN ?_ _|refine blk_drew ?_|refine blk_alloc ?_ _));refine blk_put (cs:=#[.int .i64 ((rd_T72 l0_1 x9_1).f0),.int .i64 ((rd_T72 l0_1 x9_1).f1),.int .i64 0,.int .i64 0]) ?_ 2 _ rfl;(with_reducible repeat (first|refine blk_drewN ?_ _|refine blk_drew ?_|refine blk_alloc ?_ _));refine blk_put (cs:=#[.int .i64 ((rd_T72 l0_1 x9_1).f0),.int .i64 0,.int .i64 0,.int .i64 0]) ?_ 1 _ rfl;(with_reducible repeat (first|refine blk_drewN ?_ _|refine blk_drew ?_|refine blk_alloc ?_ _));refine blk_put (cs:=#[.int .i64 0,.int .i64 0,.int .i64 0,.int .i64 0]) ?_ 0 _ rfl;(with_reducible repeat (first|refine blk_drewN ?_ _|refine blk_drew ?_|refine blk_alloc ?_ _));exact BK130.out) hg (Kd.R_ne HO_3.out BK130.out (by decide)));have n2_:=Aside0.mk (hb);have n3_:=Aside0.mk (ho);clear BK128;clear BK130;clear HB;clear HO_3;have BK128:=n0_;have BK130:=n1_;have HB:=n2_;have HO133:=n3_;clear n0_ n1_ n2_ n3_;clear ho hb hg hat))
        go_roundg k1
        case measure=>have:=HK1.out;omega
        case rel=>exact⟨(y131),(wrap64 (x9_1+1)),(by first|rfl|(simp;done)|(simp[*];done)),H',⟨by have:=HK1.out;omega⟩,⟨by (with_reducible repeat (first|apply Kd.R_alloc|apply Kd.R_drewN|apply Kd.R_drew));exact HO133.out⟩,⟨by (with_reducible repeat (first|refine blk_drewN ?_ _|refine blk_drew ?_|refine blk_alloc ?_ _));exact BK128.out⟩,⟨by repeat (first|(with_reducible first|exact HB.out|apply below_alloc|apply pw_below_drewN|apply below_drew1|refine below_set ?_ GE128.out|refine below_set ?_ GE130.out)|exact HB.out)⟩⟩
       ·rw[if_neg c8] at H
        exact absurd H (by simp)
      ·rw[if_neg c7] at H
       have c7b0:(((rd_T72 l0_1 x9_1).f0)==2)=false:=beq_eq_false_iff_ne.mpr c7;have c7b1:(((rd_T72 l0_1 x9_1).f0) !=2)=true:=bne_iff_ne.mpr c7;have H':=Aside0.mk H;clear H;have p129:0≤(x9_1:Int):=of_decide_eq_true (by first|(with_reducible assumption)|assumption);have q129:x9_1<(l0_1.length:Int):=of_decide_eq_true (by first|(with_reducible assumption)|assumption);obtain⟨ad129,e129,hx129_0,hx129_1,hx129_2,hx129_3⟩:=at_T72 HR0_1.out x9_1 p129 q129
       cases e129
       replace hx129_0:=(HB.out.cell (World.block_lt_of_cell? w _ hx129_0)).trans hx129_0;replace hx129_1:=(HB.out.cell (World.block_lt_of_cell? w _ hx129_1)).trans hx129_1;replace hx129_2:=(HB.out.cell (World.block_lt_of_cell? w _ hx129_2)).trans hx129_2;replace hx129_3:=(HB.out.cell (World.block_lt_of_cell? w _ hx129_3)).trans hx129_3;replace p129:=eq_true p129;replace q129:=eq_true q129
       go_wp2_with (first|((with_reducible refine gate_dst (N:=5) rfl ?_);refine box_event ?hg (N:=5) ?hd (cs:=#[.int .i64 0,.int .i64 0,.int .i64 0,.int .i64 0]) (t:=72) ?hr ?_;(case hd=>rfl);(case hg=>rfl);(case hr=>first|(go_simp;done)|(go_simp;rfl));intro gb130 hg w13 hbox hb;have n0_:=Aside0.mk (Kd.R_below (by (with_reducible repeat (first|apply Kd.R_alloc|apply Kd.R_drewN|apply Kd.R_drew));exact HO_3.out) hb);have n1_:=Aside0.mk (blk_below (g:=gb128) (o:=.cells #[.int .i64 a0_0,.slice (some ad129) l0_1.length c0_1,.int .i64 a0_2,.int .i64 a0_3,.slice A0_4 l0_4.length c0_4] 53 (0,0)) (by (with_reducible repeat (first|refine blk_drewN ?_ _|refine blk_drew ?_|refine blk_alloc ?_ _));exact BK128.out) hb);have n2_:=Aside0.mk (below_step (by repeat (first|(with_reducible first|exact HB.out|apply below_alloc|apply pw_below_drewN|apply below_drew1|refine below_set ?_ GE128.out)|exact HB.out)) hb);have n3_:=Aside0.mk (hbox);have n4_:=Aside0.mk ((by rw[hg];exact (below_size (by repeat (first|(with_reducible first|exact HB.out|apply below_alloc|apply pw_below_drewN|apply below_drew1|refine below_set ?_ GE128.out)|exact HB.out))):w.heap.size≤gb130));have n5_:=Aside0.mk ((by rw[hg];exact (below_size (by repeat (first|(with_reducible first|exact HB.out|apply below_alloc|apply pw_below_drewN|apply below_drew1|refine below_set ?_ GE128.out)|exact HB.out))):w.heap.size≤gb130));have n6_:=Aside0.mk ((by rw[hg];exact Nat.ne_of_lt (blk_lt (g:=gb128) (o:=.cells #[.int .i64 a0_0,.slice (some ad129) l0_1.length c0_1,.int .i64 a0_2,.int .i64 a0_3,.slice A0_4 l0_4.length c0_4] 53 (0,0)) (by (with_reducible repeat (first|refine blk_drewN ?_ _|refine blk_drew ?_|refine blk_alloc ?_ _));exact BK128.out)):gb128≠gb130));have n7_:=Aside0.mk ((by rw[hg];exact Nat.ne_of_gt (blk_lt (g:=gb128) (o:=.cells #[.int .i64 a0_0,.slice (some ad129) l0_1.length c0_1,.int .i64 a0_2,.int .i64 a0_3,.slice A0_4 l0_4.length c0_4] 53 (0,0)) (by (with_reducible repeat (first|refine blk_drewN ?_ _|refine blk_drew ?_|refine blk_alloc ?_ _));exact BK128.out)):gb130≠gb128));clear HO_3;clear BK128;clear HB;have HO_3:=n0_;have BK128:=n1_;have HB:=n2_;have BK130:=n3_;have GW130:=n4_;have GE130:=n5_;have NB128_130:=n6_;have NB130_128:=n7_;clear n0_ n1_ n2_ n3_ n4_ n5_ n6_ n7_;clear hb hbox hg;have hnb14:=NB130_128.out;have hnc14:=NB128_130.out;have hcz15_0:w13.cell? ⟨gb130,0,none⟩=some (.int .i64 0):=(blk_cell BK130.out 0).trans rfl;have hcz15_1:w13.cell? ⟨gb130,1,none⟩=some (.int .i64 0):=(blk_cell BK130.out 1).trans rfl;have hcz15_2:w13.cell? ⟨gb130,2,none⟩=some (.int .i64 0):=(blk_cell BK130.out 2).trans rfl;have hcz15_3:w13.cell? ⟨gb130,3,none⟩=some (.int .i64 0):=(blk_cell BK130.out 3).trans rfl;have hfz15_0:=blk_frozen BK130.out 0;have hfz15_1:=blk_frozen BK130.out 1;have hfz15_2:=blk_frozen BK130.out 2;have hfz15_3:=blk_frozen BK130.out 3))
       go_roundg k1
       case measure=>have:=HK1.out;omega
       case rel=>exact⟨(x3_1),(wrap64 (x9_1+1)),(by first|rfl|(simp;done)|(simp[*];done)),H',⟨by have:=HK1.out;omega⟩,⟨by (with_reducible repeat (first|apply Kd.R_alloc|apply Kd.R_drewN|apply Kd.R_drew));exact Kd.R_mono (Kd.R_far (p:=⟨gb130,3,none⟩) (Kd.R_far (p:=⟨gb130,2,none⟩) (Kd.R_far (p:=⟨gb130,1,none⟩) (Kd.R_far (p:=⟨gb130,0,none⟩) (Kd.R_types HO_3.out BK130.out (by decide)) (fun _ hk=>hk.2) (.int .i64 ((rd_T72 l0_1 x9_1).f0))) (fun _ hk=>hk.2) (.int .i64 ((rd_T72 l0_1 x9_1).f1))) (fun _ hk=>hk.2) (.int .i64 ((rd_T72 l0_1 x9_1).f2))) (fun _ hk=>hk.2) (.int .i64 ((rd_T72 l0_1 x9_1).f3))) (fun _ hk=>trivial)⟩,⟨by (with_reducible repeat (first|refine blk_drewN ?_ _|refine blk_drew ?_|refine blk_alloc ?_ _));refine blk_far ?_ NB128_130.out _;(with_reducible repeat (first|refine blk_drewN ?_ _|refine blk_drew ?_|refine blk_alloc ?_ _));refine blk_far ?_ NB128_130.out _;(with_reducible repeat (first|refine blk_drewN ?_ _|refine blk_drew ?_|refine blk_alloc ?_ _));refine blk_far ?_ NB128_130.out _;(with_reducible repeat (first|refine blk_drewN ?_ _|refine blk_drew ?_|refine blk_alloc ?_ _));refine blk_far ?_ NB128_130.out _;(with_reducible repeat (first|refine blk_drewN ?_ _|refine blk_drew ?_|refine blk_alloc ?_ _));exact BK128.out⟩,⟨by repeat (first|(with_reducible first|exact HB.out|apply below_alloc|apply pw_below_drewN|apply below_drew1|refine below_set ?_ GE128.out|refine below_set ?_ GE130.out)|exact HB.out)⟩⟩
     ·rw[if_neg c6] at H
      exact absurd H (by simp)
    ·rw[if_neg c5] at H
     exact absurd H (by simp)
   ·rw[if_neg c4] at H
    have c4b0:decide (x9_1<(l0_1.length:Int))=false:=decide_eq_false c4;clear c4;obtain rfl:=Option.some.inj H
    go_wp2
    go_ret
    exact⟨_,by first|rfl|(simp[errW_none,errW_some]<;>rfl)|(simp[*,errW_none,errW_some]<;>rfl),by (with_reducible repeat (first|apply Kd.R_alloc|apply Kd.R_drewN|apply Kd.R_drew));exact HO_3.out,by repeat (first|(with_reducible first|exact HB.out|apply below_alloc|apply pw_below_drewN|apply below_drew1|refine below_set ?_ GE128.out)|exact HB.out)⟩
def spec_MadePipe.f (a0:Int)(a1:Int)(a2:Int):Option ((List (S98))×List Int×Int):=some ((([(⟨(([(⟨7,0,1,0,0⟩:S100),(⟨1,1,0,a0,0⟩:S100),(⟨15,1,0,0,2⟩:S100),(⟨2,2,1,1,0⟩:S100),(⟨9,2,0,0,0⟩:S100),(⟨13,0,0,0,0⟩:S100)]:List (S100)))⟩:S98),(⟨(([(⟨1,1,0,1,0⟩:S100),(⟨15,1,0,0,3⟩:S100),(⟨10,0,0,0,0⟩:S100),(⟨16,3,0,0,1⟩:S100),(⟨3,0,0,0,0⟩:S100),(⟨2,1,3,0,0⟩:S100),(⟨15,1,0,0,4⟩:S100),(⟨10,0,0,0,0⟩:S100),(⟨2,1,3,0,0⟩:S100),(⟨16,3,0,0,1⟩:S100),(⟨3,0,0,0,0⟩:S100)]:List (S100)))⟩:S98)]:List (S98))),(([a1]:List Int)),a2)
set_option maxHeartbeats 8000000 in
set_option maxRecDepth 100000 in
theorem spec_MadePipe.calls (a0:Int) (a1:Int) (a2:Int) (r1:List (S98)) (r2:List Int) (r3:Int) (w:World) (h:spec_MadePipe.f a0 a1 a2=some (r1,r2,r3)):
  Calls Try.prog 31 #[.int .i64 a0,.int .i64 a1,.int .i64 a2] w fun e w'=>∃v0_ v1_:Value,e=.returned (.agg #[v0_,v1_,.int .i64 r3])∧Kd.N k98 98 w' w.heap.size (fun k_=>(w.heap.size≤k_)∧some k_≠(v1_:Value).ownBlock) v0_ r1∧Kd.R (Kd.int .i64) 3 w' w.heap.size (fun k_=>(w.heap.size≤k_)) v1_ r2∧Below w.heap.size w w':=by
 have hu35:=Try.underlying35;have hu100:=Try.underlying100;have hu98:=Try.underlying98;have HB:=Aside0.mk (Below.refl w.heap.size w);have H:(some ((([(⟨(([(⟨7,0,1,0,0⟩:S100),(⟨1,1,0,a0,0⟩:S100),(⟨15,1,0,0,2⟩:S100),(⟨2,2,1,1,0⟩:S100),(⟨9,2,0,0,0⟩:S100),(⟨13,0,0,0,0⟩:S100)]:List (S100)))⟩:S98),(⟨(([(⟨1,1,0,1,0⟩:S100),(⟨15,1,0,0,3⟩:S100),(⟨10,0,0,0,0⟩:S100),(⟨16,3,0,0,1⟩:S100),(⟨3,0,0,0,0⟩:S100),(⟨2,1,3,0,0⟩:S100),(⟨15,1,0,0,4⟩:S100),(⟨10,0,0,0,0⟩:S100),(⟨2,1,3,0,0⟩:S100),(⟨16,3,0,0,1⟩:S100),(⟨3,0,0,0,0⟩:S100)]:List (S100)))⟩:S98)]:List (S98))),(([a1]:List Int)),a2))=some (r1,r2,r3):=h;clear h;obtain⟨y135,hy135⟩:∃y_:List Int,y_=(([a1]:List Int)):=⟨_,rfl⟩
 replace H:(some ((([(⟨(([(⟨7,0,1,0,0⟩:S100),(⟨1,1,0,a0,0⟩:S100),(⟨15,1,0,0,2⟩:S100),(⟨2,2,1,1,0⟩:S100),(⟨9,2,0,0,0⟩:S100),(⟨13,0,0,0,0⟩:S100)]:List (S100)))⟩:S98),(⟨(([(⟨1,1,0,1,0⟩:S100),(⟨15,1,0,0,3⟩:S100),(⟨10,0,0,0,0⟩:S100),(⟨16,3,0,0,1⟩:S100),(⟨3,0,0,0,0⟩:S100),(⟨2,1,3,0,0⟩:S100),(⟨15,1,0,0,4⟩:S100),(⟨10,0,0,0,0⟩:S100),(⟨2,1,3,0,0⟩:S100),(⟨16,3,0,0,1⟩:S100),(⟨3,0,0,0,0⟩:S100)]:List (S100)))⟩:S98)]:List (S98))),y135,a2))=some (r1,r2,r3):=by first|(rw[hy135];with_reducible exact H)|(have H2_:=(Option.bind_some _ _).symm.trans H;rw[hy135];with_reducible exact H2_)|(have H2_:=(Option.bind_some _ _).symm.trans H;with_reducible exact H2_)|with_reducible exact H|(rw[hy135];exact H)|exact H
 have Ny135:=Aside0.mk hy135;clear hy135;obtain⟨y138,hy138⟩:∃y_:List (S100),y_=(([(⟨7,0,1,0,0⟩:S100),(⟨1,1,0,a0,0⟩:S100),(⟨15,1,0,0,2⟩:S100),(⟨2,2,1,1,0⟩:S100),(⟨9,2,0,0,0⟩:S100),(⟨13,0,0,0,0⟩:S100)]:List (S100))):=⟨_,rfl⟩
 replace H:(some ((([(⟨y138⟩:S98),(⟨(([(⟨1,1,0,1,0⟩:S100),(⟨15,1,0,0,3⟩:S100),(⟨10,0,0,0,0⟩:S100),(⟨16,3,0,0,1⟩:S100),(⟨3,0,0,0,0⟩:S100),(⟨2,1,3,0,0⟩:S100),(⟨15,1,0,0,4⟩:S100),(⟨10,0,0,0,0⟩:S100),(⟨2,1,3,0,0⟩:S100),(⟨16,3,0,0,1⟩:S100),(⟨3,0,0,0,0⟩:S100)]:List (S100)))⟩:S98)]:List (S98))),y135,a2))=some (r1,r2,r3):=by first|(rw[hy138];with_reducible exact H)|(have H2_:=(Option.bind_some _ _).symm.trans H;rw[hy138];with_reducible exact H2_)|(have H2_:=(Option.bind_some _ _).symm.trans H;with_reducible exact H2_)|with_reducible exact H|(rw[hy138];exact H)|exact H
 have Ny138:=Aside0.mk hy138;clear hy138;obtain⟨y141,hy141⟩:∃y_:List (S100),y_=(([(⟨1,1,0,1,0⟩:S100),(⟨15,1,0,0,3⟩:S100),(⟨10,0,0,0,0⟩:S100),(⟨16,3,0,0,1⟩:S100),(⟨3,0,0,0,0⟩:S100),(⟨2,1,3,0,0⟩:S100),(⟨15,1,0,0,4⟩:S100),(⟨10,0,0,0,0⟩:S100),(⟨2,1,3,0,0⟩:S100),(⟨16,3,0,0,1⟩:S100),(⟨3,0,0,0,0⟩:S100)]:List (S100))):=⟨_,rfl⟩
 replace H:(some ((([(⟨y138⟩:S98),(⟨y141⟩:S98)]:List (S98))),y135,a2))=some (r1,r2,r3):=by first|(rw[hy141];with_reducible exact H)|(have H2_:=(Option.bind_some _ _).symm.trans H;rw[hy141];with_reducible exact H2_)|(have H2_:=(Option.bind_some _ _).symm.trans H;with_reducible exact H2_)|with_reducible exact H|(rw[hy141];exact H)|exact H
 have Ny141:=Aside0.mk hy141;clear hy141;obtain⟨y144,hy144⟩:∃y_:List (S98),y_=(([(⟨y138⟩:S98),(⟨y141⟩:S98)]:List (S98))):=⟨_,rfl⟩
 replace H:(some (y144,y135,a2))=some (r1,r2,r3):=by first|(rw[hy144];with_reducible exact H)|(have H2_:=(Option.bind_some _ _).symm.trans H;rw[hy144];with_reducible exact H2_)|(have H2_:=(Option.bind_some _ _).symm.trans H;with_reducible exact H2_)|with_reducible exact H|(rw[hy144];exact H)|exact H
 have Ny144:=Aside0.mk hy144;clear hy144;simp only[Option.some.injEq,Prod.mk.injEq] at H;obtain⟨rfl,rfl,rfl⟩:=H
 go_enter Try.func31,Try.ntmps31
 go_wp2_with (first|((with_reducible refine gate_dst (N:=6) rfl ?_);refine box_event ?hg (N:=6) ?hd (cs:=#[.slice none 0 0,.slice none 0 0,.int .i64 0]) (t:=35) ?hr ?_;(case hd=>rfl);(case hg=>rfl);(case hr=>first|(go_simp;done)|(go_simp;rfl));intro gb134 hg w4 hbox hb;have n0_:=Aside0.mk (below_step (by repeat (first|(with_reducible first|exact HB.out|apply below_alloc|apply pw_below_drewN|apply below_drew1)|exact HB.out)) hb);have n1_:=Aside0.mk (hbox);have n2_:=Aside0.mk ((by rw[hg];exact (below_size (by repeat (first|(with_reducible first|exact HB.out|apply below_alloc|apply pw_below_drewN|apply below_drew1)|exact HB.out))):w.heap.size≤gb134));have n3_:=Aside0.mk ((by rw[hg];exact (below_size (by repeat (first|(with_reducible first|exact HB.out|apply below_alloc|apply pw_below_drewN|apply below_drew1)|exact HB.out))):w.heap.size≤gb134));clear HB;have HB:=n0_;have BK134:=n1_;have GW134:=n2_;have GE134:=n3_;clear n0_ n1_ n2_ n3_;clear hb hbox hg)|((with_reducible refine gate_dst (N:=9) rfl ?_);refine Kd.R_lit (Kd.int .i64) _ 3 ?hg (N:=9) ?hd (xs:=([a1]:List Int)) (inner:=[.int .i64 a1]) (ok:=fun _=>True) (okp:=fun _=>True) ?hr ?hp (fun _ hk=>hk) trivial (Below.refl _ _) (Nat.le_refl _) (by simp) ?_;(case hd=>rfl);(case hg=>rfl);(case hr=>first|(go_simp;done)|(go_simp;rfl));(case hp=>exact (Reps.one (show Kd.M (Kd.int .i64) _ _ _ a1 [.int .i64 a1] from rfl) (Reps.none _ _)));intro v136 w5 ho6 hb hg_ hnew_;clear hg_ hnew_;(first|rw [←Ny135.out] at ho6|(simp only[Int.reduceToNat] at ho6;rw[←Ny135.out] at ho6));have n0_:=Aside0.mk (Kd.R_lower (Kd.R_newM (M:=fun k_=>(w.heap.size≤k_)) ho6 (below_size (by repeat (first|(with_reducible first|exact HB.out|apply below_alloc|apply pw_below_drewN|apply below_drew1|refine below_set ?_ GE134.out)|exact HB.out))) (fun k_ h_=>h_)) (below_size (by repeat (first|(with_reducible first|exact HB.out|apply below_alloc|apply pw_below_drewN|apply below_drew1|refine below_set ?_ GE134.out)|exact HB.out))));have n1_:=Aside0.mk (blk_below (g:=gb134) (o:=.cells #[.slice none 0 0,.slice none 0 0,.int .i64 0] 35 (0,0)) (by (with_reducible repeat (first|refine blk_drewN ?_ _|refine blk_drew ?_|refine blk_alloc ?_ _));exact BK134.out) hb);have n2_:=Aside0.mk (below_step (by repeat (first|(with_reducible first|exact HB.out|apply below_alloc|apply pw_below_drewN|apply below_drew1|refine below_set ?_ GE134.out)|exact HB.out)) hb);clear BK134;clear HB;have HO137:=n0_;have BK134:=n1_;have HB:=n2_;clear n0_ n1_ n2_;clear hb ho6)|((with_reducible refine gate_dst (N:=17) rfl ?_);refine Kd.R_lit k100 _ 100 ?hg (N:=17) ?hd (xs:=([(⟨7,0,1,0,0⟩:S100),(⟨1,1,0,a0,0⟩:S100),(⟨15,1,0,0,2⟩:S100),(⟨2,2,1,1,0⟩:S100),(⟨9,2,0,0,0⟩:S100),(⟨13,0,0,0,0⟩:S100)]:List (S100))) (inner:=[.int .i64 7,.int .i64 0,.int .i64 1,.int .i64 0,.int .i64 0,.int .i64 1,.int .i64 1,.int .i64 0,.int .i64 a0,.int .i64 0,.int .i64 15,.int .i64 1,.int .i64 0,.int .i64 0,.int .i64 2,.int .i64 2,.int .i64 2,.int .i64 1,.int .i64 1,.int .i64 0,.int .i64 9,.int .i64 2,.int .i64 0,.int .i64 0,.int .i64 0,.int .i64 13,.int .i64 0,.int .i64 0,.int .i64 0,.int .i64 0]) (ok:=fun _=>True) (okp:=fun _=>True) ?hr ?hp (fun _ hk=>hk) trivial (Below.refl _ _) (Nat.le_refl _) (by simp) ?_;(case hd=>rfl);(case hg=>rfl);(case hr=>first|(go_simp;done)|(go_simp;rfl));(case hp=>exact (Reps.c5 (show Kd.M k100 _ _ _ (⟨7,0,1,0,0⟩:S100) [.int .i64 7,.int .i64 0,.int .i64 1,.int .i64 0,.int .i64 0] from (k100_mkM _ _ _ (⟨7,0,1,0,0⟩:S100))) (Reps.c5 (show Kd.M k100 _ _ _ (⟨1,1,0,a0,0⟩:S100) [.int .i64 1,.int .i64 1,.int .i64 0,.int .i64 a0,.int .i64 0] from (k100_mkM _ _ _ (⟨1,1,0,a0,0⟩:S100))) (Reps.c5 (show Kd.M k100 _ _ _ (⟨15,1,0,0,2⟩:S100) [.int .i64 15,.int .i64 1,.int .i64 0,.int .i64 0,.int .i64 2] from (k100_mkM _ _ _ (⟨15,1,0,0,2⟩:S100))) (Reps.c5 (show Kd.M k100 _ _ _ (⟨2,2,1,1,0⟩:S100) [.int .i64 2,.int .i64 2,.int .i64 1,.int .i64 1,.int .i64 0] from (k100_mkM _ _ _ (⟨2,2,1,1,0⟩:S100))) (Reps.c5 (show Kd.M k100 _ _ _ (⟨9,2,0,0,0⟩:S100) [.int .i64 9,.int .i64 2,.int .i64 0,.int .i64 0,.int .i64 0] from (k100_mkM _ _ _ (⟨9,2,0,0,0⟩:S100))) (Reps.c5 (show Kd.M k100 _ _ _ (⟨13,0,0,0,0⟩:S100) [.int .i64 13,.int .i64 0,.int .i64 0,.int .i64 0,.int .i64 0] from (k100_mkM _ _ _ (⟨13,0,0,0,0⟩:S100))) (Reps.none _ _))))))));intro v139 w7 ho8 hb hg_ hnew_;clear hg_ hnew_;(first|rw [←Ny138.out] at ho8|(simp only[Int.reduceToNat] at ho8;rw[←Ny138.out] at ho8));have n0_:=Aside0.mk (Kd.R_below (by (with_reducible repeat (first|apply Kd.R_alloc|apply Kd.R_drewN|apply Kd.R_drew));exact HO137.out) hb);have n1_:=Aside0.mk (Kd.R_lower (Kd.R_newM (M:=fun k_=>(w.heap.size≤k_)) ho8 (below_size (by repeat (first|(with_reducible first|exact HB.out|apply below_alloc|apply pw_below_drewN|apply below_drew1|refine below_set ?_ GE134.out)|exact HB.out))) (fun k_ h_=>h_)) (below_size (by repeat (first|(with_reducible first|exact HB.out|apply below_alloc|apply pw_below_drewN|apply below_drew1|refine below_set ?_ GE134.out)|exact HB.out))));have n2_:=Aside0.mk (blk_below (g:=gb134) (o:=.cells #[.slice none 0 0,.slice none 0 0,.int .i64 0] 35 (0,0)) (by (with_reducible repeat (first|refine blk_drewN ?_ _|refine blk_drew ?_|refine blk_alloc ?_ _));exact BK134.out) hb);have n3_:=Aside0.mk (below_step (by repeat (first|(with_reducible first|exact HB.out|apply below_alloc|apply pw_below_drewN|apply below_drew1|refine below_set ?_ GE134.out)|exact HB.out)) hb);clear HO137;clear BK134;clear HB;have HO137:=n0_;have HO140:=n1_;have BK134:=n2_;have HB:=n3_;clear n0_ n1_ n2_ n3_;clear hb ho8;obtain⟨Ao9,co9,eo9⟩:=Kd.R_slice HO140.out;subst eo9)|((with_reducible refine gate_dst (N:=30) rfl ?_);refine Kd.R_lit k100 _ 100 ?hg (N:=30) ?hd (xs:=([(⟨1,1,0,1,0⟩:S100),(⟨15,1,0,0,3⟩:S100),(⟨10,0,0,0,0⟩:S100),(⟨16,3,0,0,1⟩:S100),(⟨3,0,0,0,0⟩:S100),(⟨2,1,3,0,0⟩:S100),(⟨15,1,0,0,4⟩:S100),(⟨10,0,0,0,0⟩:S100),(⟨2,1,3,0,0⟩:S100),(⟨16,3,0,0,1⟩:S100),(⟨3,0,0,0,0⟩:S100)]:List (S100))) (inner:=[.int .i64 1,.int .i64 1,.int .i64 0,.int .i64 1,.int .i64 0,.int .i64 15,.int .i64 1,.int .i64 0,.int .i64 0,.int .i64 3,.int .i64 10,.int .i64 0,.int .i64 0,.int .i64 0,.int .i64 0,.int .i64 16,.int .i64 3,.int .i64 0,.int .i64 0,.int .i64 1,.int .i64 3,.int .i64 0,.int .i64 0,.int .i64 0,.int .i64 0,.int .i64 2,.int .i64 1,.int .i64 3,.int .i64 0,.int .i64 0,.int .i64 15,.int .i64 1,.int .i64 0,.int .i64 0,.int .i64 4,.int .i64 10,.int .i64 0,.int .i64 0,.int .i64 0,.int .i64 0,.int .i64 2,.int .i64 1,.int .i64 3,.int .i64 0,.int .i64 0,.int .i64 16,.int .i64 3,.int .i64 0,.int .i64 0,.int .i64 1,.int .i64 3,.int .i64 0,.int .i64 0,.int .i64 0,.int .i64 0]) (ok:=fun _=>True) (okp:=fun _=>True) ?hr ?hp (fun _ hk=>hk) trivial (Below.refl _ _) (Nat.le_refl _) (by simp) ?_;(case hd=>rfl);(case hg=>rfl);(case hr=>first|(go_simp;done)|(go_simp;rfl));(case hp=>exact (Reps.c5 (show Kd.M k100 _ _ _ (⟨1,1,0,1,0⟩:S100) [.int .i64 1,.int .i64 1,.int .i64 0,.int .i64 1,.int .i64 0] from (k100_mkM _ _ _ (⟨1,1,0,1,0⟩:S100))) (Reps.c5 (show Kd.M k100 _ _ _ (⟨15,1,0,0,3⟩:S100) [.int .i64 15,.int .i64 1,.int .i64 0,.int .i64 0,.int .i64 3] from (k100_mkM _ _ _ (⟨15,1,0,0,3⟩:S100))) (Reps.c5 (show Kd.M k100 _ _ _ (⟨10,0,0,0,0⟩:S100) [.int .i64 10,.int .i64 0,.int .i64 0,.int .i64 0,.int .i64 0] from (k100_mkM _ _ _ (⟨10,0,0,0,0⟩:S100))) (Reps.c5 (show Kd.M k100 _ _ _ (⟨16,3,0,0,1⟩:S100) [.int .i64 16,.int .i64 3,.int .i64 0,.int .i64 0,.int .i64 1] from (k100_mkM _ _ _ (⟨16,3,0,0,1⟩:S100))) (Reps.c5 (show Kd.M k100 _ _ _ (⟨3,0,0,0,0⟩:S100) [.int .i64 3,.int .i64 0,.int .i64 0,.int .i64 0,.int .i64 0] from (k100_mkM _ _ _ (⟨3,0,0,0,0⟩:S100))) (Reps.c5 (show Kd.M k100 _ _ _ (⟨2,1,3,0,0⟩:S100) [.int .i64 2,.int .i64 1,.int .i64 3,.int .i64 0,.int .i64 0] from (k100_mkM _ _ _ (⟨2,1,3,0,0⟩:S100))) (Reps.c5 (show Kd.M k100 _ _ _ (⟨15,1,0,0,4⟩:S100) [.int .i64 15,.int .i64 1,.int .i64 0,.int .i64 0,.int .i64 4] from (k100_mkM _ _ _ (⟨15,1,0,0,4⟩:S100))) (Reps.c5 (show Kd.M k100 _ _ _ (⟨10,0,0,0,0⟩:S100) [.int .i64 10,.int .i64 0,.int .i64 0,.int .i64 0,.int .i64 0] from (k100_mkM _ _ _ (⟨10,0,0,0,0⟩:S100))) (Reps.c5 (show Kd.M k100 _ _ _ (⟨2,1,3,0,0⟩:S100) [.int .i64 2,.int .i64 1,.int .i64 3,.int .i64 0,.int .i64 0] from (k100_mkM _ _ _ (⟨2,1,3,0,0⟩:S100))) (Reps.c5 (show Kd.M k100 _ _ _ (⟨16,3,0,0,1⟩:S100) [.int .i64 16,.int .i64 3,.int .i64 0,.int .i64 0,.int .i64 1] from (k100_mkM _ _ _ (⟨16,3,0,0,1⟩:S100))) (Reps.c5 (show Kd.M k100 _ _ _ (⟨3,0,0,0,0⟩:S100) [.int .i64 3,.int .i64 0,.int .i64 0,.int .i64 0,.int .i64 0] from (k100_mkM _ _ _ (⟨3,0,0,0,0⟩:S100))) (Reps.none _ _)))))))))))));intro v142 w10 ho11 hb hg_ hnew_;clear hg_ hnew_;(first|rw [←Ny141.out] at ho11|(simp only[Int.reduceToNat] at ho11;rw[←Ny141.out] at ho11));have n0_:=Aside0.mk (Kd.R_below (by (with_reducible repeat (first|apply Kd.R_alloc|apply Kd.R_drewN|apply Kd.R_drew));exact HO137.out) hb);have n1_:=Aside0.mk (Kd.R_elder' (by (with_reducible repeat (first|apply Kd.R_alloc|apply Kd.R_drewN|apply Kd.R_drew));exact HO140.out) (Kd.R_base ho11) hb);have n2_:=Aside0.mk (Kd.R_lower (Kd.R_new' (Kd.R_newM (M:=fun k_=>(w.heap.size≤k_)) ho11 (below_size (by repeat (first|(with_reducible first|exact HB.out|apply below_alloc|apply pw_below_drewN|apply below_drew1|refine below_set ?_ GE134.out)|exact HB.out))) (fun k_ h_=>h_)) (Kd.R_lt (by (with_reducible repeat (first|apply Kd.R_alloc|apply Kd.R_drewN|apply Kd.R_drew));exact HO140.out))) (below_size (by repeat (first|(with_reducible first|exact HB.out|apply below_alloc|apply pw_below_drewN|apply below_drew1|refine below_set ?_ GE134.out)|exact HB.out))));have n3_:=Aside0.mk (blk_below (g:=gb134) (o:=.cells #[.slice none 0 0,.slice none 0 0,.int .i64 0] 35 (0,0)) (by (with_reducible repeat (first|refine blk_drewN ?_ _|refine blk_drew ?_|refine blk_alloc ?_ _));exact BK134.out) hb);have n4_:=Aside0.mk (below_step (by repeat (first|(with_reducible first|exact HB.out|apply below_alloc|apply pw_below_drewN|apply below_drew1|refine below_set ?_ GE134.out)|exact HB.out)) hb);clear HO137;clear HO140;clear BK134;clear HB;have HO137:=n0_;have HO140:=n1_;have HO143:=n2_;have BK134:=n3_;have HB:=n4_;clear n0_ n1_ n2_ n3_ n4_;clear hb ho11;obtain⟨Ao12,co12,eo12⟩:=Kd.R_slice HO143.out;subst eo12)|((with_reducible refine gate_dst (N:=32) rfl ?_);refine Kd.N_lit k98 _ 98 ?hg (N':=32) ?hd (xs:=([(⟨y138⟩:S98),(⟨y141⟩:S98)]:List (S98))) (inner:=[.slice Ao9 y138.length co9,.slice Ao12 y141.length co12]) (ok:=(fun k_=>(w.heap.size≤k_)∧some k_≠(v136:Value).ownBlock∧k_≠gb134)) (okp:=(fun k_=>(w.heap.size≤k_)∧some k_≠(v136:Value).ownBlock∧k_≠gb134)) ?hr ?hp (fun _ hk=>hk) ((show ∀k_,w10.heap.size≤k_→(fun k_=>(w.heap.size≤k_)∧some k_≠(v136:Value).ownBlock∧k_≠gb134) k_ from fun k_ hk=>⟨(Nat.le_trans (below_size (by repeat (first|(with_reducible first|exact HB.out|apply below_alloc|apply pw_below_drewN|apply below_drew1|refine below_set ?_ GE134.out)|exact HB.out))) hk),Kd.fresh' (Kd.R_lt (by (with_reducible repeat (first|apply Kd.R_alloc|apply Kd.R_drewN|apply Kd.R_drew));exact HO137.out)) k_ hk,Kd.freshB (g:=gb134) (o:=.cells #[.slice none 0 0,.slice none 0 0,.int .i64 0] 35 (0,0)) (by (with_reducible repeat (first|refine blk_drewN ?_ _|refine blk_drew ?_|refine blk_alloc ?_ _));exact BK134.out) k_ hk⟩) _ (Nat.le_refl _)) (Below.refl _ _) (Nat.le_refl _) (by simp) ?_;(case hd=>rfl);(case hg=>rfl);(case hr=>first|(go_simp;done)|(go_simp;rfl));(case hp=>exact (Reps.one (show Kd.FK k98 _ _ (⟨y138⟩:S98) [.slice Ao9 y138.length co9] from (k98_mkF _ _ (⟨y138⟩:S98) (Kd.R_reads' (Kd.R_mono (ok':=(fun k_=>(w.heap.size≤k_)∧some k_≠(v136:Value).ownBlock∧k_≠gb134)) (Kd.R_types (Kd.R_apart' (HO140.out) (Kd.R_typed HO137.out) (by decide)) BK134.out (by decide)) (fun k_ hk=>⟨hk.1.1.1.1,⟨hk.1.2,hk.2⟩⟩))).2.1 (Kd.R_F (Kd.R_mono (ok':=(fun k_=>(w.heap.size≤k_)∧some k_≠(v136:Value).ownBlock∧k_≠gb134)) (Kd.R_types (Kd.R_apart' (HO140.out) (Kd.R_typed HO137.out) (by decide)) BK134.out (by decide)) (fun k_ hk=>⟨hk.1.1.1.1,⟨hk.1.2,hk.2⟩⟩))))) (Reps.one (show Kd.FK k98 _ _ (⟨y141⟩:S98) [.slice Ao12 y141.length co12] from (k98_mkF _ _ (⟨y141⟩:S98) (Kd.R_reads' (Kd.R_mono (ok':=(fun k_=>(w.heap.size≤k_)∧some k_≠(v136:Value).ownBlock∧k_≠gb134)) (Kd.R_types (Kd.R_apart' (HO143.out) (Kd.R_typed HO137.out) (by decide)) BK134.out (by decide)) (fun k_ hk=>⟨hk.1.1.1.1,⟨hk.1.2,hk.2⟩⟩))).2.1 (Kd.R_F (Kd.R_mono (ok':=(fun k_=>(w.heap.size≤k_)∧some k_≠(v136:Value).ownBlock∧k_≠gb134)) (Kd.R_types (Kd.R_apart' (HO143.out) (Kd.R_typed HO137.out) (by decide)) BK134.out (by decide)) (fun k_ hk=>⟨hk.1.1.1.1,⟨hk.1.2,hk.2⟩⟩))))) (Reps.none _ _))));intro v145 w13 ho14 hb hg_ hnew_;clear hg_ hnew_;(first|rw [←Ny144.out] at ho14|(simp only[Int.reduceToNat] at ho14;rw[←Ny144.out] at ho14));have n0_:=Aside0.mk (Kd.R_below (by (with_reducible repeat (first|apply Kd.R_alloc|apply Kd.R_drewN|apply Kd.R_drew));exact HO137.out) hb);have n1_:=Aside0.mk (Kd.N_lower ho14 (below_size (by repeat (first|(with_reducible first|exact HB.out|apply below_alloc|apply pw_below_drewN|apply below_drew1|refine below_set ?_ GE134.out)|exact HB.out))));have n2_:=Aside0.mk (blk_below (g:=gb134) (o:=.cells #[.slice none 0 0,.slice none 0 0,.int .i64 0] 35 (0,0)) (by (with_reducible repeat (first|refine blk_drewN ?_ _|refine blk_drew ?_|refine blk_alloc ?_ _));exact BK134.out) hb);have n3_:=Aside0.mk (below_step (by repeat (first|(with_reducible first|exact HB.out|apply below_alloc|apply pw_below_drewN|apply below_drew1|refine below_set ?_ GE134.out)|exact HB.out)) hb);clear HO137;clear BK134;clear HB;clear HO140;clear HO143;have HO137:=n0_;have HO146:=n1_;have BK134:=n2_;have HB:=n3_;clear n0_ n1_ n2_ n3_;clear hb ho14;obtain⟨Ao15,co15,eo15⟩:=Kd.R_slice HO137.out;subst eo15;obtain⟨Ao16,co16,eo16⟩:=Kd.N_slice HO146.out;subst eo16;have hcz17_0:w13.cell? ⟨gb134,0,none⟩=some (.slice none 0 0):=(blk_cell BK134.out 0).trans rfl;have hcz17_1:w13.cell? ⟨gb134,1,none⟩=some (.slice none 0 0):=(blk_cell BK134.out 1).trans rfl;have hcz17_2:w13.cell? ⟨gb134,2,none⟩=some (.int .i64 0):=(blk_cell BK134.out 2).trans rfl;have hfz17_0:=blk_frozen BK134.out 0;have hfz17_1:=blk_frozen BK134.out 1;have hfz17_2:=blk_frozen BK134.out 2))
 refine bodyPost_ret (results_cell_row rfl _ _ gb134 35 #[.slice Ao16 y144.length co16,.slice Ao15 y135.length co15,.int .i64 a2] (0,0) _ rfl (by (with_reducible repeat (first|refine blk_drewN ?_ _|refine blk_drew ?_|refine blk_alloc ?_ _));refine blk_put (cs:=#[.slice Ao16 y144.length co16,.slice Ao15 y135.length co15,.int .i64 0]) ?_ 2 _ rfl;(with_reducible repeat (first|refine blk_drewN ?_ _|refine blk_drew ?_|refine blk_alloc ?_ _));refine blk_put (cs:=#[.slice Ao16 y144.length co16,.slice none 0 0,.int .i64 0]) ?_ 1 _ rfl;(with_reducible repeat (first|refine blk_drewN ?_ _|refine blk_drew ?_|refine blk_alloc ?_ _));refine blk_put (cs:=#[.slice none 0 0,.slice none 0 0,.int .i64 0]) ?_ 0 _ rfl;(with_reducible repeat (first|refine blk_drewN ?_ _|refine blk_drew ?_|refine blk_alloc ?_ _));exact BK134.out) Try.underlying35 rfl (by kernel_rfl)) rfl ?_
 exact⟨_,_,by first|rfl|(simp[errW_none,errW_some]<;>rfl)|(simp[*,errW_none,errW_some]<;>rfl),by (with_reducible repeat (first|apply Kd.N_alloc|apply Kd.N_drewN|apply Kd.N_drew));exact Kd.N_mono (Kd.N_far (p:=⟨gb134,2,none⟩) (Kd.N_far (p:=⟨gb134,1,none⟩) (Kd.N_far (p:=⟨gb134,0,none⟩) (Kd.N_mono HO146.out (fun k_ hk=>(⟨hk,hk.2.2⟩:_∧k_≠gb134))) (fun _ hk=>hk.2) (.slice Ao16 y144.length co16)) (fun _ hk=>hk.2) (.slice Ao15 y135.length co15)) (fun _ hk=>hk.2) (.int .i64 a2)) (fun _ hk=>⟨hk.1.1,hk.1.2.1⟩),by (with_reducible repeat (first|apply Kd.R_alloc|apply Kd.R_drewN|apply Kd.R_drew));exact Kd.R_mono (Kd.R_far (p:=⟨gb134,2,none⟩) (Kd.R_far (p:=⟨gb134,1,none⟩) (Kd.R_far (p:=⟨gb134,0,none⟩) (Kd.R_types HO137.out BK134.out (by decide)) (fun _ hk=>hk.2) (.slice Ao16 y144.length co16)) (fun _ hk=>hk.2) (.slice Ao15 y135.length co15)) (fun _ hk=>hk.2) (.int .i64 a2)) (fun _ hk=>hk.1.1),by repeat (first|(with_reducible first|exact HB.out|apply below_alloc|apply pw_below_drewN|apply below_drew1|refine below_set ?_ GE134.out)|exact HB.out)⟩
def laws_wInts.l0:Nat→List Int→List Int→Int→Int→Option (Bool)
 |0,_,_,_,_=>none
 |k+1,x0,x1,x12,x13=>if x13<x12 then (if 0≤x13 then (if x13<(x0.length:Int) then (if x13<(x1.length:Int) then (if (rd x0 x13)=(rd x1 x13) then (laws_wInts.l0 k x0 x1 x12 (wrap64 (x13+1))) else (some false)) else (none)) else (none)) else (none)) else (some true)
def laws_wInts.f (k:Nat)(l0:List Int)(l1:List Int):Option (Bool):=if (l0.length:Int)=(l1.length:Int) then (laws_wInts.l0 k l0 l1 (l0.length:Int) 0) else (some false)
set_option maxHeartbeats 8000000 in
set_option maxRecDepth 100000 in
theorem laws_wInts.calls (k:Nat) (A0:Option Addr) (c0:Nat) (l0:List Int) (A1:Option Addr) (c1:Nat) (l1:List Int) (r:Bool) (w:World) (hr0:Kd.C (Kd.int .i64) w A0 l0.length l0) (hc0:l0.length≤c0) (hr1:Kd.C (Kd.int .i64) w A1 l1.length l1) (hc1:l1.length≤c1) (h:laws_wInts.f k l0 l1=some r):
  Calls Try.prog 32 #[.slice A0 l0.length c0,.slice A1 l1.length c1] w fun e w'=>e=.returned (.bool r)∧Drawn0 w w':=by
 have HR0:=Aside0.mk hr0;have HC0:=Aside0.mk hc0;clear hr0 hc0;have HR1:=Aside0.mk hr1;have HC1:=Aside0.mk hc1;clear hr1 hc1;have H:(if (l0.length:Int)=(l1.length:Int) then (laws_wInts.l0 k l0 l1 (l0.length:Int) 0) else (some false))=some r:=h;clear h
 by_cases c3:(l0.length:Int)=(l1.length:Int)
 ·rw[if_pos c3] at H
  have c3b0:((l0.length:Int)==(l1.length:Int))=true:=beq_iff_eq.mpr c3;have c3b1:((l0.length:Int) !=(l1.length:Int))=false:=bne_eq_false_iff_eq.mpr c3
  have c3b2:(l0.length==l1.length)=true:=by first|simpa using c3|(simp at c3 ⊢;omega)
  clear c3;have H':=Aside0.mk H;clear H
  go_enter Try.func32,Try.ntmps32
  go_wp2
  repeat (go_quiet (fail);try go_wp2)
  go_loopg [13] k (fun kq v13 w'=>∃(x13_1:Int),v13=.int .i64 x13_1∧Aside0 (laws_wInts.l0 kq l0 l1 (l0.length:Int) x13_1=some r)∧Aside0 (kq≤k)∧Drawn0 w w')
  case atStart=>exact⟨(0),(by first|rfl|(simp;done)|(simp[*];done)),H',⟨Nat.le_refl _⟩,by repeat (first|exact Drawn0.refl _|apply Drawn0.step)⟩
  case round=>
   clear H'
   try clear c1
   try clear p2
   try clear c3
   try clear c3b0
   try clear c3b1
   try clear c3b2
   obtain⟨x13_1,rfl,HA,HK1,⟨m1,rfl⟩⟩:=hrel
   cases gk with
   |zero=>exact absurd HA.out (by simp[laws_wInts.l0])
   |succ k1=>
    have H:=HA.out;clear HA;simp only[laws_wInts.l0] at H
    by_cases c4:x13_1<(l0.length:Int)
    ·rw[if_pos c4] at H
     have c4b0:decide (x13_1<(l0.length:Int))=true:=decide_eq_true c4;clear c4
     by_cases c5:0≤x13_1
     ·rw[if_pos c5] at H
      have c5b0:decide (0≤x13_1)=true:=decide_eq_true c5;clear c5
      by_cases c6:x13_1<(l0.length:Int)
      ·rw[if_pos c6] at H
       have c6b0:decide (x13_1<(l0.length:Int))=true:=decide_eq_true c6;clear c6
       by_cases c7:x13_1<(l1.length:Int)
       ·rw[if_pos c7] at H
        have c7b0:decide (x13_1<(l1.length:Int))=true:=decide_eq_true c7;clear c7
        by_cases c8:(rd l0 x13_1)=(rd l1 x13_1)
        ·rw[if_pos c8] at H
         have c8b0:((rd l0 x13_1)==(rd l1 x13_1))=true:=beq_iff_eq.mpr c8;have c8b1:((rd l0 x13_1) !=(rd l1 x13_1))=false:=bne_eq_false_iff_eq.mpr c8;clear c8;have H':=Aside0.mk H;clear H;have p147:0≤(x13_1:Int):=of_decide_eq_true (by first|(with_reducible assumption)|assumption);have q147:x13_1<(l0.length:Int):=of_decide_eq_true (by first|(with_reducible assumption)|assumption);obtain⟨ad147,e147,hx147_0⟩:=Kd.at_int HR0.out x13_1 p147 q147
         cases e147
         replace p147:=eq_true p147;replace q147:=eq_true q147;have p148:0≤(x13_1:Int):=of_decide_eq_true (by first|(with_reducible assumption)|assumption);have q148:x13_1<(l1.length:Int):=of_decide_eq_true (by first|(with_reducible assumption)|assumption);obtain⟨ad148,e148,hx148_0⟩:=Kd.at_int HR1.out x13_1 p148 q148
         cases e148
         replace p148:=eq_true p148;replace q148:=eq_true q148
         go_wp2
         repeat (go_quiet (fail);try go_wp2)
         go_roundg k1
         case measure=>have:=HK1.out;omega
         case rel=>exact⟨(wrap64 (x13_1+1)),(by first|rfl|(simp;done)|(simp[*];done)),H',⟨by have:=HK1.out;omega⟩,by repeat (first|exact Drawn0.refl _|apply Drawn0.step)⟩
        ·rw[if_neg c8] at H
         have c8b0:((rd l0 x13_1)==(rd l1 x13_1))=false:=beq_eq_false_iff_ne.mpr c8;have c8b1:((rd l0 x13_1) !=(rd l1 x13_1))=true:=bne_iff_ne.mpr c8;obtain rfl:=Option.some.inj H;have p147:0≤(x13_1:Int):=of_decide_eq_true (by first|(with_reducible assumption)|assumption);have q147:x13_1<(l0.length:Int):=of_decide_eq_true (by first|(with_reducible assumption)|assumption);obtain⟨ad147,e147,hx147_0⟩:=Kd.at_int HR0.out x13_1 p147 q147
         cases e147
         replace p147:=eq_true p147;replace q147:=eq_true q147;have p148:0≤(x13_1:Int):=of_decide_eq_true (by first|(with_reducible assumption)|assumption);have q148:x13_1<(l1.length:Int):=of_decide_eq_true (by first|(with_reducible assumption)|assumption);obtain⟨ad148,e148,hx148_0⟩:=Kd.at_int HR1.out x13_1 p148 q148
         cases e148
         replace p148:=eq_true p148;replace q148:=eq_true q148
         go_wp2
         repeat (go_quiet (fail);try go_wp2)
         go_ret
         exact⟨by first|rfl|(simp;done)|(simp[*];done),by repeat (first|exact Drawn0.refl _|apply Drawn0.step)⟩
       ·rw[if_neg c7] at H
        exact absurd H (by simp)
      ·rw[if_neg c6] at H
       exact absurd H (by simp)
     ·rw[if_neg c5] at H
      exact absurd H (by simp)
    ·rw[if_neg c4] at H
     have c4b0:decide (x13_1<(l0.length:Int))=false:=decide_eq_false c4;clear c4;obtain rfl:=Option.some.inj H
     go_wp2
     repeat (go_quiet (fail);try go_wp2)
     go_ret
     exact⟨by first|rfl|(simp;done)|(simp[*];done),by repeat (first|exact Drawn0.refl _|apply Drawn0.step)⟩
 ·rw[if_neg c3] at H
  have c3b0:((l0.length:Int)==(l1.length:Int))=false:=beq_eq_false_iff_ne.mpr c3;have c3b1:((l0.length:Int) !=(l1.length:Int))=true:=bne_iff_ne.mpr c3
  have c3b2:(l0.length==l1.length)=false:=by first|simpa using c3|(simp at c3 ⊢;omega)
  obtain rfl:=Option.some.inj H
  go_enter Try.func32,Try.ntmps32
  go_wp2
  repeat (go_quiet (fail);try go_wp2)
  go_ret
  exact⟨by first|rfl|(simp;done)|(simp[*];done),by repeat (first|exact Drawn0.refl _|apply Drawn0.step)⟩
end Go.Proofs.Ytejjedooecephaa.PFnPipe
end
