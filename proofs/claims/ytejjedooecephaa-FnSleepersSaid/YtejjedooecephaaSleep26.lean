/-
  Texts joined by a program (shake.py), without what the claim does not use; printed walks among them (print.sh), and own ones.
-/
import Derived.Test.YtejjedooecephaaSleep10
import Derived.Test.YtejjedooecephaaSleep25
import Derived.Below
section
namespace Go.BeatS
open Go.Beat
open Go Go.RowKit
abbrev i64 (n:Int):Value:=.int .i64 n
structure RawAt {τ:Type} (S:Sto τ) (w:World) (b:Nat) (cells:Array Value) (e:TypeId):Prop where
 hb:w.heap[b]?=some (.cells cells e (0,0))
 own:S.own b=none
theorem raw_same {τ:Type}{S:Sto τ}{w w':World}{b:Nat}{cells:Array Value}{e:TypeId}(hs:SameH w w')(r:RawAt S w b cells e):RawAt S w' b cells e:=⟨by rw[hs.heap];exact r.hb,r.own⟩
theorem raw_kp {τ:Type}{S S':Sto τ}{w w':World}{b:Nat}{cells:Array Value}{e:TypeId}(k:Kp S w S' w')(r:RawAt S w b cells e):RawAt S' w' b cells e:=
 have hlt:b<w.heap.size:=(Array.getElem?_eq_some_iff.1 r.hb).1
 ⟨(k.keep b hlt r.own).trans r.hb,(k.own b hlt).2 r.own⟩
def ME:Meta Empty:=⟨fun t=>t.elim,fun t=>t.elim,fun t=>t.elim⟩
def SE:Sto Empty:=⟨fun _=>none,fun t=>t.elim⟩
def cE:Cont Empty:=fun t=>t.elim
theorem st_empty {n:Nat}{fr:Fr}{a:Act}{w:World}(hF:Frm n [] a fr):St ME SE w n [] SE cE fr a w:=
 ⟨hF,fun t=>t.elim,fun _ _=>rfl,Kp.refl _ _⟩
theorem below_kp {τ:Type}{S S':Sto τ}{w w':World}(k:Kp S w S' w')(h:∀b,S.own b=none):Below w.heap.size w w':=
 ⟨k.os,k.tape,k.output,k.size,fun b hb=>k.keep b hb (h b)⟩
theorem raw_new {τ:Type}{M:Meta τ}{S0 S:Sto τ}{w0:World}{n:Nat}{ds:List Deferred}{c:Cont τ}{fr:Fr}{a:Act}{w:World}(X:St M S0 w0 n ds S c fr a w)(cells:Array Value)(e:TypeId):
  RawAt S (w.alloc (.cells cells e)) w.heap.size cells e:=
 ⟨by show (w.heap.push _)[w.heap.size]?=_;simp,X.fresh _ (Nat.le_refl _)⟩
def Says (P:Program)(f:FuncId)(vs:List Value)(w:World)(v:Value):Prop:=Calls P f vs.toArray w fun e w'=>∃u,e=.returned u∧(u=v∧Kp SE w SE w')
theorem st_kp {S0:Sto Empty}{w0 w w':World}{n:Nat}{ds:List Deferred}{fr fr':Fr}{a a':Act}(X:St ME S0 w0 n ds SE cE fr a w)(hF:Frm n ds a' fr')(k:Kp SE w SE w'):St ME S0 w0 n ds SE cE fr' a' w':=
 ⟨hF,fun t=>t.elim,fun _ _=>rfl,X.kp.trans k⟩
end Go.BeatS
end
section
set_option maxRecDepth 100000
set_option linter.unusedVariables false
set_option linter.unusedSimpArgs false
namespace Go.BeatS
open Go.Beat
open Go Go.Proofs Go.RowKit
def regB (a:Int):Bool:=decide (a≥0)&&decide (a<4)
def chanB (nr:Nat)(c:Int):Bool:=decide (c≥0)&&decide (c<nr)
theorem reg_says (a0:Int)(w:World):Says PG 83 [i64 a0] w (.bool (regB a0)):=by
 refine enter (D:=fun _=>True) Try.func83 rfl [i64 a0] (of_decide_eq_true rfl) ?_
 intro a hF;have X:St ME SE w Try.f83.ntmps [] SE cE _ a w:=st_empty hF
 refine seg tabOk mixOk X 9 [(0,(.int .i64 a0)),(2,(.bool false)),(5,(.bool (decide (a0≥0))))] (at_ Try.f83 [1,0,3]) [] (by kernel_rfl) ?_
 intro a1 w2 X3 hs4
 by_cases hq5:(decide (a0≥0))=true
 ·skip
  rw[hq5] at X3
  refine seg tabOk mixOk X3 5 [(2,(.bool (decide (a0<4))))] (at_ Try.f83 [2]) [] (by kernel_rfl) ?_
  intro a6 w7 X8 hs9
  refine WPK_ret (ret1 rfl X8.F rfl ⟨_,rfl,?_,X8.kp⟩)
  simp[regB,hq5]
 ·rw[Bool.not_eq_true] at hq5
  rw[hq5] at X3
  refine seg tabOk mixOk X3 5 [(2,(.bool false))] (at_ Try.f83 [2]) [] (by kernel_rfl) ?_
  intro a10 w11 X12 hs13
  refine WPK_ret (ret1 rfl X12.F rfl ⟨_,rfl,?_,X12.kp⟩)
  simp[regB,hq5]
theorem chan_says (c0:Int)(b:Nat)(A0 A1:Option Addr)(n0 k0 n1 k1:Nat)(sl:Int)(w:World)(hb:RawAt SE w b #[(.slice A0 n0 k0),(.slice A1 n1 k1),(.int .i64 sl)] 35):Says PG 82 [i64 c0,.pointer (some ⟨b,0,none⟩)] w (.bool (chanB n1 c0)):=by
 refine enter (D:=fun _=>True) Try.func82 rfl [i64 c0,.pointer (some ⟨b,0,none⟩)] (of_decide_eq_true rfl) ?_
 intro a hF;have X:St ME SE w Try.f82.ntmps [] SE cE _ a w:=st_empty hF
 refine seg tabOk mixOk X 9 [(0,(.int .i64 c0)),(1,(.pointer (some ⟨b,0,none⟩))),(3,(.bool false)),(6,(.bool (decide (c0≥0))))] (at_ Try.f82 [1,0,3]) [] (by kernel_rfl) ?_
 intro a1 w2 X3 hs4;have hb5:=raw_same hs4 hb
 by_cases hq6:(decide (c0≥0))=true
 ·skip
  rw[hq6] at X3
  refine seg tabOk mixOk X3 8 [(3,(.bool (decide (c0<(n1:Int)))))] (at_ Try.f82 [2]) [(9,rb PG hb5.hb 1 (.slice A1 n1 k1) rfl),(10,lenV PG 24 3 rfl A1 n1 k1)] (by kernel_rfl) ?_
  intro a7 w8 X9 hs10;have hb11:=raw_same hs10 hb5
  refine WPK_ret (ret1 rfl X9.F rfl ⟨_,rfl,?_,X9.kp⟩)
  simp[chanB,hq6]
 ·rw[Bool.not_eq_true] at hq6
  rw[hq6] at X3
  refine seg tabOk mixOk X3 8 [(3,(.bool false))] (at_ Try.f82 [2]) [] (by kernel_rfl) ?_
  intro a12 w13 X14 hs15;have hb16:=raw_same hs15 hb5
  refine WPK_ret (ret1 rfl X14.F rfl ⟨_,rfl,?_,X14.kp⟩)
  simp[chanB,hq6]
def stepB (nb nr:Nat)(op a b m z:Int):Bool:=
 if op=1 then regB a&&((b==0)&&(z==0))
 else if op=2 then regB a&&(regB b&&(z==0))
 else if op=3∨op=4∨op=5∨op=8 then regB a&&((b==0)&&((m==0)&&(z==0)))
 else if op=6∨op=14 then (a==0)&&((b==0)&&((m==0)&&(z==0)))
 else if op=7 then regB a&&(decide (b≥0)&&(decide (b<nb)&&((m==0)&&(z==0))))
 else if op=9∨op=10 then regB a&&(chanB nr b&&((m==0)&&(z==0)))
 else if op=11 then regB a&&(chanB nr b&&(decide (m≥0)&&(decide (m≤1000000)&&(z==0))))
 else if op=12 then regB a&&(chanB nr b&&(chanB nr m&&(z==0)))
 else if op=13 then (a==0)&&(chanB nr b&&((m==0)&&(z==0)))
 else if op=15∨op=16 then regB a&&((b==0)&&((m==0)&&decide (z≥0)))
 else false
abbrev plan4 (A0 A1:Option Addr)(n0 k0 n1 k1:Nat)(sl:Int):Array Value:=#[(.slice A0 n0 k0),(.slice A1 n1 k1),(.int .i64 sl)]
abbrev step5 (op a0 b0 m0 z0:Int):Array Value:=#[(.int .i64 op),(.int .i64 a0),(.int .i64 b0),(.int .i64 m0),(.int .i64 z0)]
theorem step_1 (A0 A1:Option Addr)(n0 k0 n1 k1:Nat)(sl a0 b0 m0 z0:Int)(b2 b3:Nat)(pa pb pn pz:Bool)(hpa:pa=(a0==0))(hpb:pb=(b0==0))(hpn:pn=(m0==0))(hpz:pz=(z0==0))(w0 w:World)(a:Act)(X:St ME SE w0 Try.f65.ntmps [] SE cE [(2,(.pointer (some ⟨b2,0,none⟩))),(3,(.pointer (some ⟨b3,0,none⟩))),(4,(.bool false)),(5,(.func (.func 82) #[] #[(.pointer (some ⟨b2,0,none⟩))])),(6,(.bool pa)),(7,(.bool pb)),(8,(.bool pn)),(9,(.bool pz)),(24,(.int .i64 1))] a w)(hb2:RawAt SE w b2 (plan4 A0 A1 n0 k0 n1 k1 sl) 35)(hb3:RawAt SE w b3 (step5 1 a0 b0 m0 z0) 100):
  WPK PG (fun _=>True) (at_ Try.f65 [3,0,1,0,0]) (bodyPost PG Try.f65 fun e w'=>∃u,e=.returned u∧(u=.bool (stepB n0 n1 1 a0 b0 m0 z0)∧Kp SE w0 SE w')) a w:=by
 refine seg tabOk mixOk X 9 [(4,(.bool false)),(7,(.bool pb)),(9,(.bool pz)),(28,(.int .i64 a0))] (at_ Try.f65 [3,0,1,0,1,0,0,2]) [(28,rb PG hb3.hb 1 (.int .i64 a0) rfl)] (by kernel_rfl) ?_
 intro a1 w2 X3 hs4;have hb5:=raw_same hs4 hb2;have hb6:=raw_same hs4 hb3
 refine ev_call (args:=#[(.tmp 28)]) (ats:=#[3]) (dst:=some 29) (ty:=4) (K':=(at_ Try.f65 [3,0,1,0,1,0,0,3])) (dt:=false) X3.F (by kernel_rfl) [(.int .i64 a0)] rfl (by kernel_rfl) (reg_says a0 _) ?_
 rintro _ a7 w8 ⟨rfl,hs11⟩ _ h10;refine⟨fun h=>(by cases h),?_⟩;have X9:=st_kp X3 (h10 _ rfl) hs11;have hb12:=raw_kp hs11 hb5;have hb13:=raw_kp hs11 hb6
 refine seg tabOk mixOk X9 1 [(4,(.bool false)),(7,(.bool pb)),(9,(.bool pz)),(30,(.bool (regB a0)))] (at_ Try.f65 [3,0,1,0,1,0,0,4]) [] (by kernel_rfl) ?_
 intro a14 w15 X16 hs17;have hb18:=raw_same hs17 hb12;have hb19:=raw_same hs17 hb13
 by_cases hq20:(regB a0)=true
 ·skip
  rw[hq20] at X16
  refine seg tabOk mixOk X16 3 [(4,(.bool false)),(9,(.bool pz)),(33,(.bool pb))] (at_ Try.f65 [3,0,1,0,1,0,0,7]) [] (by kernel_rfl) ?_
  intro a21 w22 X23 hs24;have hb25:=raw_same hs24 hb18;have hb26:=raw_same hs24 hb19
  by_cases hq27:pb=true
  ·skip
   rw[hq27] at X23
   refine seg tabOk mixOk X23 4 [(4,(.bool pz))] (at_ Try.f65 [3,0,1,0,1,0,1]) [] (by kernel_rfl) ?_
   intro a28 w29 X30 hs31;have hb32:=raw_same hs31 hb25;have hb33:=raw_same hs31 hb26
   refine WPK_ret (ret1 rfl X30.F rfl ⟨_,rfl,?_,X30.kp⟩)
   simp[stepB,←hpa,←hpb,←hpn,←hpz,hq20,hq27]
  ·rw[Bool.not_eq_true] at hq27
   rw[hq27] at X23
   refine seg tabOk mixOk X23 4 [(4,(.bool false))] (at_ Try.f65 [3,0,1,0,1,0,1]) [] (by kernel_rfl) ?_
   intro a34 w35 X36 hs37;have hb38:=raw_same hs37 hb25;have hb39:=raw_same hs37 hb26
   refine WPK_ret (ret1 rfl X36.F rfl ⟨_,rfl,?_,X36.kp⟩)
   simp[stepB,←hpa,←hpb,←hpn,←hpz,hq20,hq27]
 ·rw[Bool.not_eq_true] at hq20
  rw[hq20] at X16
  refine seg tabOk mixOk X16 7 [(4,(.bool false))] (at_ Try.f65 [3,0,1,0,1,0,1]) [] (by kernel_rfl) ?_
  intro a40 w41 X42 hs43;have hb44:=raw_same hs43 hb18;have hb45:=raw_same hs43 hb19
  refine WPK_ret (ret1 rfl X42.F rfl ⟨_,rfl,?_,X42.kp⟩)
  simp[stepB,←hpa,←hpb,←hpn,←hpz,hq20]
theorem step_2 (A0 A1:Option Addr)(n0 k0 n1 k1:Nat)(sl a0 b0 m0 z0:Int)(b2 b3:Nat)(pa pb pn pz:Bool)(hpa:pa=(a0==0))(hpb:pb=(b0==0))(hpn:pn=(m0==0))(hpz:pz=(z0==0))(w0 w:World)(a:Act)(X:St ME SE w0 Try.f65.ntmps [] SE cE [(2,(.pointer (some ⟨b2,0,none⟩))),(3,(.pointer (some ⟨b3,0,none⟩))),(4,(.bool false)),(5,(.func (.func 82) #[] #[(.pointer (some ⟨b2,0,none⟩))])),(6,(.bool pa)),(7,(.bool pb)),(8,(.bool pn)),(9,(.bool pz)),(24,(.int .i64 2))] a w)(hb2:RawAt SE w b2 (plan4 A0 A1 n0 k0 n1 k1 sl) 35)(hb3:RawAt SE w b3 (step5 2 a0 b0 m0 z0) 100):
  WPK PG (fun _=>True) (at_ Try.f65 [3,0,1,0,0]) (bodyPost PG Try.f65 fun e w'=>∃u,e=.returned u∧(u=.bool (stepB n0 n1 2 a0 b0 m0 z0)∧Kp SE w0 SE w')) a w:=by
 refine seg tabOk mixOk X 15 [(3,(.pointer (some ⟨b3,0,none⟩))),(4,(.bool false)),(9,(.bool pz)),(39,(.int .i64 a0))] (at_ Try.f65 [3,0,1,0,1,1,1,0,0,2]) [(39,rb PG hb3.hb 1 (.int .i64 a0) rfl)] (by kernel_rfl) ?_
 intro a1 w2 X3 hs4;have hb5:=raw_same hs4 hb2;have hb6:=raw_same hs4 hb3
 refine ev_call (args:=#[(.tmp 39)]) (ats:=#[3]) (dst:=some 40) (ty:=4) (K':=(at_ Try.f65 [3,0,1,0,1,1,1,0,0,3])) (dt:=false) X3.F (by kernel_rfl) [(.int .i64 a0)] rfl (by kernel_rfl) (reg_says a0 _) ?_
 rintro _ a7 w8 ⟨rfl,hs11⟩ _ h10;refine⟨fun h=>(by cases h),?_⟩;have X9:=st_kp X3 (h10 _ rfl) hs11;have hb12:=raw_kp hs11 hb5;have hb13:=raw_kp hs11 hb6
 refine seg tabOk mixOk X9 1 [(3,(.pointer (some ⟨b3,0,none⟩))),(4,(.bool false)),(9,(.bool pz)),(41,(.bool (regB a0)))] (at_ Try.f65 [3,0,1,0,1,1,1,0,0,4]) [] (by kernel_rfl) ?_
 intro a14 w15 X16 hs17;have hb18:=raw_same hs17 hb12;have hb19:=raw_same hs17 hb13
 by_cases hq20:(regB a0)=true
 ·skip
  rw[hq20] at X16
  refine seg tabOk mixOk X16 2 [(4,(.bool false)),(9,(.bool pz)),(41,(.bool true)),(43,(.int .i64 b0))] (at_ Try.f65 [3,0,1,0,1,1,1,0,0,6]) [(43,rb PG hb19.hb 2 (.int .i64 b0) rfl)] (by kernel_rfl) ?_
  intro a21 w22 X23 hs24;have hb25:=raw_same hs24 hb18;have hb26:=raw_same hs24 hb19
  refine ev_call (args:=#[(.tmp 43)]) (ats:=#[3]) (dst:=some 44) (ty:=4) (K':=(at_ Try.f65 [3,0,1,0,1,1,1,0,0,7])) (dt:=false) X23.F (by kernel_rfl) [(.int .i64 b0)] rfl (by kernel_rfl) (reg_says b0 _) ?_
  rintro _ a27 w28 ⟨rfl,hs31⟩ _ h30;refine⟨fun h=>(by cases h),?_⟩;have X29:=st_kp X23 (h30 _ rfl) hs31;have hb32:=raw_kp hs31 hb25;have hb33:=raw_kp hs31 hb26
  refine seg tabOk mixOk X29 2 [(4,(.bool false)),(9,(.bool pz)),(46,(.bool (regB b0)))] (at_ Try.f65 [3,0,1,0,1,1,1,0,0,9]) [] (by kernel_rfl) ?_
  intro a34 w35 X36 hs37;have hb38:=raw_same hs37 hb32;have hb39:=raw_same hs37 hb33
  by_cases hq40:(regB b0)=true
  ·skip
   rw[hq40] at X36
   refine seg tabOk mixOk X36 4 [(4,(.bool pz))] (at_ Try.f65 [3,0,1,0,1,1,1,0,1]) [] (by kernel_rfl) ?_
   intro a41 w42 X43 hs44;have hb45:=raw_same hs44 hb38;have hb46:=raw_same hs44 hb39
   refine WPK_ret (ret1 rfl X43.F rfl ⟨_,rfl,?_,X43.kp⟩)
   simp[stepB,←hpa,←hpb,←hpn,←hpz,hq20,hq40]
  ·rw[Bool.not_eq_true] at hq40
   rw[hq40] at X36
   refine seg tabOk mixOk X36 4 [(4,(.bool false))] (at_ Try.f65 [3,0,1,0,1,1,1,0,1]) [] (by kernel_rfl) ?_
   intro a47 w48 X49 hs50;have hb51:=raw_same hs50 hb38;have hb52:=raw_same hs50 hb39
   refine WPK_ret (ret1 rfl X49.F rfl ⟨_,rfl,?_,X49.kp⟩)
   simp[stepB,←hpa,←hpb,←hpn,←hpz,hq20,hq40]
 ·rw[Bool.not_eq_true] at hq20
  rw[hq20] at X16
  refine seg tabOk mixOk X16 9 [(4,(.bool false))] (at_ Try.f65 [3,0,1,0,1,1,1,0,1]) [] (by kernel_rfl) ?_
  intro a53 w54 X55 hs56;have hb57:=raw_same hs56 hb18;have hb58:=raw_same hs56 hb19
  refine WPK_ret (ret1 rfl X55.F rfl ⟨_,rfl,?_,X55.kp⟩)
  simp[stepB,←hpa,←hpb,←hpn,←hpz,hq20]
theorem step_3 (A0 A1:Option Addr)(n0 k0 n1 k1:Nat)(sl a0 b0 m0 z0:Int)(b2 b3:Nat)(pa pb pn pz:Bool)(hpa:pa=(a0==0))(hpb:pb=(b0==0))(hpn:pn=(m0==0))(hpz:pz=(z0==0))(w0 w:World)(a:Act)(X:St ME SE w0 Try.f65.ntmps [] SE cE [(2,(.pointer (some ⟨b2,0,none⟩))),(3,(.pointer (some ⟨b3,0,none⟩))),(4,(.bool false)),(5,(.func (.func 82) #[] #[(.pointer (some ⟨b2,0,none⟩))])),(6,(.bool pa)),(7,(.bool pb)),(8,(.bool pn)),(9,(.bool pz)),(24,(.int .i64 3))] a w)(hb2:RawAt SE w b2 (plan4 A0 A1 n0 k0 n1 k1 sl) 35)(hb3:RawAt SE w b3 (step5 3 a0 b0 m0 z0) 100):
  WPK PG (fun _=>True) (at_ Try.f65 [3,0,1,0,0]) (bodyPost PG Try.f65 fun e w'=>∃u,e=.returned u∧(u=.bool (stepB n0 n1 3 a0 b0 m0 z0)∧Kp SE w0 SE w')) a w:=by
 refine seg tabOk mixOk X 24 [(4,(.bool false)),(7,(.bool pb)),(8,(.bool pn)),(9,(.bool pz)),(55,(.int .i64 a0))] (at_ Try.f65 [3,0,1,0,1,1,1,1,1,0,0,2]) [(55,rb PG hb3.hb 1 (.int .i64 a0) rfl)] (by kernel_rfl) ?_
 intro a1 w2 X3 hs4;have hb5:=raw_same hs4 hb2;have hb6:=raw_same hs4 hb3
 refine ev_call (args:=#[(.tmp 55)]) (ats:=#[3]) (dst:=some 56) (ty:=4) (K':=(at_ Try.f65 [3,0,1,0,1,1,1,1,1,0,0,3])) (dt:=false) X3.F (by kernel_rfl) [(.int .i64 a0)] rfl (by kernel_rfl) (reg_says a0 _) ?_
 rintro _ a7 w8 ⟨rfl,hs11⟩ _ h10;refine⟨fun h=>(by cases h),?_⟩;have X9:=st_kp X3 (h10 _ rfl) hs11;have hb12:=raw_kp hs11 hb5;have hb13:=raw_kp hs11 hb6
 refine seg tabOk mixOk X9 1 [(4,(.bool false)),(7,(.bool pb)),(8,(.bool pn)),(9,(.bool pz)),(57,(.bool (regB a0)))] (at_ Try.f65 [3,0,1,0,1,1,1,1,1,0,0,4]) [] (by kernel_rfl) ?_
 intro a14 w15 X16 hs17;have hb18:=raw_same hs17 hb12;have hb19:=raw_same hs17 hb13
 by_cases hq20:(regB a0)=true
 ·skip
  rw[hq20] at X16
  refine seg tabOk mixOk X16 3 [(4,(.bool false)),(8,(.bool pn)),(9,(.bool pz)),(60,(.bool pb))] (at_ Try.f65 [3,0,1,0,1,1,1,1,1,0,0,7]) [] (by kernel_rfl) ?_
  intro a21 w22 X23 hs24;have hb25:=raw_same hs24 hb18;have hb26:=raw_same hs24 hb19
  by_cases hq27:pb=true
  ·skip
   rw[hq27] at X23
   refine seg tabOk mixOk X23 3 [(4,(.bool false)),(9,(.bool pz)),(63,(.bool pn))] (at_ Try.f65 [3,0,1,0,1,1,1,1,1,0,0,10]) [] (by kernel_rfl) ?_
   intro a28 w29 X30 hs31;have hb32:=raw_same hs31 hb25;have hb33:=raw_same hs31 hb26
   by_cases hq34:pn=true
   ·skip
    rw[hq34] at X30
    refine seg tabOk mixOk X30 4 [(4,(.bool pz))] (at_ Try.f65 [3,0,1,0,1,1,1,1,1,0,1]) [] (by kernel_rfl) ?_
    intro a35 w36 X37 hs38;have hb39:=raw_same hs38 hb32;have hb40:=raw_same hs38 hb33
    refine WPK_ret (ret1 rfl X37.F rfl ⟨_,rfl,?_,X37.kp⟩)
    simp[stepB,←hpa,←hpb,←hpn,←hpz,hq20,hq27,hq34]
   ·rw[Bool.not_eq_true] at hq34
    rw[hq34] at X30
    refine seg tabOk mixOk X30 4 [(4,(.bool false))] (at_ Try.f65 [3,0,1,0,1,1,1,1,1,0,1]) [] (by kernel_rfl) ?_
    intro a41 w42 X43 hs44;have hb45:=raw_same hs44 hb32;have hb46:=raw_same hs44 hb33
    refine WPK_ret (ret1 rfl X43.F rfl ⟨_,rfl,?_,X43.kp⟩)
    simp[stepB,←hpa,←hpb,←hpn,←hpz,hq20,hq27,hq34]
  ·rw[Bool.not_eq_true] at hq27
   rw[hq27] at X23
   refine seg tabOk mixOk X23 7 [(4,(.bool false))] (at_ Try.f65 [3,0,1,0,1,1,1,1,1,0,1]) [] (by kernel_rfl) ?_
   intro a47 w48 X49 hs50;have hb51:=raw_same hs50 hb25;have hb52:=raw_same hs50 hb26
   refine WPK_ret (ret1 rfl X49.F rfl ⟨_,rfl,?_,X49.kp⟩)
   simp[stepB,←hpa,←hpb,←hpn,←hpz,hq20,hq27]
 ·rw[Bool.not_eq_true] at hq20
  rw[hq20] at X16
  refine seg tabOk mixOk X16 10 [(4,(.bool false))] (at_ Try.f65 [3,0,1,0,1,1,1,1,1,0,1]) [] (by kernel_rfl) ?_
  intro a53 w54 X55 hs56;have hb57:=raw_same hs56 hb18;have hb58:=raw_same hs56 hb19
  refine WPK_ret (ret1 rfl X55.F rfl ⟨_,rfl,?_,X55.kp⟩)
  simp[stepB,←hpa,←hpb,←hpn,←hpz,hq20]
theorem step_4 (A0 A1:Option Addr)(n0 k0 n1 k1:Nat)(sl a0 b0 m0 z0:Int)(b2 b3:Nat)(pa pb pn pz:Bool)(hpa:pa=(a0==0))(hpb:pb=(b0==0))(hpn:pn=(m0==0))(hpz:pz=(z0==0))(w0 w:World)(a:Act)(X:St ME SE w0 Try.f65.ntmps [] SE cE [(2,(.pointer (some ⟨b2,0,none⟩))),(3,(.pointer (some ⟨b3,0,none⟩))),(4,(.bool false)),(5,(.func (.func 82) #[] #[(.pointer (some ⟨b2,0,none⟩))])),(6,(.bool pa)),(7,(.bool pb)),(8,(.bool pn)),(9,(.bool pz)),(24,(.int .i64 4))] a w)(hb2:RawAt SE w b2 (plan4 A0 A1 n0 k0 n1 k1 sl) 35)(hb3:RawAt SE w b3 (step5 4 a0 b0 m0 z0) 100):
  WPK PG (fun _=>True) (at_ Try.f65 [3,0,1,0,0]) (bodyPost PG Try.f65 fun e w'=>∃u,e=.returned u∧(u=.bool (stepB n0 n1 4 a0 b0 m0 z0)∧Kp SE w0 SE w')) a w:=by
 refine seg tabOk mixOk X 30 [(4,(.bool false)),(7,(.bool pb)),(8,(.bool pn)),(9,(.bool pz)),(55,(.int .i64 a0))] (at_ Try.f65 [3,0,1,0,1,1,1,1,1,0,0,2]) [(55,rb PG hb3.hb 1 (.int .i64 a0) rfl)] (by kernel_rfl) ?_
 intro a1 w2 X3 hs4;have hb5:=raw_same hs4 hb2;have hb6:=raw_same hs4 hb3
 refine ev_call (args:=#[(.tmp 55)]) (ats:=#[3]) (dst:=some 56) (ty:=4) (K':=(at_ Try.f65 [3,0,1,0,1,1,1,1,1,0,0,3])) (dt:=false) X3.F (by kernel_rfl) [(.int .i64 a0)] rfl (by kernel_rfl) (reg_says a0 _) ?_
 rintro _ a7 w8 ⟨rfl,hs11⟩ _ h10;refine⟨fun h=>(by cases h),?_⟩;have X9:=st_kp X3 (h10 _ rfl) hs11;have hb12:=raw_kp hs11 hb5;have hb13:=raw_kp hs11 hb6
 refine seg tabOk mixOk X9 1 [(4,(.bool false)),(7,(.bool pb)),(8,(.bool pn)),(9,(.bool pz)),(57,(.bool (regB a0)))] (at_ Try.f65 [3,0,1,0,1,1,1,1,1,0,0,4]) [] (by kernel_rfl) ?_
 intro a14 w15 X16 hs17;have hb18:=raw_same hs17 hb12;have hb19:=raw_same hs17 hb13
 by_cases hq20:(regB a0)=true
 ·skip
  rw[hq20] at X16
  refine seg tabOk mixOk X16 3 [(4,(.bool false)),(8,(.bool pn)),(9,(.bool pz)),(60,(.bool pb))] (at_ Try.f65 [3,0,1,0,1,1,1,1,1,0,0,7]) [] (by kernel_rfl) ?_
  intro a21 w22 X23 hs24;have hb25:=raw_same hs24 hb18;have hb26:=raw_same hs24 hb19
  by_cases hq27:pb=true
  ·skip
   rw[hq27] at X23
   refine seg tabOk mixOk X23 3 [(4,(.bool false)),(9,(.bool pz)),(63,(.bool pn))] (at_ Try.f65 [3,0,1,0,1,1,1,1,1,0,0,10]) [] (by kernel_rfl) ?_
   intro a28 w29 X30 hs31;have hb32:=raw_same hs31 hb25;have hb33:=raw_same hs31 hb26
   by_cases hq34:pn=true
   ·skip
    rw[hq34] at X30
    refine seg tabOk mixOk X30 4 [(4,(.bool pz))] (at_ Try.f65 [3,0,1,0,1,1,1,1,1,0,1]) [] (by kernel_rfl) ?_
    intro a35 w36 X37 hs38;have hb39:=raw_same hs38 hb32;have hb40:=raw_same hs38 hb33
    refine WPK_ret (ret1 rfl X37.F rfl ⟨_,rfl,?_,X37.kp⟩)
    simp[stepB,←hpa,←hpb,←hpn,←hpz,hq20,hq27,hq34]
   ·rw[Bool.not_eq_true] at hq34
    rw[hq34] at X30
    refine seg tabOk mixOk X30 4 [(4,(.bool false))] (at_ Try.f65 [3,0,1,0,1,1,1,1,1,0,1]) [] (by kernel_rfl) ?_
    intro a41 w42 X43 hs44;have hb45:=raw_same hs44 hb32;have hb46:=raw_same hs44 hb33
    refine WPK_ret (ret1 rfl X43.F rfl ⟨_,rfl,?_,X43.kp⟩)
    simp[stepB,←hpa,←hpb,←hpn,←hpz,hq20,hq27,hq34]
  ·rw[Bool.not_eq_true] at hq27
   rw[hq27] at X23
   refine seg tabOk mixOk X23 7 [(4,(.bool false))] (at_ Try.f65 [3,0,1,0,1,1,1,1,1,0,1]) [] (by kernel_rfl) ?_
   intro a47 w48 X49 hs50;have hb51:=raw_same hs50 hb25;have hb52:=raw_same hs50 hb26
   refine WPK_ret (ret1 rfl X49.F rfl ⟨_,rfl,?_,X49.kp⟩)
   simp[stepB,←hpa,←hpb,←hpn,←hpz,hq20,hq27]
 ·rw[Bool.not_eq_true] at hq20
  rw[hq20] at X16
  refine seg tabOk mixOk X16 10 [(4,(.bool false))] (at_ Try.f65 [3,0,1,0,1,1,1,1,1,0,1]) [] (by kernel_rfl) ?_
  intro a53 w54 X55 hs56;have hb57:=raw_same hs56 hb18;have hb58:=raw_same hs56 hb19
  refine WPK_ret (ret1 rfl X55.F rfl ⟨_,rfl,?_,X55.kp⟩)
  simp[stepB,←hpa,←hpb,←hpn,←hpz,hq20]
theorem step_5 (A0 A1:Option Addr)(n0 k0 n1 k1:Nat)(sl a0 b0 m0 z0:Int)(b2 b3:Nat)(pa pb pn pz:Bool)(hpa:pa=(a0==0))(hpb:pb=(b0==0))(hpn:pn=(m0==0))(hpz:pz=(z0==0))(w0 w:World)(a:Act)(X:St ME SE w0 Try.f65.ntmps [] SE cE [(2,(.pointer (some ⟨b2,0,none⟩))),(3,(.pointer (some ⟨b3,0,none⟩))),(4,(.bool false)),(5,(.func (.func 82) #[] #[(.pointer (some ⟨b2,0,none⟩))])),(6,(.bool pa)),(7,(.bool pb)),(8,(.bool pn)),(9,(.bool pz)),(24,(.int .i64 5))] a w)(hb2:RawAt SE w b2 (plan4 A0 A1 n0 k0 n1 k1 sl) 35)(hb3:RawAt SE w b3 (step5 5 a0 b0 m0 z0) 100):
  WPK PG (fun _=>True) (at_ Try.f65 [3,0,1,0,0]) (bodyPost PG Try.f65 fun e w'=>∃u,e=.returned u∧(u=.bool (stepB n0 n1 5 a0 b0 m0 z0)∧Kp SE w0 SE w')) a w:=by
 refine seg tabOk mixOk X 36 [(4,(.bool false)),(7,(.bool pb)),(8,(.bool pn)),(9,(.bool pz)),(55,(.int .i64 a0))] (at_ Try.f65 [3,0,1,0,1,1,1,1,1,0,0,2]) [(55,rb PG hb3.hb 1 (.int .i64 a0) rfl)] (by kernel_rfl) ?_
 intro a1 w2 X3 hs4;have hb5:=raw_same hs4 hb2;have hb6:=raw_same hs4 hb3
 refine ev_call (args:=#[(.tmp 55)]) (ats:=#[3]) (dst:=some 56) (ty:=4) (K':=(at_ Try.f65 [3,0,1,0,1,1,1,1,1,0,0,3])) (dt:=false) X3.F (by kernel_rfl) [(.int .i64 a0)] rfl (by kernel_rfl) (reg_says a0 _) ?_
 rintro _ a7 w8 ⟨rfl,hs11⟩ _ h10;refine⟨fun h=>(by cases h),?_⟩;have X9:=st_kp X3 (h10 _ rfl) hs11;have hb12:=raw_kp hs11 hb5;have hb13:=raw_kp hs11 hb6
 refine seg tabOk mixOk X9 1 [(4,(.bool false)),(7,(.bool pb)),(8,(.bool pn)),(9,(.bool pz)),(57,(.bool (regB a0)))] (at_ Try.f65 [3,0,1,0,1,1,1,1,1,0,0,4]) [] (by kernel_rfl) ?_
 intro a14 w15 X16 hs17;have hb18:=raw_same hs17 hb12;have hb19:=raw_same hs17 hb13
 by_cases hq20:(regB a0)=true
 ·skip
  rw[hq20] at X16
  refine seg tabOk mixOk X16 3 [(4,(.bool false)),(8,(.bool pn)),(9,(.bool pz)),(60,(.bool pb))] (at_ Try.f65 [3,0,1,0,1,1,1,1,1,0,0,7]) [] (by kernel_rfl) ?_
  intro a21 w22 X23 hs24;have hb25:=raw_same hs24 hb18;have hb26:=raw_same hs24 hb19
  by_cases hq27:pb=true
  ·skip
   rw[hq27] at X23
   refine seg tabOk mixOk X23 3 [(4,(.bool false)),(9,(.bool pz)),(63,(.bool pn))] (at_ Try.f65 [3,0,1,0,1,1,1,1,1,0,0,10]) [] (by kernel_rfl) ?_
   intro a28 w29 X30 hs31;have hb32:=raw_same hs31 hb25;have hb33:=raw_same hs31 hb26
   by_cases hq34:pn=true
   ·skip
    rw[hq34] at X30
    refine seg tabOk mixOk X30 4 [(4,(.bool pz))] (at_ Try.f65 [3,0,1,0,1,1,1,1,1,0,1]) [] (by kernel_rfl) ?_
    intro a35 w36 X37 hs38;have hb39:=raw_same hs38 hb32;have hb40:=raw_same hs38 hb33
    refine WPK_ret (ret1 rfl X37.F rfl ⟨_,rfl,?_,X37.kp⟩)
    simp[stepB,←hpa,←hpb,←hpn,←hpz,hq20,hq27,hq34]
   ·rw[Bool.not_eq_true] at hq34
    rw[hq34] at X30
    refine seg tabOk mixOk X30 4 [(4,(.bool false))] (at_ Try.f65 [3,0,1,0,1,1,1,1,1,0,1]) [] (by kernel_rfl) ?_
    intro a41 w42 X43 hs44;have hb45:=raw_same hs44 hb32;have hb46:=raw_same hs44 hb33
    refine WPK_ret (ret1 rfl X43.F rfl ⟨_,rfl,?_,X43.kp⟩)
    simp[stepB,←hpa,←hpb,←hpn,←hpz,hq20,hq27,hq34]
  ·rw[Bool.not_eq_true] at hq27
   rw[hq27] at X23
   refine seg tabOk mixOk X23 7 [(4,(.bool false))] (at_ Try.f65 [3,0,1,0,1,1,1,1,1,0,1]) [] (by kernel_rfl) ?_
   intro a47 w48 X49 hs50;have hb51:=raw_same hs50 hb25;have hb52:=raw_same hs50 hb26
   refine WPK_ret (ret1 rfl X49.F rfl ⟨_,rfl,?_,X49.kp⟩)
   simp[stepB,←hpa,←hpb,←hpn,←hpz,hq20,hq27]
 ·rw[Bool.not_eq_true] at hq20
  rw[hq20] at X16
  refine seg tabOk mixOk X16 10 [(4,(.bool false))] (at_ Try.f65 [3,0,1,0,1,1,1,1,1,0,1]) [] (by kernel_rfl) ?_
  intro a53 w54 X55 hs56;have hb57:=raw_same hs56 hb18;have hb58:=raw_same hs56 hb19
  refine WPK_ret (ret1 rfl X55.F rfl ⟨_,rfl,?_,X55.kp⟩)
  simp[stepB,←hpa,←hpb,←hpn,←hpz,hq20]
theorem step_6 (A0 A1:Option Addr)(n0 k0 n1 k1:Nat)(sl a0 b0 m0 z0:Int)(b2 b3:Nat)(pa pb pn pz:Bool)(hpa:pa=(a0==0))(hpb:pb=(b0==0))(hpn:pn=(m0==0))(hpz:pz=(z0==0))(w0 w:World)(a:Act)(X:St ME SE w0 Try.f65.ntmps [] SE cE [(2,(.pointer (some ⟨b2,0,none⟩))),(3,(.pointer (some ⟨b3,0,none⟩))),(4,(.bool false)),(5,(.func (.func 82) #[] #[(.pointer (some ⟨b2,0,none⟩))])),(6,(.bool pa)),(7,(.bool pb)),(8,(.bool pn)),(9,(.bool pz)),(24,(.int .i64 6))] a w)(hb2:RawAt SE w b2 (plan4 A0 A1 n0 k0 n1 k1 sl) 35)(hb3:RawAt SE w b3 (step5 6 a0 b0 m0 z0) 100):
  WPK PG (fun _=>True) (at_ Try.f65 [3,0,1,0,0]) (bodyPost PG Try.f65 fun e w'=>∃u,e=.returned u∧(u=.bool (stepB n0 n1 6 a0 b0 m0 z0)∧Kp SE w0 SE w')) a w:=by
 refine seg tabOk mixOk X 48 [(4,(.bool false)),(7,(.bool pb)),(8,(.bool pn)),(9,(.bool pz)),(70,(.bool pa))] (at_ Try.f65 [3,0,1,0,1,1,1,1,1,1,1,0,0,2]) [] (by kernel_rfl) ?_
 intro a1 w2 X3 hs4;have hb5:=raw_same hs4 hb2;have hb6:=raw_same hs4 hb3
 by_cases hq7:pa=true
 ·skip
  rw[hq7] at X3
  refine seg tabOk mixOk X3 3 [(4,(.bool false)),(8,(.bool pn)),(9,(.bool pz)),(73,(.bool pb))] (at_ Try.f65 [3,0,1,0,1,1,1,1,1,1,1,0,0,5]) [] (by kernel_rfl) ?_
  intro a8 w9 X10 hs11;have hb12:=raw_same hs11 hb5;have hb13:=raw_same hs11 hb6
  by_cases hq14:pb=true
  ·skip
   rw[hq14] at X10
   refine seg tabOk mixOk X10 3 [(4,(.bool false)),(9,(.bool pz)),(76,(.bool pn))] (at_ Try.f65 [3,0,1,0,1,1,1,1,1,1,1,0,0,8]) [] (by kernel_rfl) ?_
   intro a15 w16 X17 hs18;have hb19:=raw_same hs18 hb12;have hb20:=raw_same hs18 hb13
   by_cases hq21:pn=true
   ·skip
    rw[hq21] at X17
    refine seg tabOk mixOk X17 4 [(4,(.bool pz))] (at_ Try.f65 [3,0,1,0,1,1,1,1,1,1,1,0,1]) [] (by kernel_rfl) ?_
    intro a22 w23 X24 hs25;have hb26:=raw_same hs25 hb19;have hb27:=raw_same hs25 hb20
    refine WPK_ret (ret1 rfl X24.F rfl ⟨_,rfl,?_,X24.kp⟩)
    simp[stepB,←hpa,←hpb,←hpn,←hpz,hq7,hq14,hq21]
   ·rw[Bool.not_eq_true] at hq21
    rw[hq21] at X17
    refine seg tabOk mixOk X17 4 [(4,(.bool false))] (at_ Try.f65 [3,0,1,0,1,1,1,1,1,1,1,0,1]) [] (by kernel_rfl) ?_
    intro a28 w29 X30 hs31;have hb32:=raw_same hs31 hb19;have hb33:=raw_same hs31 hb20
    refine WPK_ret (ret1 rfl X30.F rfl ⟨_,rfl,?_,X30.kp⟩)
    simp[stepB,←hpa,←hpb,←hpn,←hpz,hq7,hq14,hq21]
  ·rw[Bool.not_eq_true] at hq14
   rw[hq14] at X10
   refine seg tabOk mixOk X10 7 [(4,(.bool false))] (at_ Try.f65 [3,0,1,0,1,1,1,1,1,1,1,0,1]) [] (by kernel_rfl) ?_
   intro a34 w35 X36 hs37;have hb38:=raw_same hs37 hb12;have hb39:=raw_same hs37 hb13
   refine WPK_ret (ret1 rfl X36.F rfl ⟨_,rfl,?_,X36.kp⟩)
   simp[stepB,←hpa,←hpb,←hpn,←hpz,hq7,hq14]
 ·rw[Bool.not_eq_true] at hq7
  rw[hq7] at X3
  refine seg tabOk mixOk X3 10 [(4,(.bool false))] (at_ Try.f65 [3,0,1,0,1,1,1,1,1,1,1,0,1]) [] (by kernel_rfl) ?_
  intro a40 w41 X42 hs43;have hb44:=raw_same hs43 hb5;have hb45:=raw_same hs43 hb6
  refine WPK_ret (ret1 rfl X42.F rfl ⟨_,rfl,?_,X42.kp⟩)
  simp[stepB,←hpa,←hpb,←hpn,←hpz,hq7]
theorem step_7 (A0 A1:Option Addr)(n0 k0 n1 k1:Nat)(sl a0 b0 m0 z0:Int)(b2 b3:Nat)(pa pb pn pz:Bool)(hpa:pa=(a0==0))(hpb:pb=(b0==0))(hpn:pn=(m0==0))(hpz:pz=(z0==0))(w0 w:World)(a:Act)(X:St ME SE w0 Try.f65.ntmps [] SE cE [(2,(.pointer (some ⟨b2,0,none⟩))),(3,(.pointer (some ⟨b3,0,none⟩))),(4,(.bool false)),(5,(.func (.func 82) #[] #[(.pointer (some ⟨b2,0,none⟩))])),(6,(.bool pa)),(7,(.bool pb)),(8,(.bool pn)),(9,(.bool pz)),(24,(.int .i64 7))] a w)(hb2:RawAt SE w b2 (plan4 A0 A1 n0 k0 n1 k1 sl) 35)(hb3:RawAt SE w b3 (step5 7 a0 b0 m0 z0) 100):
  WPK PG (fun _=>True) (at_ Try.f65 [3,0,1,0,0]) (bodyPost PG Try.f65 fun e w'=>∃u,e=.returned u∧(u=.bool (stepB n0 n1 7 a0 b0 m0 z0)∧Kp SE w0 SE w')) a w:=by
 refine seg tabOk mixOk X 57 [(2,(.pointer (some ⟨b2,0,none⟩))),(3,(.pointer (some ⟨b3,0,none⟩))),(4,(.bool false)),(8,(.bool pn)),(9,(.bool pz)),(82,(.int .i64 a0))] (at_ Try.f65 [3,0,1,0,1,1,1,1,1,1,1,1,1,0,0,2]) [(82,rb PG hb3.hb 1 (.int .i64 a0) rfl)] (by kernel_rfl) ?_
 intro a1 w2 X3 hs4;have hb5:=raw_same hs4 hb2;have hb6:=raw_same hs4 hb3
 refine ev_call (args:=#[(.tmp 82)]) (ats:=#[3]) (dst:=some 83) (ty:=4) (K':=(at_ Try.f65 [3,0,1,0,1,1,1,1,1,1,1,1,1,0,0,3])) (dt:=false) X3.F (by kernel_rfl) [(.int .i64 a0)] rfl (by kernel_rfl) (reg_says a0 _) ?_
 rintro _ a7 w8 ⟨rfl,hs11⟩ _ h10;refine⟨fun h=>(by cases h),?_⟩;have X9:=st_kp X3 (h10 _ rfl) hs11;have hb12:=raw_kp hs11 hb5;have hb13:=raw_kp hs11 hb6
 refine seg tabOk mixOk X9 1 [(2,(.pointer (some ⟨b2,0,none⟩))),(3,(.pointer (some ⟨b3,0,none⟩))),(4,(.bool false)),(8,(.bool pn)),(9,(.bool pz)),(84,(.bool (regB a0)))] (at_ Try.f65 [3,0,1,0,1,1,1,1,1,1,1,1,1,0,0,4]) [] (by kernel_rfl) ?_
 intro a14 w15 X16 hs17;have hb18:=raw_same hs17 hb12;have hb19:=raw_same hs17 hb13
 by_cases hq20:(regB a0)=true
 ·skip
  rw[hq20] at X16
  refine seg tabOk mixOk X16 5 [(2,(.pointer (some ⟨b2,0,none⟩))),(3,(.pointer (some ⟨b3,0,none⟩))),(4,(.bool false)),(8,(.bool pn)),(9,(.bool pz)),(89,(.bool (decide (b0≥0))))] (at_ Try.f65 [3,0,1,0,1,1,1,1,1,1,1,1,1,0,0,9]) [(86,rb PG hb19.hb 2 (.int .i64 b0) rfl)] (by kernel_rfl) ?_
  intro a21 w22 X23 hs24;have hb25:=raw_same hs24 hb18;have hb26:=raw_same hs24 hb19
  by_cases hq27:(decide (b0≥0))=true
  ·skip
   rw[hq27] at X23
   refine seg tabOk mixOk X23 8 [(4,(.bool false)),(8,(.bool pn)),(9,(.bool pz)),(97,(.bool (decide (b0<(n0:Int)))))] (at_ Try.f65 [3,0,1,0,1,1,1,1,1,1,1,1,1,0,0,17]) [(91,rb PG hb26.hb 2 (.int .i64 b0) rfl),(93,rb PG hb25.hb 0 (.slice A0 n0 k0) rfl),(94,lenV PG 33 3 rfl A0 n0 k0)] (by kernel_rfl) ?_
   intro a28 w29 X30 hs31;have hb32:=raw_same hs31 hb25;have hb33:=raw_same hs31 hb26
   by_cases hq34:(decide (b0<(n0:Int)))=true
   ·skip
    rw[hq34] at X30
    refine seg tabOk mixOk X30 3 [(4,(.bool false)),(9,(.bool pz)),(100,(.bool pn))] (at_ Try.f65 [3,0,1,0,1,1,1,1,1,1,1,1,1,0,0,20]) [] (by kernel_rfl) ?_
    intro a35 w36 X37 hs38;have hb39:=raw_same hs38 hb32;have hb40:=raw_same hs38 hb33
    by_cases hq41:pn=true
    ·skip
     rw[hq41] at X37
     refine seg tabOk mixOk X37 4 [(4,(.bool pz))] (at_ Try.f65 [3,0,1,0,1,1,1,1,1,1,1,1,1,0,1]) [] (by kernel_rfl) ?_
     intro a42 w43 X44 hs45;have hb46:=raw_same hs45 hb39;have hb47:=raw_same hs45 hb40
     refine WPK_ret (ret1 rfl X44.F rfl ⟨_,rfl,?_,X44.kp⟩)
     simp[stepB,←hpa,←hpb,←hpn,←hpz,hq20,hq27,hq34,hq41]
    ·rw[Bool.not_eq_true] at hq41
     rw[hq41] at X37
     refine seg tabOk mixOk X37 4 [(4,(.bool false))] (at_ Try.f65 [3,0,1,0,1,1,1,1,1,1,1,1,1,0,1]) [] (by kernel_rfl) ?_
     intro a48 w49 X50 hs51;have hb52:=raw_same hs51 hb39;have hb53:=raw_same hs51 hb40
     refine WPK_ret (ret1 rfl X50.F rfl ⟨_,rfl,?_,X50.kp⟩)
     simp[stepB,←hpa,←hpb,←hpn,←hpz,hq20,hq27,hq34,hq41]
   ·rw[Bool.not_eq_true] at hq34
    rw[hq34] at X30
    refine seg tabOk mixOk X30 7 [(4,(.bool false))] (at_ Try.f65 [3,0,1,0,1,1,1,1,1,1,1,1,1,0,1]) [] (by kernel_rfl) ?_
    intro a54 w55 X56 hs57;have hb58:=raw_same hs57 hb32;have hb59:=raw_same hs57 hb33
    refine WPK_ret (ret1 rfl X56.F rfl ⟨_,rfl,?_,X56.kp⟩)
    simp[stepB,←hpa,←hpb,←hpn,←hpz,hq20,hq27,hq34]
  ·rw[Bool.not_eq_true] at hq27
   rw[hq27] at X23
   refine seg tabOk mixOk X23 15 [(4,(.bool false))] (at_ Try.f65 [3,0,1,0,1,1,1,1,1,1,1,1,1,0,1]) [] (by kernel_rfl) ?_
   intro a60 w61 X62 hs63;have hb64:=raw_same hs63 hb25;have hb65:=raw_same hs63 hb26
   refine WPK_ret (ret1 rfl X62.F rfl ⟨_,rfl,?_,X62.kp⟩)
   simp[stepB,←hpa,←hpb,←hpn,←hpz,hq20,hq27]
 ·rw[Bool.not_eq_true] at hq20
  rw[hq20] at X16
  refine seg tabOk mixOk X16 20 [(4,(.bool false))] (at_ Try.f65 [3,0,1,0,1,1,1,1,1,1,1,1,1,0,1]) [] (by kernel_rfl) ?_
  intro a66 w67 X68 hs69;have hb70:=raw_same hs69 hb18;have hb71:=raw_same hs69 hb19
  refine WPK_ret (ret1 rfl X68.F rfl ⟨_,rfl,?_,X68.kp⟩)
  simp[stepB,←hpa,←hpb,←hpn,←hpz,hq20]
theorem step_8 (A0 A1:Option Addr)(n0 k0 n1 k1:Nat)(sl a0 b0 m0 z0:Int)(b2 b3:Nat)(pa pb pn pz:Bool)(hpa:pa=(a0==0))(hpb:pb=(b0==0))(hpn:pn=(m0==0))(hpz:pz=(z0==0))(w0 w:World)(a:Act)(X:St ME SE w0 Try.f65.ntmps [] SE cE [(2,(.pointer (some ⟨b2,0,none⟩))),(3,(.pointer (some ⟨b3,0,none⟩))),(4,(.bool false)),(5,(.func (.func 82) #[] #[(.pointer (some ⟨b2,0,none⟩))])),(6,(.bool pa)),(7,(.bool pb)),(8,(.bool pn)),(9,(.bool pz)),(24,(.int .i64 8))] a w)(hb2:RawAt SE w b2 (plan4 A0 A1 n0 k0 n1 k1 sl) 35)(hb3:RawAt SE w b3 (step5 8 a0 b0 m0 z0) 100):
  WPK PG (fun _=>True) (at_ Try.f65 [3,0,1,0,0]) (bodyPost PG Try.f65 fun e w'=>∃u,e=.returned u∧(u=.bool (stepB n0 n1 8 a0 b0 m0 z0)∧Kp SE w0 SE w')) a w:=by
 refine seg tabOk mixOk X 39 [(4,(.bool false)),(7,(.bool pb)),(8,(.bool pn)),(9,(.bool pz)),(55,(.int .i64 a0))] (at_ Try.f65 [3,0,1,0,1,1,1,1,1,0,0,2]) [(55,rb PG hb3.hb 1 (.int .i64 a0) rfl)] (by kernel_rfl) ?_
 intro a1 w2 X3 hs4;have hb5:=raw_same hs4 hb2;have hb6:=raw_same hs4 hb3
 refine ev_call (args:=#[(.tmp 55)]) (ats:=#[3]) (dst:=some 56) (ty:=4) (K':=(at_ Try.f65 [3,0,1,0,1,1,1,1,1,0,0,3])) (dt:=false) X3.F (by kernel_rfl) [(.int .i64 a0)] rfl (by kernel_rfl) (reg_says a0 _) ?_
 rintro _ a7 w8 ⟨rfl,hs11⟩ _ h10;refine⟨fun h=>(by cases h),?_⟩;have X9:=st_kp X3 (h10 _ rfl) hs11;have hb12:=raw_kp hs11 hb5;have hb13:=raw_kp hs11 hb6
 refine seg tabOk mixOk X9 1 [(4,(.bool false)),(7,(.bool pb)),(8,(.bool pn)),(9,(.bool pz)),(57,(.bool (regB a0)))] (at_ Try.f65 [3,0,1,0,1,1,1,1,1,0,0,4]) [] (by kernel_rfl) ?_
 intro a14 w15 X16 hs17;have hb18:=raw_same hs17 hb12;have hb19:=raw_same hs17 hb13
 by_cases hq20:(regB a0)=true
 ·skip
  rw[hq20] at X16
  refine seg tabOk mixOk X16 3 [(4,(.bool false)),(8,(.bool pn)),(9,(.bool pz)),(60,(.bool pb))] (at_ Try.f65 [3,0,1,0,1,1,1,1,1,0,0,7]) [] (by kernel_rfl) ?_
  intro a21 w22 X23 hs24;have hb25:=raw_same hs24 hb18;have hb26:=raw_same hs24 hb19
  by_cases hq27:pb=true
  ·skip
   rw[hq27] at X23
   refine seg tabOk mixOk X23 3 [(4,(.bool false)),(9,(.bool pz)),(63,(.bool pn))] (at_ Try.f65 [3,0,1,0,1,1,1,1,1,0,0,10]) [] (by kernel_rfl) ?_
   intro a28 w29 X30 hs31;have hb32:=raw_same hs31 hb25;have hb33:=raw_same hs31 hb26
   by_cases hq34:pn=true
   ·skip
    rw[hq34] at X30
    refine seg tabOk mixOk X30 4 [(4,(.bool pz))] (at_ Try.f65 [3,0,1,0,1,1,1,1,1,0,1]) [] (by kernel_rfl) ?_
    intro a35 w36 X37 hs38;have hb39:=raw_same hs38 hb32;have hb40:=raw_same hs38 hb33
    refine WPK_ret (ret1 rfl X37.F rfl ⟨_,rfl,?_,X37.kp⟩)
    simp[stepB,←hpa,←hpb,←hpn,←hpz,hq20,hq27,hq34]
   ·rw[Bool.not_eq_true] at hq34
    rw[hq34] at X30
    refine seg tabOk mixOk X30 4 [(4,(.bool false))] (at_ Try.f65 [3,0,1,0,1,1,1,1,1,0,1]) [] (by kernel_rfl) ?_
    intro a41 w42 X43 hs44;have hb45:=raw_same hs44 hb32;have hb46:=raw_same hs44 hb33
    refine WPK_ret (ret1 rfl X43.F rfl ⟨_,rfl,?_,X43.kp⟩)
    simp[stepB,←hpa,←hpb,←hpn,←hpz,hq20,hq27,hq34]
  ·rw[Bool.not_eq_true] at hq27
   rw[hq27] at X23
   refine seg tabOk mixOk X23 7 [(4,(.bool false))] (at_ Try.f65 [3,0,1,0,1,1,1,1,1,0,1]) [] (by kernel_rfl) ?_
   intro a47 w48 X49 hs50;have hb51:=raw_same hs50 hb25;have hb52:=raw_same hs50 hb26
   refine WPK_ret (ret1 rfl X49.F rfl ⟨_,rfl,?_,X49.kp⟩)
   simp[stepB,←hpa,←hpb,←hpn,←hpz,hq20,hq27]
 ·rw[Bool.not_eq_true] at hq20
  rw[hq20] at X16
  refine seg tabOk mixOk X16 10 [(4,(.bool false))] (at_ Try.f65 [3,0,1,0,1,1,1,1,1,0,1]) [] (by kernel_rfl) ?_
  intro a53 w54 X55 hs56;have hb57:=raw_same hs56 hb18;have hb58:=raw_same hs56 hb19
  refine WPK_ret (ret1 rfl X55.F rfl ⟨_,rfl,?_,X55.kp⟩)
  simp[stepB,←hpa,←hpb,←hpn,←hpz,hq20]
theorem step_9 (A0 A1:Option Addr)(n0 k0 n1 k1:Nat)(sl a0 b0 m0 z0:Int)(b2 b3:Nat)(pa pb pn pz:Bool)(hpa:pa=(a0==0))(hpb:pb=(b0==0))(hpn:pn=(m0==0))(hpz:pz=(z0==0))(w0 w:World)(a:Act)(X:St ME SE w0 Try.f65.ntmps [] SE cE [(2,(.pointer (some ⟨b2,0,none⟩))),(3,(.pointer (some ⟨b3,0,none⟩))),(4,(.bool false)),(5,(.func (.func 82) #[] #[(.pointer (some ⟨b2,0,none⟩))])),(6,(.bool pa)),(7,(.bool pb)),(8,(.bool pn)),(9,(.bool pz)),(24,(.int .i64 9))] a w)(hb2:RawAt SE w b2 (plan4 A0 A1 n0 k0 n1 k1 sl) 35)(hb3:RawAt SE w b3 (step5 9 a0 b0 m0 z0) 100):
  WPK PG (fun _=>True) (at_ Try.f65 [3,0,1,0,0]) (bodyPost PG Try.f65 fun e w'=>∃u,e=.returned u∧(u=.bool (stepB n0 n1 9 a0 b0 m0 z0)∧Kp SE w0 SE w')) a w:=by
 refine seg tabOk mixOk X 66 [(3,(.pointer (some ⟨b3,0,none⟩))),(4,(.bool false)),(5,(.func (.func 82) #[] #[(.pointer (some ⟨b2,0,none⟩))])),(8,(.bool pn)),(9,(.bool pz)),(107,(.int .i64 a0))] (at_ Try.f65 [3,0,1,0,1,1,1,1,1,1,1,1,1,1,1,0,0,2]) [(107,rb PG hb3.hb 1 (.int .i64 a0) rfl)] (by kernel_rfl) ?_
 intro a1 w2 X3 hs4;have hb5:=raw_same hs4 hb2;have hb6:=raw_same hs4 hb3
 refine ev_call (args:=#[(.tmp 107)]) (ats:=#[3]) (dst:=some 108) (ty:=4) (K':=(at_ Try.f65 [3,0,1,0,1,1,1,1,1,1,1,1,1,1,1,0,0,3])) (dt:=false) X3.F (by kernel_rfl) [(.int .i64 a0)] rfl (by kernel_rfl) (reg_says a0 _) ?_
 rintro _ a7 w8 ⟨rfl,hs11⟩ _ h10;refine⟨fun h=>(by cases h),?_⟩;have X9:=st_kp X3 (h10 _ rfl) hs11;have hb12:=raw_kp hs11 hb5;have hb13:=raw_kp hs11 hb6
 refine seg tabOk mixOk X9 1 [(3,(.pointer (some ⟨b3,0,none⟩))),(4,(.bool false)),(5,(.func (.func 82) #[] #[(.pointer (some ⟨b2,0,none⟩))])),(8,(.bool pn)),(9,(.bool pz)),(109,(.bool (regB a0)))] (at_ Try.f65 [3,0,1,0,1,1,1,1,1,1,1,1,1,1,1,0,0,4]) [] (by kernel_rfl) ?_
 intro a14 w15 X16 hs17;have hb18:=raw_same hs17 hb12;have hb19:=raw_same hs17 hb13
 by_cases hq20:(regB a0)=true
 ·skip
  rw[hq20] at X16
  refine seg tabOk mixOk X16 3 [(4,(.bool false)),(8,(.bool pn)),(9,(.bool pz)),(109,(.bool true)),(110,(.func (.func 82) #[] #[(.pointer (some ⟨b2,0,none⟩))])),(112,(.int .i64 b0))] (at_ Try.f65 [3,0,1,0,1,1,1,1,1,1,1,1,1,1,1,0,0,7]) [(112,rb PG hb19.hb 2 (.int .i64 b0) rfl)] (by kernel_rfl) ?_
  intro a21 w22 X23 hs24;have hb25:=raw_same hs24 hb18;have hb26:=raw_same hs24 hb19
  refine ev_callv (g:=(.tmp 110)) (f:=82) (cap:=#[(.pointer (some ⟨b2,0,none⟩))]) (args:=#[(.tmp 112)]) (ats:=#[2]) (dst:=some 113) (ty:=4) (K':=(at_ Try.f65 [3,0,1,0,1,1,1,1,1,1,1,1,1,1,1,0,0,8])) (dt:=false) X23.F (by kernel_rfl) rfl [(.int .i64 b0)] rfl (by kernel_rfl) (chan_says b0 b2 _ _ _ _ _ _ _ _ hb25) ?_
  rintro _ a27 w28 ⟨rfl,hs31⟩ _ h30;refine⟨fun h=>(by cases h),?_⟩;have X29:=st_kp X23 (h30 _ rfl) hs31;have hb32:=raw_kp hs31 hb25;have hb33:=raw_kp hs31 hb26
  refine seg tabOk mixOk X29 2 [(4,(.bool false)),(8,(.bool pn)),(9,(.bool pz)),(115,(.bool (chanB n1 b0)))] (at_ Try.f65 [3,0,1,0,1,1,1,1,1,1,1,1,1,1,1,0,0,10]) [] (by kernel_rfl) ?_
  intro a34 w35 X36 hs37;have hb38:=raw_same hs37 hb32;have hb39:=raw_same hs37 hb33
  by_cases hq40:(chanB n1 b0)=true
  ·skip
   rw[hq40] at X36
   refine seg tabOk mixOk X36 3 [(4,(.bool false)),(9,(.bool pz)),(118,(.bool pn))] (at_ Try.f65 [3,0,1,0,1,1,1,1,1,1,1,1,1,1,1,0,0,13]) [] (by kernel_rfl) ?_
   intro a41 w42 X43 hs44;have hb45:=raw_same hs44 hb38;have hb46:=raw_same hs44 hb39
   by_cases hq47:pn=true
   ·skip
    rw[hq47] at X43
    refine seg tabOk mixOk X43 4 [(4,(.bool pz))] (at_ Try.f65 [3,0,1,0,1,1,1,1,1,1,1,1,1,1,1,0,1]) [] (by kernel_rfl) ?_
    intro a48 w49 X50 hs51;have hb52:=raw_same hs51 hb45;have hb53:=raw_same hs51 hb46
    refine WPK_ret (ret1 rfl X50.F rfl ⟨_,rfl,?_,X50.kp⟩)
    simp[stepB,←hpa,←hpb,←hpn,←hpz,hq20,hq40,hq47]
   ·rw[Bool.not_eq_true] at hq47
    rw[hq47] at X43
    refine seg tabOk mixOk X43 4 [(4,(.bool false))] (at_ Try.f65 [3,0,1,0,1,1,1,1,1,1,1,1,1,1,1,0,1]) [] (by kernel_rfl) ?_
    intro a54 w55 X56 hs57;have hb58:=raw_same hs57 hb45;have hb59:=raw_same hs57 hb46
    refine WPK_ret (ret1 rfl X56.F rfl ⟨_,rfl,?_,X56.kp⟩)
    simp[stepB,←hpa,←hpb,←hpn,←hpz,hq20,hq40,hq47]
  ·rw[Bool.not_eq_true] at hq40
   rw[hq40] at X36
   refine seg tabOk mixOk X36 7 [(4,(.bool false))] (at_ Try.f65 [3,0,1,0,1,1,1,1,1,1,1,1,1,1,1,0,1]) [] (by kernel_rfl) ?_
   intro a60 w61 X62 hs63;have hb64:=raw_same hs63 hb38;have hb65:=raw_same hs63 hb39
   refine WPK_ret (ret1 rfl X62.F rfl ⟨_,rfl,?_,X62.kp⟩)
   simp[stepB,←hpa,←hpb,←hpn,←hpz,hq20,hq40]
 ·rw[Bool.not_eq_true] at hq20
  rw[hq20] at X16
  refine seg tabOk mixOk X16 13 [(4,(.bool false))] (at_ Try.f65 [3,0,1,0,1,1,1,1,1,1,1,1,1,1,1,0,1]) [] (by kernel_rfl) ?_
  intro a66 w67 X68 hs69;have hb70:=raw_same hs69 hb18;have hb71:=raw_same hs69 hb19
  refine WPK_ret (ret1 rfl X68.F rfl ⟨_,rfl,?_,X68.kp⟩)
  simp[stepB,←hpa,←hpb,←hpn,←hpz,hq20]
theorem step_10 (A0 A1:Option Addr)(n0 k0 n1 k1:Nat)(sl a0 b0 m0 z0:Int)(b2 b3:Nat)(pa pb pn pz:Bool)(hpa:pa=(a0==0))(hpb:pb=(b0==0))(hpn:pn=(m0==0))(hpz:pz=(z0==0))(w0 w:World)(a:Act)(X:St ME SE w0 Try.f65.ntmps [] SE cE [(2,(.pointer (some ⟨b2,0,none⟩))),(3,(.pointer (some ⟨b3,0,none⟩))),(4,(.bool false)),(5,(.func (.func 82) #[] #[(.pointer (some ⟨b2,0,none⟩))])),(6,(.bool pa)),(7,(.bool pb)),(8,(.bool pn)),(9,(.bool pz)),(24,(.int .i64 10))] a w)(hb2:RawAt SE w b2 (plan4 A0 A1 n0 k0 n1 k1 sl) 35)(hb3:RawAt SE w b3 (step5 10 a0 b0 m0 z0) 100):
  WPK PG (fun _=>True) (at_ Try.f65 [3,0,1,0,0]) (bodyPost PG Try.f65 fun e w'=>∃u,e=.returned u∧(u=.bool (stepB n0 n1 10 a0 b0 m0 z0)∧Kp SE w0 SE w')) a w:=by
 refine seg tabOk mixOk X 69 [(3,(.pointer (some ⟨b3,0,none⟩))),(4,(.bool false)),(5,(.func (.func 82) #[] #[(.pointer (some ⟨b2,0,none⟩))])),(8,(.bool pn)),(9,(.bool pz)),(107,(.int .i64 a0))] (at_ Try.f65 [3,0,1,0,1,1,1,1,1,1,1,1,1,1,1,0,0,2]) [(107,rb PG hb3.hb 1 (.int .i64 a0) rfl)] (by kernel_rfl) ?_
 intro a1 w2 X3 hs4;have hb5:=raw_same hs4 hb2;have hb6:=raw_same hs4 hb3
 refine ev_call (args:=#[(.tmp 107)]) (ats:=#[3]) (dst:=some 108) (ty:=4) (K':=(at_ Try.f65 [3,0,1,0,1,1,1,1,1,1,1,1,1,1,1,0,0,3])) (dt:=false) X3.F (by kernel_rfl) [(.int .i64 a0)] rfl (by kernel_rfl) (reg_says a0 _) ?_
 rintro _ a7 w8 ⟨rfl,hs11⟩ _ h10;refine⟨fun h=>(by cases h),?_⟩;have X9:=st_kp X3 (h10 _ rfl) hs11;have hb12:=raw_kp hs11 hb5;have hb13:=raw_kp hs11 hb6
 refine seg tabOk mixOk X9 1 [(3,(.pointer (some ⟨b3,0,none⟩))),(4,(.bool false)),(5,(.func (.func 82) #[] #[(.pointer (some ⟨b2,0,none⟩))])),(8,(.bool pn)),(9,(.bool pz)),(109,(.bool (regB a0)))] (at_ Try.f65 [3,0,1,0,1,1,1,1,1,1,1,1,1,1,1,0,0,4]) [] (by kernel_rfl) ?_
 intro a14 w15 X16 hs17;have hb18:=raw_same hs17 hb12;have hb19:=raw_same hs17 hb13
 by_cases hq20:(regB a0)=true
 ·skip
  rw[hq20] at X16
  refine seg tabOk mixOk X16 3 [(4,(.bool false)),(8,(.bool pn)),(9,(.bool pz)),(109,(.bool true)),(110,(.func (.func 82) #[] #[(.pointer (some ⟨b2,0,none⟩))])),(112,(.int .i64 b0))] (at_ Try.f65 [3,0,1,0,1,1,1,1,1,1,1,1,1,1,1,0,0,7]) [(112,rb PG hb19.hb 2 (.int .i64 b0) rfl)] (by kernel_rfl) ?_
  intro a21 w22 X23 hs24;have hb25:=raw_same hs24 hb18;have hb26:=raw_same hs24 hb19
  refine ev_callv (g:=(.tmp 110)) (f:=82) (cap:=#[(.pointer (some ⟨b2,0,none⟩))]) (args:=#[(.tmp 112)]) (ats:=#[2]) (dst:=some 113) (ty:=4) (K':=(at_ Try.f65 [3,0,1,0,1,1,1,1,1,1,1,1,1,1,1,0,0,8])) (dt:=false) X23.F (by kernel_rfl) rfl [(.int .i64 b0)] rfl (by kernel_rfl) (chan_says b0 b2 _ _ _ _ _ _ _ _ hb25) ?_
  rintro _ a27 w28 ⟨rfl,hs31⟩ _ h30;refine⟨fun h=>(by cases h),?_⟩;have X29:=st_kp X23 (h30 _ rfl) hs31;have hb32:=raw_kp hs31 hb25;have hb33:=raw_kp hs31 hb26
  refine seg tabOk mixOk X29 2 [(4,(.bool false)),(8,(.bool pn)),(9,(.bool pz)),(115,(.bool (chanB n1 b0)))] (at_ Try.f65 [3,0,1,0,1,1,1,1,1,1,1,1,1,1,1,0,0,10]) [] (by kernel_rfl) ?_
  intro a34 w35 X36 hs37;have hb38:=raw_same hs37 hb32;have hb39:=raw_same hs37 hb33
  by_cases hq40:(chanB n1 b0)=true
  ·skip
   rw[hq40] at X36
   refine seg tabOk mixOk X36 3 [(4,(.bool false)),(9,(.bool pz)),(118,(.bool pn))] (at_ Try.f65 [3,0,1,0,1,1,1,1,1,1,1,1,1,1,1,0,0,13]) [] (by kernel_rfl) ?_
   intro a41 w42 X43 hs44;have hb45:=raw_same hs44 hb38;have hb46:=raw_same hs44 hb39
   by_cases hq47:pn=true
   ·skip
    rw[hq47] at X43
    refine seg tabOk mixOk X43 4 [(4,(.bool pz))] (at_ Try.f65 [3,0,1,0,1,1,1,1,1,1,1,1,1,1,1,0,1]) [] (by kernel_rfl) ?_
    intro a48 w49 X50 hs51;have hb52:=raw_same hs51 hb45;have hb53:=raw_same hs51 hb46
    refine WPK_ret (ret1 rfl X50.F rfl ⟨_,rfl,?_,X50.kp⟩)
    simp[stepB,←hpa,←hpb,←hpn,←hpz,hq20,hq40,hq47]
   ·rw[Bool.not_eq_true] at hq47
    rw[hq47] at X43
    refine seg tabOk mixOk X43 4 [(4,(.bool false))] (at_ Try.f65 [3,0,1,0,1,1,1,1,1,1,1,1,1,1,1,0,1]) [] (by kernel_rfl) ?_
    intro a54 w55 X56 hs57;have hb58:=raw_same hs57 hb45;have hb59:=raw_same hs57 hb46
    refine WPK_ret (ret1 rfl X56.F rfl ⟨_,rfl,?_,X56.kp⟩)
    simp[stepB,←hpa,←hpb,←hpn,←hpz,hq20,hq40,hq47]
  ·rw[Bool.not_eq_true] at hq40
   rw[hq40] at X36
   refine seg tabOk mixOk X36 7 [(4,(.bool false))] (at_ Try.f65 [3,0,1,0,1,1,1,1,1,1,1,1,1,1,1,0,1]) [] (by kernel_rfl) ?_
   intro a60 w61 X62 hs63;have hb64:=raw_same hs63 hb38;have hb65:=raw_same hs63 hb39
   refine WPK_ret (ret1 rfl X62.F rfl ⟨_,rfl,?_,X62.kp⟩)
   simp[stepB,←hpa,←hpb,←hpn,←hpz,hq20,hq40]
 ·rw[Bool.not_eq_true] at hq20
  rw[hq20] at X16
  refine seg tabOk mixOk X16 13 [(4,(.bool false))] (at_ Try.f65 [3,0,1,0,1,1,1,1,1,1,1,1,1,1,1,0,1]) [] (by kernel_rfl) ?_
  intro a66 w67 X68 hs69;have hb70:=raw_same hs69 hb18;have hb71:=raw_same hs69 hb19
  refine WPK_ret (ret1 rfl X68.F rfl ⟨_,rfl,?_,X68.kp⟩)
  simp[stepB,←hpa,←hpb,←hpn,←hpz,hq20]
theorem step_11 (A0 A1:Option Addr)(n0 k0 n1 k1:Nat)(sl a0 b0 m0 z0:Int)(b2 b3:Nat)(pa pb pn pz:Bool)(hpa:pa=(a0==0))(hpb:pb=(b0==0))(hpn:pn=(m0==0))(hpz:pz=(z0==0))(w0 w:World)(a:Act)(X:St ME SE w0 Try.f65.ntmps [] SE cE [(2,(.pointer (some ⟨b2,0,none⟩))),(3,(.pointer (some ⟨b3,0,none⟩))),(4,(.bool false)),(5,(.func (.func 82) #[] #[(.pointer (some ⟨b2,0,none⟩))])),(6,(.bool pa)),(7,(.bool pb)),(8,(.bool pn)),(9,(.bool pz)),(24,(.int .i64 11))] a w)(hb2:RawAt SE w b2 (plan4 A0 A1 n0 k0 n1 k1 sl) 35)(hb3:RawAt SE w b3 (step5 11 a0 b0 m0 z0) 100):
  WPK PG (fun _=>True) (at_ Try.f65 [3,0,1,0,0]) (bodyPost PG Try.f65 fun e w'=>∃u,e=.returned u∧(u=.bool (stepB n0 n1 11 a0 b0 m0 z0)∧Kp SE w0 SE w')) a w:=by
 refine seg tabOk mixOk X 75 [(3,(.pointer (some ⟨b3,0,none⟩))),(4,(.bool false)),(5,(.func (.func 82) #[] #[(.pointer (some ⟨b2,0,none⟩))])),(9,(.bool pz)),(124,(.int .i64 a0))] (at_ Try.f65 [3,0,1,0,1,1,1,1,1,1,1,1,1,1,1,1,1,0,0,2]) [(124,rb PG hb3.hb 1 (.int .i64 a0) rfl)] (by kernel_rfl) ?_
 intro a1 w2 X3 hs4;have hb5:=raw_same hs4 hb2;have hb6:=raw_same hs4 hb3
 refine ev_call (args:=#[(.tmp 124)]) (ats:=#[3]) (dst:=some 125) (ty:=4) (K':=(at_ Try.f65 [3,0,1,0,1,1,1,1,1,1,1,1,1,1,1,1,1,0,0,3])) (dt:=false) X3.F (by kernel_rfl) [(.int .i64 a0)] rfl (by kernel_rfl) (reg_says a0 _) ?_
 rintro _ a7 w8 ⟨rfl,hs11⟩ _ h10;refine⟨fun h=>(by cases h),?_⟩;have X9:=st_kp X3 (h10 _ rfl) hs11;have hb12:=raw_kp hs11 hb5;have hb13:=raw_kp hs11 hb6
 refine seg tabOk mixOk X9 1 [(3,(.pointer (some ⟨b3,0,none⟩))),(4,(.bool false)),(5,(.func (.func 82) #[] #[(.pointer (some ⟨b2,0,none⟩))])),(9,(.bool pz)),(126,(.bool (regB a0)))] (at_ Try.f65 [3,0,1,0,1,1,1,1,1,1,1,1,1,1,1,1,1,0,0,4]) [] (by kernel_rfl) ?_
 intro a14 w15 X16 hs17;have hb18:=raw_same hs17 hb12;have hb19:=raw_same hs17 hb13
 by_cases hq20:(regB a0)=true
 ·skip
  rw[hq20] at X16
  refine seg tabOk mixOk X16 3 [(3,(.pointer (some ⟨b3,0,none⟩))),(4,(.bool false)),(9,(.bool pz)),(126,(.bool true)),(127,(.func (.func 82) #[] #[(.pointer (some ⟨b2,0,none⟩))])),(129,(.int .i64 b0))] (at_ Try.f65 [3,0,1,0,1,1,1,1,1,1,1,1,1,1,1,1,1,0,0,7]) [(129,rb PG hb19.hb 2 (.int .i64 b0) rfl)] (by kernel_rfl) ?_
  intro a21 w22 X23 hs24;have hb25:=raw_same hs24 hb18;have hb26:=raw_same hs24 hb19
  refine ev_callv (g:=(.tmp 127)) (f:=82) (cap:=#[(.pointer (some ⟨b2,0,none⟩))]) (args:=#[(.tmp 129)]) (ats:=#[2]) (dst:=some 130) (ty:=4) (K':=(at_ Try.f65 [3,0,1,0,1,1,1,1,1,1,1,1,1,1,1,1,1,0,0,8])) (dt:=false) X23.F (by kernel_rfl) rfl [(.int .i64 b0)] rfl (by kernel_rfl) (chan_says b0 b2 _ _ _ _ _ _ _ _ hb25) ?_
  rintro _ a27 w28 ⟨rfl,hs31⟩ _ h30;refine⟨fun h=>(by cases h),?_⟩;have X29:=st_kp X23 (h30 _ rfl) hs31;have hb32:=raw_kp hs31 hb25;have hb33:=raw_kp hs31 hb26
  refine seg tabOk mixOk X29 2 [(3,(.pointer (some ⟨b3,0,none⟩))),(4,(.bool false)),(9,(.bool pz)),(132,(.bool (chanB n1 b0)))] (at_ Try.f65 [3,0,1,0,1,1,1,1,1,1,1,1,1,1,1,1,1,0,0,10]) [] (by kernel_rfl) ?_
  intro a34 w35 X36 hs37;have hb38:=raw_same hs37 hb32;have hb39:=raw_same hs37 hb33
  by_cases hq40:(chanB n1 b0)=true
  ·skip
   rw[hq40] at X36
   refine seg tabOk mixOk X36 5 [(3,(.pointer (some ⟨b3,0,none⟩))),(4,(.bool false)),(9,(.bool pz)),(137,(.bool (decide (m0≥0))))] (at_ Try.f65 [3,0,1,0,1,1,1,1,1,1,1,1,1,1,1,1,1,0,0,15]) [(134,rb PG hb39.hb 3 (.int .i64 m0) rfl)] (by kernel_rfl) ?_
   intro a41 w42 X43 hs44;have hb45:=raw_same hs44 hb38;have hb46:=raw_same hs44 hb39
   by_cases hq47:(decide (m0≥0))=true
   ·skip
    rw[hq47] at X43
    refine seg tabOk mixOk X43 5 [(4,(.bool false)),(9,(.bool pz)),(142,(.bool (decide (m0≤1000000))))] (at_ Try.f65 [3,0,1,0,1,1,1,1,1,1,1,1,1,1,1,1,1,0,0,20]) [(139,rb PG hb46.hb 3 (.int .i64 m0) rfl)] (by kernel_rfl) ?_
    intro a48 w49 X50 hs51;have hb52:=raw_same hs51 hb45;have hb53:=raw_same hs51 hb46
    by_cases hq54:(decide (m0≤1000000))=true
    ·skip
     rw[hq54] at X50
     refine seg tabOk mixOk X50 4 [(4,(.bool pz))] (at_ Try.f65 [3,0,1,0,1,1,1,1,1,1,1,1,1,1,1,1,1,0,1]) [] (by kernel_rfl) ?_
     intro a55 w56 X57 hs58;have hb59:=raw_same hs58 hb52;have hb60:=raw_same hs58 hb53
     refine WPK_ret (ret1 rfl X57.F rfl ⟨_,rfl,?_,X57.kp⟩)
     simp[stepB,←hpa,←hpb,←hpn,←hpz,hq20,hq40,hq47,hq54]
    ·rw[Bool.not_eq_true] at hq54
     rw[hq54] at X50
     refine seg tabOk mixOk X50 4 [(4,(.bool false))] (at_ Try.f65 [3,0,1,0,1,1,1,1,1,1,1,1,1,1,1,1,1,0,1]) [] (by kernel_rfl) ?_
     intro a61 w62 X63 hs64;have hb65:=raw_same hs64 hb52;have hb66:=raw_same hs64 hb53
     refine WPK_ret (ret1 rfl X63.F rfl ⟨_,rfl,?_,X63.kp⟩)
     simp[stepB,←hpa,←hpb,←hpn,←hpz,hq20,hq40,hq47,hq54]
   ·rw[Bool.not_eq_true] at hq47
    rw[hq47] at X43
    refine seg tabOk mixOk X43 9 [(4,(.bool false))] (at_ Try.f65 [3,0,1,0,1,1,1,1,1,1,1,1,1,1,1,1,1,0,1]) [] (by kernel_rfl) ?_
    intro a67 w68 X69 hs70;have hb71:=raw_same hs70 hb45;have hb72:=raw_same hs70 hb46
    refine WPK_ret (ret1 rfl X69.F rfl ⟨_,rfl,?_,X69.kp⟩)
    simp[stepB,←hpa,←hpb,←hpn,←hpz,hq20,hq40,hq47]
  ·rw[Bool.not_eq_true] at hq40
   rw[hq40] at X36
   refine seg tabOk mixOk X36 14 [(4,(.bool false))] (at_ Try.f65 [3,0,1,0,1,1,1,1,1,1,1,1,1,1,1,1,1,0,1]) [] (by kernel_rfl) ?_
   intro a73 w74 X75 hs76;have hb77:=raw_same hs76 hb38;have hb78:=raw_same hs76 hb39
   refine WPK_ret (ret1 rfl X75.F rfl ⟨_,rfl,?_,X75.kp⟩)
   simp[stepB,←hpa,←hpb,←hpn,←hpz,hq20,hq40]
 ·rw[Bool.not_eq_true] at hq20
  rw[hq20] at X16
  refine seg tabOk mixOk X16 20 [(4,(.bool false))] (at_ Try.f65 [3,0,1,0,1,1,1,1,1,1,1,1,1,1,1,1,1,0,1]) [] (by kernel_rfl) ?_
  intro a79 w80 X81 hs82;have hb83:=raw_same hs82 hb18;have hb84:=raw_same hs82 hb19
  refine WPK_ret (ret1 rfl X81.F rfl ⟨_,rfl,?_,X81.kp⟩)
  simp[stepB,←hpa,←hpb,←hpn,←hpz,hq20]
theorem step_12 (A0 A1:Option Addr)(n0 k0 n1 k1:Nat)(sl a0 b0 m0 z0:Int)(b2 b3:Nat)(pa pb pn pz:Bool)(hpa:pa=(a0==0))(hpb:pb=(b0==0))(hpn:pn=(m0==0))(hpz:pz=(z0==0))(w0 w:World)(a:Act)(X:St ME SE w0 Try.f65.ntmps [] SE cE [(2,(.pointer (some ⟨b2,0,none⟩))),(3,(.pointer (some ⟨b3,0,none⟩))),(4,(.bool false)),(5,(.func (.func 82) #[] #[(.pointer (some ⟨b2,0,none⟩))])),(6,(.bool pa)),(7,(.bool pb)),(8,(.bool pn)),(9,(.bool pz)),(24,(.int .i64 12))] a w)(hb2:RawAt SE w b2 (plan4 A0 A1 n0 k0 n1 k1 sl) 35)(hb3:RawAt SE w b3 (step5 12 a0 b0 m0 z0) 100):
  WPK PG (fun _=>True) (at_ Try.f65 [3,0,1,0,0]) (bodyPost PG Try.f65 fun e w'=>∃u,e=.returned u∧(u=.bool (stepB n0 n1 12 a0 b0 m0 z0)∧Kp SE w0 SE w')) a w:=by
 refine seg tabOk mixOk X 81 [(3,(.pointer (some ⟨b3,0,none⟩))),(4,(.bool false)),(5,(.func (.func 82) #[] #[(.pointer (some ⟨b2,0,none⟩))])),(9,(.bool pz)),(148,(.int .i64 a0))] (at_ Try.f65 [3,0,1,0,1,1,1,1,1,1,1,1,1,1,1,1,1,1,1,0,0,2]) [(148,rb PG hb3.hb 1 (.int .i64 a0) rfl)] (by kernel_rfl) ?_
 intro a1 w2 X3 hs4;have hb5:=raw_same hs4 hb2;have hb6:=raw_same hs4 hb3
 refine ev_call (args:=#[(.tmp 148)]) (ats:=#[3]) (dst:=some 149) (ty:=4) (K':=(at_ Try.f65 [3,0,1,0,1,1,1,1,1,1,1,1,1,1,1,1,1,1,1,0,0,3])) (dt:=false) X3.F (by kernel_rfl) [(.int .i64 a0)] rfl (by kernel_rfl) (reg_says a0 _) ?_
 rintro _ a7 w8 ⟨rfl,hs11⟩ _ h10;refine⟨fun h=>(by cases h),?_⟩;have X9:=st_kp X3 (h10 _ rfl) hs11;have hb12:=raw_kp hs11 hb5;have hb13:=raw_kp hs11 hb6
 refine seg tabOk mixOk X9 1 [(3,(.pointer (some ⟨b3,0,none⟩))),(4,(.bool false)),(5,(.func (.func 82) #[] #[(.pointer (some ⟨b2,0,none⟩))])),(9,(.bool pz)),(150,(.bool (regB a0)))] (at_ Try.f65 [3,0,1,0,1,1,1,1,1,1,1,1,1,1,1,1,1,1,1,0,0,4]) [] (by kernel_rfl) ?_
 intro a14 w15 X16 hs17;have hb18:=raw_same hs17 hb12;have hb19:=raw_same hs17 hb13
 by_cases hq20:(regB a0)=true
 ·skip
  rw[hq20] at X16
  refine seg tabOk mixOk X16 3 [(3,(.pointer (some ⟨b3,0,none⟩))),(4,(.bool false)),(5,(.func (.func 82) #[] #[(.pointer (some ⟨b2,0,none⟩))])),(9,(.bool pz)),(150,(.bool true)),(151,(.func (.func 82) #[] #[(.pointer (some ⟨b2,0,none⟩))])),(153,(.int .i64 b0))] (at_ Try.f65 [3,0,1,0,1,1,1,1,1,1,1,1,1,1,1,1,1,1,1,0,0,7]) [(153,rb PG hb19.hb 2 (.int .i64 b0) rfl)] (by kernel_rfl) ?_
  intro a21 w22 X23 hs24;have hb25:=raw_same hs24 hb18;have hb26:=raw_same hs24 hb19
  refine ev_callv (g:=(.tmp 151)) (f:=82) (cap:=#[(.pointer (some ⟨b2,0,none⟩))]) (args:=#[(.tmp 153)]) (ats:=#[2]) (dst:=some 154) (ty:=4) (K':=(at_ Try.f65 [3,0,1,0,1,1,1,1,1,1,1,1,1,1,1,1,1,1,1,0,0,8])) (dt:=false) X23.F (by kernel_rfl) rfl [(.int .i64 b0)] rfl (by kernel_rfl) (chan_says b0 b2 _ _ _ _ _ _ _ _ hb25) ?_
  rintro _ a27 w28 ⟨rfl,hs31⟩ _ h30;refine⟨fun h=>(by cases h),?_⟩;have X29:=st_kp X23 (h30 _ rfl) hs31;have hb32:=raw_kp hs31 hb25;have hb33:=raw_kp hs31 hb26
  refine seg tabOk mixOk X29 2 [(3,(.pointer (some ⟨b3,0,none⟩))),(4,(.bool false)),(5,(.func (.func 82) #[] #[(.pointer (some ⟨b2,0,none⟩))])),(9,(.bool pz)),(156,(.bool (chanB n1 b0)))] (at_ Try.f65 [3,0,1,0,1,1,1,1,1,1,1,1,1,1,1,1,1,1,1,0,0,10]) [] (by kernel_rfl) ?_
  intro a34 w35 X36 hs37;have hb38:=raw_same hs37 hb32;have hb39:=raw_same hs37 hb33
  by_cases hq40:(chanB n1 b0)=true
  ·skip
   rw[hq40] at X36
   refine seg tabOk mixOk X36 3 [(4,(.bool false)),(9,(.bool pz)),(156,(.bool true)),(157,(.func (.func 82) #[] #[(.pointer (some ⟨b2,0,none⟩))])),(159,(.int .i64 m0))] (at_ Try.f65 [3,0,1,0,1,1,1,1,1,1,1,1,1,1,1,1,1,1,1,0,0,13]) [(159,rb PG hb39.hb 3 (.int .i64 m0) rfl)] (by kernel_rfl) ?_
   intro a41 w42 X43 hs44;have hb45:=raw_same hs44 hb38;have hb46:=raw_same hs44 hb39
   refine ev_callv (g:=(.tmp 157)) (f:=82) (cap:=#[(.pointer (some ⟨b2,0,none⟩))]) (args:=#[(.tmp 159)]) (ats:=#[2]) (dst:=some 160) (ty:=4) (K':=(at_ Try.f65 [3,0,1,0,1,1,1,1,1,1,1,1,1,1,1,1,1,1,1,0,0,14])) (dt:=false) X43.F (by kernel_rfl) rfl [(.int .i64 m0)] rfl (by kernel_rfl) (chan_says m0 b2 _ _ _ _ _ _ _ _ hb45) ?_
   rintro _ a47 w48 ⟨rfl,hs51⟩ _ h50;refine⟨fun h=>(by cases h),?_⟩;have X49:=st_kp X43 (h50 _ rfl) hs51;have hb52:=raw_kp hs51 hb45;have hb53:=raw_kp hs51 hb46
   refine seg tabOk mixOk X49 2 [(4,(.bool false)),(9,(.bool pz)),(162,(.bool (chanB n1 m0)))] (at_ Try.f65 [3,0,1,0,1,1,1,1,1,1,1,1,1,1,1,1,1,1,1,0,0,16]) [] (by kernel_rfl) ?_
   intro a54 w55 X56 hs57;have hb58:=raw_same hs57 hb52;have hb59:=raw_same hs57 hb53
   by_cases hq60:(chanB n1 m0)=true
   ·skip
    rw[hq60] at X56
    refine seg tabOk mixOk X56 4 [(4,(.bool pz))] (at_ Try.f65 [3,0,1,0,1,1,1,1,1,1,1,1,1,1,1,1,1,1,1,0,1]) [] (by kernel_rfl) ?_
    intro a61 w62 X63 hs64;have hb65:=raw_same hs64 hb58;have hb66:=raw_same hs64 hb59
    refine WPK_ret (ret1 rfl X63.F rfl ⟨_,rfl,?_,X63.kp⟩)
    simp[stepB,←hpa,←hpb,←hpn,←hpz,hq20,hq40,hq60]
   ·rw[Bool.not_eq_true] at hq60
    rw[hq60] at X56
    refine seg tabOk mixOk X56 4 [(4,(.bool false))] (at_ Try.f65 [3,0,1,0,1,1,1,1,1,1,1,1,1,1,1,1,1,1,1,0,1]) [] (by kernel_rfl) ?_
    intro a67 w68 X69 hs70;have hb71:=raw_same hs70 hb58;have hb72:=raw_same hs70 hb59
    refine WPK_ret (ret1 rfl X69.F rfl ⟨_,rfl,?_,X69.kp⟩)
    simp[stepB,←hpa,←hpb,←hpn,←hpz,hq20,hq40,hq60]
  ·rw[Bool.not_eq_true] at hq40
   rw[hq40] at X36
   refine seg tabOk mixOk X36 10 [(4,(.bool false))] (at_ Try.f65 [3,0,1,0,1,1,1,1,1,1,1,1,1,1,1,1,1,1,1,0,1]) [] (by kernel_rfl) ?_
   intro a73 w74 X75 hs76;have hb77:=raw_same hs76 hb38;have hb78:=raw_same hs76 hb39
   refine WPK_ret (ret1 rfl X75.F rfl ⟨_,rfl,?_,X75.kp⟩)
   simp[stepB,←hpa,←hpb,←hpn,←hpz,hq20,hq40]
 ·rw[Bool.not_eq_true] at hq20
  rw[hq20] at X16
  refine seg tabOk mixOk X16 16 [(4,(.bool false))] (at_ Try.f65 [3,0,1,0,1,1,1,1,1,1,1,1,1,1,1,1,1,1,1,0,1]) [] (by kernel_rfl) ?_
  intro a79 w80 X81 hs82;have hb83:=raw_same hs82 hb18;have hb84:=raw_same hs82 hb19
  refine WPK_ret (ret1 rfl X81.F rfl ⟨_,rfl,?_,X81.kp⟩)
  simp[stepB,←hpa,←hpb,←hpn,←hpz,hq20]
theorem step_13 (A0 A1:Option Addr)(n0 k0 n1 k1:Nat)(sl a0 b0 m0 z0:Int)(b2 b3:Nat)(pa pb pn pz:Bool)(hpa:pa=(a0==0))(hpb:pb=(b0==0))(hpn:pn=(m0==0))(hpz:pz=(z0==0))(w0 w:World)(a:Act)(X:St ME SE w0 Try.f65.ntmps [] SE cE [(2,(.pointer (some ⟨b2,0,none⟩))),(3,(.pointer (some ⟨b3,0,none⟩))),(4,(.bool false)),(5,(.func (.func 82) #[] #[(.pointer (some ⟨b2,0,none⟩))])),(6,(.bool pa)),(7,(.bool pb)),(8,(.bool pn)),(9,(.bool pz)),(24,(.int .i64 13))] a w)(hb2:RawAt SE w b2 (plan4 A0 A1 n0 k0 n1 k1 sl) 35)(hb3:RawAt SE w b3 (step5 13 a0 b0 m0 z0) 100):
  WPK PG (fun _=>True) (at_ Try.f65 [3,0,1,0,0]) (bodyPost PG Try.f65 fun e w'=>∃u,e=.returned u∧(u=.bool (stepB n0 n1 13 a0 b0 m0 z0)∧Kp SE w0 SE w')) a w:=by
 refine seg tabOk mixOk X 87 [(3,(.pointer (some ⟨b3,0,none⟩))),(4,(.bool false)),(5,(.func (.func 82) #[] #[(.pointer (some ⟨b2,0,none⟩))])),(8,(.bool pn)),(9,(.bool pz)),(168,(.bool pa))] (at_ Try.f65 [3,0,1,0,1,1,1,1,1,1,1,1,1,1,1,1,1,1,1,1,1,0,0,2]) [] (by kernel_rfl) ?_
 intro a1 w2 X3 hs4;have hb5:=raw_same hs4 hb2;have hb6:=raw_same hs4 hb3
 by_cases hq7:pa=true
 ·skip
  rw[hq7] at X3
  refine seg tabOk mixOk X3 3 [(4,(.bool false)),(8,(.bool pn)),(9,(.bool pz)),(168,(.bool true)),(169,(.func (.func 82) #[] #[(.pointer (some ⟨b2,0,none⟩))])),(171,(.int .i64 b0))] (at_ Try.f65 [3,0,1,0,1,1,1,1,1,1,1,1,1,1,1,1,1,1,1,1,1,0,0,5]) [(171,rb PG hb6.hb 2 (.int .i64 b0) rfl)] (by kernel_rfl) ?_
  intro a8 w9 X10 hs11;have hb12:=raw_same hs11 hb5;have hb13:=raw_same hs11 hb6
  refine ev_callv (g:=(.tmp 169)) (f:=82) (cap:=#[(.pointer (some ⟨b2,0,none⟩))]) (args:=#[(.tmp 171)]) (ats:=#[2]) (dst:=some 172) (ty:=4) (K':=(at_ Try.f65 [3,0,1,0,1,1,1,1,1,1,1,1,1,1,1,1,1,1,1,1,1,0,0,6])) (dt:=false) X10.F (by kernel_rfl) rfl [(.int .i64 b0)] rfl (by kernel_rfl) (chan_says b0 b2 _ _ _ _ _ _ _ _ hb12) ?_
  rintro _ a14 w15 ⟨rfl,hs18⟩ _ h17;refine⟨fun h=>(by cases h),?_⟩;have X16:=st_kp X10 (h17 _ rfl) hs18;have hb19:=raw_kp hs18 hb12;have hb20:=raw_kp hs18 hb13
  refine seg tabOk mixOk X16 2 [(4,(.bool false)),(8,(.bool pn)),(9,(.bool pz)),(174,(.bool (chanB n1 b0)))] (at_ Try.f65 [3,0,1,0,1,1,1,1,1,1,1,1,1,1,1,1,1,1,1,1,1,0,0,8]) [] (by kernel_rfl) ?_
  intro a21 w22 X23 hs24;have hb25:=raw_same hs24 hb19;have hb26:=raw_same hs24 hb20
  by_cases hq27:(chanB n1 b0)=true
  ·skip
   rw[hq27] at X23
   refine seg tabOk mixOk X23 3 [(4,(.bool false)),(9,(.bool pz)),(177,(.bool pn))] (at_ Try.f65 [3,0,1,0,1,1,1,1,1,1,1,1,1,1,1,1,1,1,1,1,1,0,0,11]) [] (by kernel_rfl) ?_
   intro a28 w29 X30 hs31;have hb32:=raw_same hs31 hb25;have hb33:=raw_same hs31 hb26
   by_cases hq34:pn=true
   ·skip
    rw[hq34] at X30
    refine seg tabOk mixOk X30 4 [(4,(.bool pz))] (at_ Try.f65 [3,0,1,0,1,1,1,1,1,1,1,1,1,1,1,1,1,1,1,1,1,0,1]) [] (by kernel_rfl) ?_
    intro a35 w36 X37 hs38;have hb39:=raw_same hs38 hb32;have hb40:=raw_same hs38 hb33
    refine WPK_ret (ret1 rfl X37.F rfl ⟨_,rfl,?_,X37.kp⟩)
    simp[stepB,←hpa,←hpb,←hpn,←hpz,hq7,hq27,hq34]
   ·rw[Bool.not_eq_true] at hq34
    rw[hq34] at X30
    refine seg tabOk mixOk X30 4 [(4,(.bool false))] (at_ Try.f65 [3,0,1,0,1,1,1,1,1,1,1,1,1,1,1,1,1,1,1,1,1,0,1]) [] (by kernel_rfl) ?_
    intro a41 w42 X43 hs44;have hb45:=raw_same hs44 hb32;have hb46:=raw_same hs44 hb33
    refine WPK_ret (ret1 rfl X43.F rfl ⟨_,rfl,?_,X43.kp⟩)
    simp[stepB,←hpa,←hpb,←hpn,←hpz,hq7,hq27,hq34]
  ·rw[Bool.not_eq_true] at hq27
   rw[hq27] at X23
   refine seg tabOk mixOk X23 7 [(4,(.bool false))] (at_ Try.f65 [3,0,1,0,1,1,1,1,1,1,1,1,1,1,1,1,1,1,1,1,1,0,1]) [] (by kernel_rfl) ?_
   intro a47 w48 X49 hs50;have hb51:=raw_same hs50 hb25;have hb52:=raw_same hs50 hb26
   refine WPK_ret (ret1 rfl X49.F rfl ⟨_,rfl,?_,X49.kp⟩)
   simp[stepB,←hpa,←hpb,←hpn,←hpz,hq7,hq27]
 ·rw[Bool.not_eq_true] at hq7
  rw[hq7] at X3
  refine seg tabOk mixOk X3 13 [(4,(.bool false))] (at_ Try.f65 [3,0,1,0,1,1,1,1,1,1,1,1,1,1,1,1,1,1,1,1,1,0,1]) [] (by kernel_rfl) ?_
  intro a53 w54 X55 hs56;have hb57:=raw_same hs56 hb5;have hb58:=raw_same hs56 hb6
  refine WPK_ret (ret1 rfl X55.F rfl ⟨_,rfl,?_,X55.kp⟩)
  simp[stepB,←hpa,←hpb,←hpn,←hpz,hq7]
theorem step_14 (A0 A1:Option Addr)(n0 k0 n1 k1:Nat)(sl a0 b0 m0 z0:Int)(b2 b3:Nat)(pa pb pn pz:Bool)(hpa:pa=(a0==0))(hpb:pb=(b0==0))(hpn:pn=(m0==0))(hpz:pz=(z0==0))(w0 w:World)(a:Act)(X:St ME SE w0 Try.f65.ntmps [] SE cE [(2,(.pointer (some ⟨b2,0,none⟩))),(3,(.pointer (some ⟨b3,0,none⟩))),(4,(.bool false)),(5,(.func (.func 82) #[] #[(.pointer (some ⟨b2,0,none⟩))])),(6,(.bool pa)),(7,(.bool pb)),(8,(.bool pn)),(9,(.bool pz)),(24,(.int .i64 14))] a w)(hb2:RawAt SE w b2 (plan4 A0 A1 n0 k0 n1 k1 sl) 35)(hb3:RawAt SE w b3 (step5 14 a0 b0 m0 z0) 100):
  WPK PG (fun _=>True) (at_ Try.f65 [3,0,1,0,0]) (bodyPost PG Try.f65 fun e w'=>∃u,e=.returned u∧(u=.bool (stepB n0 n1 14 a0 b0 m0 z0)∧Kp SE w0 SE w')) a w:=by
 refine seg tabOk mixOk X 51 [(4,(.bool false)),(7,(.bool pb)),(8,(.bool pn)),(9,(.bool pz)),(70,(.bool pa))] (at_ Try.f65 [3,0,1,0,1,1,1,1,1,1,1,0,0,2]) [] (by kernel_rfl) ?_
 intro a1 w2 X3 hs4;have hb5:=raw_same hs4 hb2;have hb6:=raw_same hs4 hb3
 by_cases hq7:pa=true
 ·skip
  rw[hq7] at X3
  refine seg tabOk mixOk X3 3 [(4,(.bool false)),(8,(.bool pn)),(9,(.bool pz)),(73,(.bool pb))] (at_ Try.f65 [3,0,1,0,1,1,1,1,1,1,1,0,0,5]) [] (by kernel_rfl) ?_
  intro a8 w9 X10 hs11;have hb12:=raw_same hs11 hb5;have hb13:=raw_same hs11 hb6
  by_cases hq14:pb=true
  ·skip
   rw[hq14] at X10
   refine seg tabOk mixOk X10 3 [(4,(.bool false)),(9,(.bool pz)),(76,(.bool pn))] (at_ Try.f65 [3,0,1,0,1,1,1,1,1,1,1,0,0,8]) [] (by kernel_rfl) ?_
   intro a15 w16 X17 hs18;have hb19:=raw_same hs18 hb12;have hb20:=raw_same hs18 hb13
   by_cases hq21:pn=true
   ·skip
    rw[hq21] at X17
    refine seg tabOk mixOk X17 4 [(4,(.bool pz))] (at_ Try.f65 [3,0,1,0,1,1,1,1,1,1,1,0,1]) [] (by kernel_rfl) ?_
    intro a22 w23 X24 hs25;have hb26:=raw_same hs25 hb19;have hb27:=raw_same hs25 hb20
    refine WPK_ret (ret1 rfl X24.F rfl ⟨_,rfl,?_,X24.kp⟩)
    simp[stepB,←hpa,←hpb,←hpn,←hpz,hq7,hq14,hq21]
   ·rw[Bool.not_eq_true] at hq21
    rw[hq21] at X17
    refine seg tabOk mixOk X17 4 [(4,(.bool false))] (at_ Try.f65 [3,0,1,0,1,1,1,1,1,1,1,0,1]) [] (by kernel_rfl) ?_
    intro a28 w29 X30 hs31;have hb32:=raw_same hs31 hb19;have hb33:=raw_same hs31 hb20
    refine WPK_ret (ret1 rfl X30.F rfl ⟨_,rfl,?_,X30.kp⟩)
    simp[stepB,←hpa,←hpb,←hpn,←hpz,hq7,hq14,hq21]
  ·rw[Bool.not_eq_true] at hq14
   rw[hq14] at X10
   refine seg tabOk mixOk X10 7 [(4,(.bool false))] (at_ Try.f65 [3,0,1,0,1,1,1,1,1,1,1,0,1]) [] (by kernel_rfl) ?_
   intro a34 w35 X36 hs37;have hb38:=raw_same hs37 hb12;have hb39:=raw_same hs37 hb13
   refine WPK_ret (ret1 rfl X36.F rfl ⟨_,rfl,?_,X36.kp⟩)
   simp[stepB,←hpa,←hpb,←hpn,←hpz,hq7,hq14]
 ·rw[Bool.not_eq_true] at hq7
  rw[hq7] at X3
  refine seg tabOk mixOk X3 10 [(4,(.bool false))] (at_ Try.f65 [3,0,1,0,1,1,1,1,1,1,1,0,1]) [] (by kernel_rfl) ?_
  intro a40 w41 X42 hs43;have hb44:=raw_same hs43 hb5;have hb45:=raw_same hs43 hb6
  refine WPK_ret (ret1 rfl X42.F rfl ⟨_,rfl,?_,X42.kp⟩)
  simp[stepB,←hpa,←hpb,←hpn,←hpz,hq7]
theorem step_15 (A0 A1:Option Addr)(n0 k0 n1 k1:Nat)(sl a0 b0 m0 z0:Int)(b2 b3:Nat)(pa pb pn pz:Bool)(hpa:pa=(a0==0))(hpb:pb=(b0==0))(hpn:pn=(m0==0))(hpz:pz=(z0==0))(w0 w:World)(a:Act)(X:St ME SE w0 Try.f65.ntmps [] SE cE [(2,(.pointer (some ⟨b2,0,none⟩))),(3,(.pointer (some ⟨b3,0,none⟩))),(4,(.bool false)),(5,(.func (.func 82) #[] #[(.pointer (some ⟨b2,0,none⟩))])),(6,(.bool pa)),(7,(.bool pb)),(8,(.bool pn)),(9,(.bool pz)),(24,(.int .i64 15))] a w)(hb2:RawAt SE w b2 (plan4 A0 A1 n0 k0 n1 k1 sl) 35)(hb3:RawAt SE w b3 (step5 15 a0 b0 m0 z0) 100):
  WPK PG (fun _=>True) (at_ Try.f65 [3,0,1,0,0]) (bodyPost PG Try.f65 fun e w'=>∃u,e=.returned u∧(u=.bool (stepB n0 n1 15 a0 b0 m0 z0)∧Kp SE w0 SE w')) a w:=by
 refine seg tabOk mixOk X 96 [(3,(.pointer (some ⟨b3,0,none⟩))),(4,(.bool false)),(7,(.bool pb)),(8,(.bool pn)),(184,(.int .i64 a0))] (at_ Try.f65 [3,0,1,0,1,1,1,1,1,1,1,1,1,1,1,1,1,1,1,1,1,1,1,0,0,2]) [(184,rb PG hb3.hb 1 (.int .i64 a0) rfl)] (by kernel_rfl) ?_
 intro a1 w2 X3 hs4;have hb5:=raw_same hs4 hb2;have hb6:=raw_same hs4 hb3
 refine ev_call (args:=#[(.tmp 184)]) (ats:=#[3]) (dst:=some 185) (ty:=4) (K':=(at_ Try.f65 [3,0,1,0,1,1,1,1,1,1,1,1,1,1,1,1,1,1,1,1,1,1,1,0,0,3])) (dt:=false) X3.F (by kernel_rfl) [(.int .i64 a0)] rfl (by kernel_rfl) (reg_says a0 _) ?_
 rintro _ a7 w8 ⟨rfl,hs11⟩ _ h10;refine⟨fun h=>(by cases h),?_⟩;have X9:=st_kp X3 (h10 _ rfl) hs11;have hb12:=raw_kp hs11 hb5;have hb13:=raw_kp hs11 hb6
 refine seg tabOk mixOk X9 1 [(3,(.pointer (some ⟨b3,0,none⟩))),(4,(.bool false)),(7,(.bool pb)),(8,(.bool pn)),(186,(.bool (regB a0)))] (at_ Try.f65 [3,0,1,0,1,1,1,1,1,1,1,1,1,1,1,1,1,1,1,1,1,1,1,0,0,4]) [] (by kernel_rfl) ?_
 intro a14 w15 X16 hs17;have hb18:=raw_same hs17 hb12;have hb19:=raw_same hs17 hb13
 by_cases hq20:(regB a0)=true
 ·skip
  rw[hq20] at X16
  refine seg tabOk mixOk X16 3 [(3,(.pointer (some ⟨b3,0,none⟩))),(4,(.bool false)),(8,(.bool pn)),(189,(.bool pb))] (at_ Try.f65 [3,0,1,0,1,1,1,1,1,1,1,1,1,1,1,1,1,1,1,1,1,1,1,0,0,7]) [] (by kernel_rfl) ?_
  intro a21 w22 X23 hs24;have hb25:=raw_same hs24 hb18;have hb26:=raw_same hs24 hb19
  by_cases hq27:pb=true
  ·skip
   rw[hq27] at X23
   refine seg tabOk mixOk X23 3 [(3,(.pointer (some ⟨b3,0,none⟩))),(4,(.bool false)),(192,(.bool pn))] (at_ Try.f65 [3,0,1,0,1,1,1,1,1,1,1,1,1,1,1,1,1,1,1,1,1,1,1,0,0,10]) [] (by kernel_rfl) ?_
   intro a28 w29 X30 hs31;have hb32:=raw_same hs31 hb25;have hb33:=raw_same hs31 hb26
   by_cases hq34:pn=true
   ·skip
    rw[hq34] at X30
    refine seg tabOk mixOk X30 6 [(4,(.bool (decide (z0≥0))))] (at_ Try.f65 [3,0,1,0,1,1,1,1,1,1,1,1,1,1,1,1,1,1,1,1,1,1,1,0,1]) [(194,rb PG hb33.hb 4 (.int .i64 z0) rfl)] (by kernel_rfl) ?_
    intro a35 w36 X37 hs38;have hb39:=raw_same hs38 hb32;have hb40:=raw_same hs38 hb33
    refine WPK_ret (ret1 rfl X37.F rfl ⟨_,rfl,?_,X37.kp⟩)
    simp[stepB,←hpa,←hpb,←hpn,←hpz,hq20,hq27,hq34]
   ·rw[Bool.not_eq_true] at hq34
    rw[hq34] at X30
    refine seg tabOk mixOk X30 6 [(4,(.bool false))] (at_ Try.f65 [3,0,1,0,1,1,1,1,1,1,1,1,1,1,1,1,1,1,1,1,1,1,1,0,1]) [] (by kernel_rfl) ?_
    intro a41 w42 X43 hs44;have hb45:=raw_same hs44 hb32;have hb46:=raw_same hs44 hb33
    refine WPK_ret (ret1 rfl X43.F rfl ⟨_,rfl,?_,X43.kp⟩)
    simp[stepB,←hpa,←hpb,←hpn,←hpz,hq20,hq27,hq34]
  ·rw[Bool.not_eq_true] at hq27
   rw[hq27] at X23
   refine seg tabOk mixOk X23 9 [(4,(.bool false))] (at_ Try.f65 [3,0,1,0,1,1,1,1,1,1,1,1,1,1,1,1,1,1,1,1,1,1,1,0,1]) [] (by kernel_rfl) ?_
   intro a47 w48 X49 hs50;have hb51:=raw_same hs50 hb25;have hb52:=raw_same hs50 hb26
   refine WPK_ret (ret1 rfl X49.F rfl ⟨_,rfl,?_,X49.kp⟩)
   simp[stepB,←hpa,←hpb,←hpn,←hpz,hq20,hq27]
 ·rw[Bool.not_eq_true] at hq20
  rw[hq20] at X16
  refine seg tabOk mixOk X16 12 [(4,(.bool false))] (at_ Try.f65 [3,0,1,0,1,1,1,1,1,1,1,1,1,1,1,1,1,1,1,1,1,1,1,0,1]) [] (by kernel_rfl) ?_
  intro a53 w54 X55 hs56;have hb57:=raw_same hs56 hb18;have hb58:=raw_same hs56 hb19
  refine WPK_ret (ret1 rfl X55.F rfl ⟨_,rfl,?_,X55.kp⟩)
  simp[stepB,←hpa,←hpb,←hpn,←hpz,hq20]
theorem step_16 (A0 A1:Option Addr)(n0 k0 n1 k1:Nat)(sl a0 b0 m0 z0:Int)(b2 b3:Nat)(pa pb pn pz:Bool)(hpa:pa=(a0==0))(hpb:pb=(b0==0))(hpn:pn=(m0==0))(hpz:pz=(z0==0))(w0 w:World)(a:Act)(X:St ME SE w0 Try.f65.ntmps [] SE cE [(2,(.pointer (some ⟨b2,0,none⟩))),(3,(.pointer (some ⟨b3,0,none⟩))),(4,(.bool false)),(5,(.func (.func 82) #[] #[(.pointer (some ⟨b2,0,none⟩))])),(6,(.bool pa)),(7,(.bool pb)),(8,(.bool pn)),(9,(.bool pz)),(24,(.int .i64 16))] a w)(hb2:RawAt SE w b2 (plan4 A0 A1 n0 k0 n1 k1 sl) 35)(hb3:RawAt SE w b3 (step5 16 a0 b0 m0 z0) 100):
  WPK PG (fun _=>True) (at_ Try.f65 [3,0,1,0,0]) (bodyPost PG Try.f65 fun e w'=>∃u,e=.returned u∧(u=.bool (stepB n0 n1 16 a0 b0 m0 z0)∧Kp SE w0 SE w')) a w:=by
 refine seg tabOk mixOk X 99 [(3,(.pointer (some ⟨b3,0,none⟩))),(4,(.bool false)),(7,(.bool pb)),(8,(.bool pn)),(184,(.int .i64 a0))] (at_ Try.f65 [3,0,1,0,1,1,1,1,1,1,1,1,1,1,1,1,1,1,1,1,1,1,1,0,0,2]) [(184,rb PG hb3.hb 1 (.int .i64 a0) rfl)] (by kernel_rfl) ?_
 intro a1 w2 X3 hs4;have hb5:=raw_same hs4 hb2;have hb6:=raw_same hs4 hb3
 refine ev_call (args:=#[(.tmp 184)]) (ats:=#[3]) (dst:=some 185) (ty:=4) (K':=(at_ Try.f65 [3,0,1,0,1,1,1,1,1,1,1,1,1,1,1,1,1,1,1,1,1,1,1,0,0,3])) (dt:=false) X3.F (by kernel_rfl) [(.int .i64 a0)] rfl (by kernel_rfl) (reg_says a0 _) ?_
 rintro _ a7 w8 ⟨rfl,hs11⟩ _ h10;refine⟨fun h=>(by cases h),?_⟩;have X9:=st_kp X3 (h10 _ rfl) hs11;have hb12:=raw_kp hs11 hb5;have hb13:=raw_kp hs11 hb6
 refine seg tabOk mixOk X9 1 [(3,(.pointer (some ⟨b3,0,none⟩))),(4,(.bool false)),(7,(.bool pb)),(8,(.bool pn)),(186,(.bool (regB a0)))] (at_ Try.f65 [3,0,1,0,1,1,1,1,1,1,1,1,1,1,1,1,1,1,1,1,1,1,1,0,0,4]) [] (by kernel_rfl) ?_
 intro a14 w15 X16 hs17;have hb18:=raw_same hs17 hb12;have hb19:=raw_same hs17 hb13
 by_cases hq20:(regB a0)=true
 ·skip
  rw[hq20] at X16
  refine seg tabOk mixOk X16 3 [(3,(.pointer (some ⟨b3,0,none⟩))),(4,(.bool false)),(8,(.bool pn)),(189,(.bool pb))] (at_ Try.f65 [3,0,1,0,1,1,1,1,1,1,1,1,1,1,1,1,1,1,1,1,1,1,1,0,0,7]) [] (by kernel_rfl) ?_
  intro a21 w22 X23 hs24;have hb25:=raw_same hs24 hb18;have hb26:=raw_same hs24 hb19
  by_cases hq27:pb=true
  ·skip
   rw[hq27] at X23
   refine seg tabOk mixOk X23 3 [(3,(.pointer (some ⟨b3,0,none⟩))),(4,(.bool false)),(192,(.bool pn))] (at_ Try.f65 [3,0,1,0,1,1,1,1,1,1,1,1,1,1,1,1,1,1,1,1,1,1,1,0,0,10]) [] (by kernel_rfl) ?_
   intro a28 w29 X30 hs31;have hb32:=raw_same hs31 hb25;have hb33:=raw_same hs31 hb26
   by_cases hq34:pn=true
   ·skip
    rw[hq34] at X30
    refine seg tabOk mixOk X30 6 [(4,(.bool (decide (z0≥0))))] (at_ Try.f65 [3,0,1,0,1,1,1,1,1,1,1,1,1,1,1,1,1,1,1,1,1,1,1,0,1]) [(194,rb PG hb33.hb 4 (.int .i64 z0) rfl)] (by kernel_rfl) ?_
    intro a35 w36 X37 hs38;have hb39:=raw_same hs38 hb32;have hb40:=raw_same hs38 hb33
    refine WPK_ret (ret1 rfl X37.F rfl ⟨_,rfl,?_,X37.kp⟩)
    simp[stepB,←hpa,←hpb,←hpn,←hpz,hq20,hq27,hq34]
   ·rw[Bool.not_eq_true] at hq34
    rw[hq34] at X30
    refine seg tabOk mixOk X30 6 [(4,(.bool false))] (at_ Try.f65 [3,0,1,0,1,1,1,1,1,1,1,1,1,1,1,1,1,1,1,1,1,1,1,0,1]) [] (by kernel_rfl) ?_
    intro a41 w42 X43 hs44;have hb45:=raw_same hs44 hb32;have hb46:=raw_same hs44 hb33
    refine WPK_ret (ret1 rfl X43.F rfl ⟨_,rfl,?_,X43.kp⟩)
    simp[stepB,←hpa,←hpb,←hpn,←hpz,hq20,hq27,hq34]
  ·rw[Bool.not_eq_true] at hq27
   rw[hq27] at X23
   refine seg tabOk mixOk X23 9 [(4,(.bool false))] (at_ Try.f65 [3,0,1,0,1,1,1,1,1,1,1,1,1,1,1,1,1,1,1,1,1,1,1,0,1]) [] (by kernel_rfl) ?_
   intro a47 w48 X49 hs50;have hb51:=raw_same hs50 hb25;have hb52:=raw_same hs50 hb26
   refine WPK_ret (ret1 rfl X49.F rfl ⟨_,rfl,?_,X49.kp⟩)
   simp[stepB,←hpa,←hpb,←hpn,←hpz,hq20,hq27]
 ·rw[Bool.not_eq_true] at hq20
  rw[hq20] at X16
  refine seg tabOk mixOk X16 12 [(4,(.bool false))] (at_ Try.f65 [3,0,1,0,1,1,1,1,1,1,1,1,1,1,1,1,1,1,1,1,1,1,1,0,1]) [] (by kernel_rfl) ?_
  intro a53 w54 X55 hs56;have hb57:=raw_same hs56 hb18;have hb58:=raw_same hs56 hb19
  refine WPK_ret (ret1 rfl X55.F rfl ⟨_,rfl,?_,X55.kp⟩)
  simp[stepB,←hpa,←hpb,←hpn,←hpz,hq20]
theorem step_0 (A0 A1:Option Addr)(n0 k0 n1 k1:Nat)(sl op a0 b0 m0 z0:Int)(b2 b3:Nat)(pa pb pn pz:Bool)(h1:¬op=1)(h2:¬op=2)(h3:¬op=3)(h4:¬op=4)(h5:¬op=5)(h6:¬op=6)(h7:¬op=7)(h8:¬op=8)(h9:¬op=9)(h10:¬op=10)(h11:¬op=11)(h12:¬op=12)(h13:¬op=13)(h14:¬op=14)(h15:¬op=15)(h16:¬op=16)(hpa:pa=(a0==0))(hpb:pb=(b0==0))(hpn:pn=(m0==0))(hpz:pz=(z0==0))(w0 w:World)(a:Act)(X:St ME SE w0 Try.f65.ntmps [] SE cE [(2,(.pointer (some ⟨b2,0,none⟩))),(3,(.pointer (some ⟨b3,0,none⟩))),(4,(.bool false)),(5,(.func (.func 82) #[] #[(.pointer (some ⟨b2,0,none⟩))])),(6,(.bool pa)),(7,(.bool pb)),(8,(.bool pn)),(9,(.bool pz)),(24,(.int .i64 op))] a w)(hb2:RawAt SE w b2 (plan4 A0 A1 n0 k0 n1 k1 sl) 35)(hb3:RawAt SE w b3 (step5 op a0 b0 m0 z0) 100):
  WPK PG (fun _=>True) (at_ Try.f65 [3,0,1,0,0]) (bodyPost PG Try.f65 fun e w'=>∃u,e=.returned u∧(u=.bool (stepB n0 n1 op a0 b0 m0 z0)∧Kp SE w0 SE w')) a w:=by
 refine seg tabOk mixOk X 101 [(4,(.bool false))] (at_ Try.f65 [5]) [(26,.ov (.bool (op==1)) (.bool false) (by simp[h1])),(37,.ov (.bool (op==2)) (.bool false) (by simp[h2])),(50,.ov (.bool (op==3)) (.bool false) (by simp[h3])),(51,.ov (.bool (op==4)) (.bool false) (by simp[h4])),(52,.ov (.bool (op==5)) (.bool false) (by simp[h5])),(53,.ov (.bool (op==8)) (.bool false) (by simp[h8])),(67,.ov (.bool (op==6)) (.bool false) (by simp[h6])),(68,.ov (.bool (op==14)) (.bool false) (by simp[h14])),(80,.ov (.bool (op==7)) (.bool false) (by simp[h7])),(104,.ov (.bool (op==9)) (.bool false) (by simp[h9])),(105,.ov (.bool (op==10)) (.bool false) (by simp[h10])),(122,.ov (.bool (op==11)) (.bool false) (by simp[h11])),(146,.ov (.bool (op==12)) (.bool false) (by simp[h12])),(166,.ov (.bool (op==13)) (.bool false) (by simp[h13])),(181,.ov (.bool (op==15)) (.bool false) (by simp[h15])),(182,.ov (.bool (op==16)) (.bool false) (by simp[h16]))] (by kernel_rfl) ?_
 intro a1 w2 X3 hs4;have hb5:=raw_same hs4 hb2;have hb6:=raw_same hs4 hb3
 refine WPK_ret (ret1 rfl X3.F rfl ⟨_,rfl,?_,X3.kp⟩)
 simp[stepB,←hpa,←hpb,←hpn,←hpz,h1,h2,h3,h4,h5,h6,h7,h8,h9,h10,h11,h12,h13,h14,h15,h16]
theorem step_says (A0 A1:Option Addr)(n0 k0 n1 k1:Nat)(sl op a0 b0 m0 z0:Int)(w:World):Says PG 65 [(.agg #[(.slice A0 n0 k0),(.slice A1 n1 k1),(.int .i64 sl)]),(.agg #[(.int .i64 op),(.int .i64 a0),(.int .i64 b0),(.int .i64 m0),(.int .i64 z0)])] w (.bool (stepB n0 n1 op a0 b0 m0 z0)):=by
 refine enter (D:=fun _=>True) Try.func65 rfl [(.agg #[(.slice A0 n0 k0),(.slice A1 n1 k1),(.int .i64 sl)]),(.agg #[(.int .i64 op),(.int .i64 a0),(.int .i64 b0),(.int .i64 m0),(.int .i64 z0)])] (of_decide_eq_true rfl) ?_
 intro a hF;have X:St ME SE w Try.f65.ntmps [] SE cE _ a w:=st_empty hF
 refine seg tabOk mixOk X 2 [(0,(.agg #[(.slice A0 n0 k0),(.slice A1 n1 k1),(.int .i64 sl)])),(1,(.agg #[(.int .i64 op),(.int .i64 a0),(.int .i64 b0),(.int .i64 m0),(.int .i64 z0)]))] (at_ Try.f65 [0,0]) [] (by kernel_rfl) ?_
 intro a1 w2 X3 hs4
 refine ev_box (e:=35) (x:=(.tmp 0)) (dst:=some 2) (ty:=0) (K':=(at_ Try.f65 [0,1])) (dt:=false) X3 (by kernel_rfl) (.agg #[(.slice A0 n0 k0),(.slice A1 n1 k1),(.int .i64 sl)]) rfl _ rfl ?_
 intro a5 w6 X7 k8 e9;refine⟨fun h=>(by cases h),?_⟩
 have hb10:RawAt SE w6 w2.heap.size #[(.slice A0 n0 k0),(.slice A1 n1 k1),(.int .i64 sl)] 35:=by rw[e9];exact raw_new X3 _ _
 refine ev_box (e:=100) (x:=(.tmp 1)) (dst:=some 3) (ty:=0) (K':=(at_ Try.f65 [0,2])) (dt:=false) X7 (by kernel_rfl) (.agg #[(.int .i64 op),(.int .i64 a0),(.int .i64 b0),(.int .i64 m0),(.int .i64 z0)]) rfl _ rfl ?_
 intro a11 w12 X13 k14 e15;refine⟨fun h=>(by cases h),?_⟩;have hb16:=raw_kp k14.toKp hb10
 have hb17:RawAt SE w12 w6.heap.size #[(.int .i64 op),(.int .i64 a0),(.int .i64 b0),(.int .i64 m0),(.int .i64 z0)] 100:=by rw[e15];exact raw_new X7 _ _
 refine seg tabOk mixOk X13 17 [(2,(.pointer (some ⟨w2.heap.size,0,none⟩))),(3,(.pointer (some ⟨w6.heap.size,0,none⟩))),(4,(.bool false)),(5,(.func (.func 82) #[] #[(.pointer (some ⟨w2.heap.size,0,none⟩))])),(6,(.bool (a0==0))),(7,(.bool (b0==0))),(8,(.bool (m0==0))),(9,(.bool (z0==0))),(24,(.int .i64 op))] (at_ Try.f65 [3,0,1,0,0]) [(10,.run (Instr.makeFunc (.func 82) #[] #[(.pointer (some ⟨w2.heap.size,0,none⟩))]) (.func (.func 82) #[] #[(.pointer (some ⟨w2.heap.size,0,none⟩))]) (fun _ _=>by kernel_rfl)),(12,rb PG hb17.hb 1 (.int .i64 a0) rfl),(15,rb PG hb17.hb 2 (.int .i64 b0) rfl),(18,rb PG hb17.hb 3 (.int .i64 m0) rfl),(21,rb PG hb17.hb 4 (.int .i64 z0) rfl),(24,rb PG hb17.hb 0 (.int .i64 op) rfl)] (by kernel_rfl) ?_
 intro a18 w19 X20 hs21;have hb22:=raw_same hs21 hb16;have hb23:=raw_same hs21 hb17
 by_cases h1:op=1
 ·subst h1
  exact step_1 _ _ _ _ _ _ _ _ _ _ _ _ _ _ _ _ _ rfl rfl rfl rfl _ _ _ X20 hb22 hb23
 by_cases h2:op=2
 ·subst h2
  exact step_2 _ _ _ _ _ _ _ _ _ _ _ _ _ _ _ _ _ rfl rfl rfl rfl _ _ _ X20 hb22 hb23
 by_cases h3:op=3
 ·subst h3
  exact step_3 _ _ _ _ _ _ _ _ _ _ _ _ _ _ _ _ _ rfl rfl rfl rfl _ _ _ X20 hb22 hb23
 by_cases h4:op=4
 ·subst h4
  exact step_4 _ _ _ _ _ _ _ _ _ _ _ _ _ _ _ _ _ rfl rfl rfl rfl _ _ _ X20 hb22 hb23
 by_cases h5:op=5
 ·subst h5
  exact step_5 _ _ _ _ _ _ _ _ _ _ _ _ _ _ _ _ _ rfl rfl rfl rfl _ _ _ X20 hb22 hb23
 by_cases h6:op=6
 ·subst h6
  exact step_6 _ _ _ _ _ _ _ _ _ _ _ _ _ _ _ _ _ rfl rfl rfl rfl _ _ _ X20 hb22 hb23
 by_cases h7:op=7
 ·subst h7
  exact step_7 _ _ _ _ _ _ _ _ _ _ _ _ _ _ _ _ _ rfl rfl rfl rfl _ _ _ X20 hb22 hb23
 by_cases h8:op=8
 ·subst h8
  exact step_8 _ _ _ _ _ _ _ _ _ _ _ _ _ _ _ _ _ rfl rfl rfl rfl _ _ _ X20 hb22 hb23
 by_cases h9:op=9
 ·subst h9
  exact step_9 _ _ _ _ _ _ _ _ _ _ _ _ _ _ _ _ _ rfl rfl rfl rfl _ _ _ X20 hb22 hb23
 by_cases h10:op=10
 ·subst h10
  exact step_10 _ _ _ _ _ _ _ _ _ _ _ _ _ _ _ _ _ rfl rfl rfl rfl _ _ _ X20 hb22 hb23
 by_cases h11:op=11
 ·subst h11
  exact step_11 _ _ _ _ _ _ _ _ _ _ _ _ _ _ _ _ _ rfl rfl rfl rfl _ _ _ X20 hb22 hb23
 by_cases h12:op=12
 ·subst h12
  exact step_12 _ _ _ _ _ _ _ _ _ _ _ _ _ _ _ _ _ rfl rfl rfl rfl _ _ _ X20 hb22 hb23
 by_cases h13:op=13
 ·subst h13
  exact step_13 _ _ _ _ _ _ _ _ _ _ _ _ _ _ _ _ _ rfl rfl rfl rfl _ _ _ X20 hb22 hb23
 by_cases h14:op=14
 ·subst h14
  exact step_14 _ _ _ _ _ _ _ _ _ _ _ _ _ _ _ _ _ rfl rfl rfl rfl _ _ _ X20 hb22 hb23
 by_cases h15:op=15
 ·subst h15
  exact step_15 _ _ _ _ _ _ _ _ _ _ _ _ _ _ _ _ _ rfl rfl rfl rfl _ _ _ X20 hb22 hb23
 by_cases h16:op=16
 ·subst h16
  exact step_16 _ _ _ _ _ _ _ _ _ _ _ _ _ _ _ _ _ rfl rfl rfl rfl _ _ _ X20 hb22 hb23
 exact step_0 _ _ _ _ _ _ _ _ _ _ _ _ _ _ _ _ _ _ h1 h2 h3 h4 h5 h6 h7 h8 h9 h10 h11 h12 h13 h14 h15 h16 rfl rfl rfl rfl _ _ _ X20 hb22 hb23
end Go.BeatS
end
