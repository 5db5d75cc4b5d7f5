/-
  Texts joined by a program (shake.py), without what the claim does not use; printed walks among them (print.sh), and own ones.
-/
import Derived.Test.YtejjedooecephaaPok3
import Derived.Test.YtejjedooecephaaPok13
section
namespace Go.Proofs.Ytejjedooecephaa.PFnExactPlanOk
open Go.RowKit Go.Proofs.YtejjedooecephaaW.PrintWords Go.Proofs.YtejjedooecephaaW.PrintLast Go.Proofs.YtejjedooecephaaW.PrintMore
set_option linter.unusedVariables false

def impl_stepOk.f (k : Nat) (l0_0 : List (S98)) (l0_1 : List Int) (a0_2 : Int) (a1_0 : Int) (a1_1 : Int) (a1_2 : Int) (a1_3 : Int) (a1_4 : Int) : Option (Bool) := some (Go.Beat.stepB l0_0.length l0_1.length a1_0 a1_1 a1_2 a1_3 a1_4)
theorem impl_stepOk.calls (k : Nat) (A0_0 : Option Addr) (c0_0 : Nat) (l0_0 : List (S98)) (A0_1 : Option Addr) (c0_1 : Nat) (l0_1 : List Int) (a0_2 : Int) (a1_0 : Int) (a1_1 : Int) (a1_2 : Int) (a1_3 : Int) (a1_4 : Int) (r : Bool) (w : World) (hr0_0 : Kd.C k98 w A0_0 l0_0.length l0_0) (hc0_0 : l0_0.length ≤ c0_0) (hr0_1 : Kd.C (Kd.int .i64) w A0_1 l0_1.length l0_1) (hc0_1 : l0_1.length ≤ c0_1) (h : impl_stepOk.f k l0_0 l0_1 a0_2 a1_0 a1_1 a1_2 a1_3 a1_4 = some r) :
    Calls Try.prog 65 #[.agg #[.slice A0_0 l0_0.length c0_0, .slice A0_1 l0_1.length c0_1, .int .i64 a0_2], .agg #[.int .i64 a1_0, .int .i64 a1_1, .int .i64 a1_2, .int .i64 a1_3, .int .i64 a1_4]] w fun e w' => e = .returned (.bool r) ∧ Below w.heap.size w w' := by
  have h1 : Go.Beat.stepB l0_0.length l0_1.length a1_0 a1_1 a1_2 a1_3 a1_4 = r := Option.some.inj h
  subst h1
  refine (Go.Beat.step_says A0_0 A0_1 l0_0.length c0_0 l0_1.length c0_1 a0_2 a1_0 a1_1 a1_2 a1_3 a1_4 w).mono ?_
  rintro e w' ⟨u, rfl, rfl, hk⟩
  exact ⟨rfl, Go.Beat.below_se hk⟩
end Go.Proofs.Ytejjedooecephaa.PFnExactPlanOk
end
section
namespace Go.Proofs.Ytejjedooecephaa.PFnExactPlanOk
open Go.RowKit Go.Proofs.YtejjedooecephaaW.PrintWords Go.Proofs.YtejjedooecephaaW.PrintLast Go.Proofs.YtejjedooecephaaW.PrintMore
attribute [local go_sem] max2_int min2_int max_two min_two max_three min_three max_four min_four   -- for this text's walks alone
set_option linter.unusedVariables false
set_option linter.unusedSimpArgs false

mutual
def impl_PlanOk.j0 : Nat → Bool → List (S98) → List Int → Int → Option (Int × Int × Int)
  | 0, _, _, _, _ => none
  | k + 1, x25, x221000, x221001, x221002 => if x25 = true then (some (1, 0, 0)) else (if (x221001.length : Int) > 10 then (impl_PlanOk.j1 k true x221000 x221001 x221002) else (if x221002 < 1 then (impl_PlanOk.j1 k true x221000 x221001 x221002) else (impl_PlanOk.j1 k (decide (x221002 > 100)) x221000 x221001 x221002)))
def impl_PlanOk.j1 : Nat → Bool → List (S98) → List Int → Int → Option (Int × Int × Int)
  | 0, _, _, _, _ => none
  | k + 1, x40, x221000, x221001, x221002 => if x40 = true then (some (2, 0, 0)) else (impl_PlanOk.l0 k x221001 (x221001.length : Int) 0 x221000 x221001 x221002)
def impl_PlanOk.l0 : Nat → List Int → Int → Int → List (S98) → List Int → Int → Option (Int × Int × Int)
  | 0, _, _, _, _, _, _ => none
  | k + 1, x43, x44, x45, x221000, x221001, x221002 => if x45 < x44 then (if 0 ≤ x45 then (if x45 < (x43.length : Int) then (if (rd x43 x45) < 0 then (some (2, 0, 0)) else (if (rd x43 x45) > 10 then (some (2, 0, 0)) else (impl_PlanOk.l0 k x43 x44 (wrap64 (x45 + 1)) x221000 x221001 x221002))) else (none)) else (none)) else (impl_PlanOk.l1 k x221000 (x221000.length : Int) 0 x221000 x221001 x221002)
def impl_PlanOk.l1 : Nat → List (S98) → Int → Int → List (S98) → List Int → Int → Option (Int × Int × Int)
  | 0, _, _, _, _, _, _ => none
  | k + 1, x58, x59, x60, x221000, x221001, x221002 => if x60 < x59 then (if 0 ≤ x60 then (if x60 < (x58.length : Int) then (if (((rd_T98 x58 x60).f0).length : Int) > 200 then (some (3, x60, 0)) else (impl_PlanOk.l1 k x58 x59 (wrap64 (x60 + 1)) x221000 x221001 x221002)) else (none)) else (none)) else (impl_PlanOk.l2 k x221000 (x221000.length : Int) 0 x221000 x221001 x221002)
def impl_PlanOk.l2 : Nat → List (S98) → Int → Int → List (S98) → List Int → Int → Option (Int × Int × Int)
  | 0, _, _, _, _, _, _ => none
  | k + 1, x73, x74, x75, x221000, x221001, x221002 => if x75 < x74 then (if 0 ≤ x75 then (if x75 < (x73.length : Int) then (impl_PlanOk.l3 k x75 x73 x74 x75 ((rd_T98 x73 x75).f0) (((rd_T98 x73 x75).f0).length : Int) 0 x221000 x221001 x221002) else (none)) else (none)) else (impl_PlanOk.l4 k x221000 (x221000.length : Int) 0)
def impl_PlanOk.l3 : Nat → Int → List (S98) → Int → Int → List (S100) → Int → Int → List (S98) → List Int → Int → Option (Int × Int × Int)
  | 0, _, _, _, _, _, _, _, _, _, _ => none
  | k + 1, x7, x73, x74, x75, x81, x82, x83, x221000, x221001, x221002 => if x83 < x82 then (if 0 ≤ x83 then (if x83 < (x81.length : Int) then ((impl_stepOk.f k x221000 x221001 x221002 ((rd_T100 x81 x83).f0) ((rd_T100 x81 x83).f1) ((rd_T100 x81 x83).f2) ((rd_T100 x81 x83).f3) ((rd_T100 x81 x83).f4)).bind fun t229 => (if t229 = true then (impl_PlanOk.l3 k x7 x73 x74 x75 x81 x82 (wrap64 (x83 + 1)) x221000 x221001 x221002) else (some (4, x7, x83)))) else (none)) else (none)) else (impl_PlanOk.l2 k x73 x74 (wrap64 (x75 + 1)) x221000 x221001 x221002)
def impl_PlanOk.l4 : Nat → List (S98) → Int → Int → Option (Int × Int × Int)
  | 0, _, _, _ => none
  | k + 1, x98, x99, x100 => if x100 < x99 then (if 0 ≤ x100 then (if x100 < (x98.length : Int) then (impl_PlanOk.l5 k x100 (([(((rd_T98 x98 x100).f0).length : Int)] : List Int)) x98 x99 x100 ((rd_T98 x98 x100).f0) (((rd_T98 x98 x100).f0).length : Int) 0) else (none)) else (none)) else (some (0, 0, 0))
def impl_PlanOk.l5 : Nat → Int → List Int → List (S98) → Int → Int → List (S100) → Int → Int → Option (Int × Int × Int)
  | 0, _, _, _, _, _, _, _, _ => none
  | k + 1, x11, x13, x98, x99, x100, x110, x111, x112 => if x112 < x111 then (if 0 ≤ x112 then (if x112 < (x110.length : Int) then (impl_PlanOk.l6 k x11 x13 x112 x98 x99 x100 x110 x111 x112 ((rd_T100 x110 x112).f0) ((rd_T100 x110 x112).f1) ((rd_T100 x110 x112).f2) ((rd_T100 x110 x112).f3) ((rd_T100 x110 x112).f4)) else (none)) else (none)) else (impl_PlanOk.l4 k x98 x99 (wrap64 (x100 + 1)))
def impl_PlanOk.j9 : Nat → Int → List Int → Int → List (S98) → Int → Int → List (S100) → Int → Int → Int → Int → Int → Int → Int → Option (Int × Int × Int)
  | 0, _, _, _, _, _, _, _, _, _, _, _, _, _, _ => none
  | k + 1, x11, x13, x14, x98, x99, x100, x110, x111, x112, x237000, x237001, x237002, x237003, x237004 => if x237000 = 15 then (impl_PlanOk.j10 k x11 x13 x14 x98 x99 x100 x110 x111 x112 false x237000 x237001 x237002 x237003 x237004) else (impl_PlanOk.j10 k x11 x13 x14 x98 x99 x100 x110 x111 x112 (x237000 != 16) x237000 x237001 x237002 x237003 x237004)
def impl_PlanOk.j10 : Nat → Int → List Int → Int → List (S98) → Int → Int → List (S100) → Int → Int → Bool → Int → Int → Int → Int → Int → Option (Int × Int × Int)
  | 0, _, _, _, _, _, _, _, _, _, _, _, _, _, _, _ => none
  | k + 1, x11, x13, x14, x98, x99, x100, x110, x111, x112, x142, x237000, x237001, x237002, x237003, x237004 => if x142 = true then (impl_PlanOk.l5 k x11 x13 x98 x99 x100 x110 x111 (wrap64 (x112 + 1))) else (if 0 ≤ (wrap64 ((x13.length : Int) - 1)) then (if (wrap64 ((x13.length : Int) - 1)) < (x13.length : Int) then (if x237004 > (wrap64 ((wrap64 ((rd x13 (wrap64 ((x13.length : Int) - 1))) - x14)) - 1)) then (some (5, x11, x14)) else (if (wrap64 ((x13.length : Int) - 1)) ≥ 10 then (some (6, x11, x14)) else (if x13.length < 17592186044416 then (impl_PlanOk.l5 k x11 (x13 ++ [wrap64 ((wrap64 (x14 + 1)) + x237004)]) x98 x99 x100 x110 x111 (wrap64 (x112 + 1))) else (none)))) else (none)) else (none))
def impl_PlanOk.l6 : Nat → Int → List Int → Int → List (S98) → Int → Int → List (S100) → Int → Int → Int → Int → Int → Int → Int → Option (Int × Int × Int)
  | 0, _, _, _, _, _, _, _, _, _, _, _, _, _, _ => none
  | k + 1, x11, x13, x14, x98, x99, x100, x110, x111, x112, x237000, x237001, x237002, x237003, x237004 => if (x13.length : Int) > 1 then (if 0 ≤ (wrap64 ((x13.length : Int) - 1)) then (if (wrap64 ((x13.length : Int) - 1)) < (x13.length : Int) then (if (rd x13 (wrap64 ((x13.length : Int) - 1))) ≤ x14 then (if (wrap64 ((x13.length : Int) - 1)) ≤ (x13.length : Int) then (impl_PlanOk.l6 k x11 (x13.take ((wrap64 ((x13.length : Int) - 1)) : Int).toNat) x14 x98 x99 x100 x110 x111 x112 x237000 x237001 x237002 x237003 x237004) else (none)) else (impl_PlanOk.j9 k x11 x13 x14 x98 x99 x100 x110 x111 x112 x237000 x237001 x237002 x237003 x237004)) else (none)) else (none)) else (impl_PlanOk.j9 k x11 x13 x14 x98 x99 x100 x110 x111 x112 x237000 x237001 x237002 x237003 x237004)
end
def impl_PlanOk.f (k : Nat) (l0_0 : List (S98)) (l0_1 : List Int) (a0_2 : Int) : Option (Int × Int × Int) := if (l0_0.length : Int) = 0 then (impl_PlanOk.j0 k true l0_0 l0_1 a0_2) else (impl_PlanOk.j0 k (decide ((l0_0.length : Int) > 20)) l0_0 l0_1 a0_2)
end Go.Proofs.Ytejjedooecephaa.PFnExactPlanOk
end
