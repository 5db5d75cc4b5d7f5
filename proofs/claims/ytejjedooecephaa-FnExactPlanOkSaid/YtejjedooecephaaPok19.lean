/-
  PROVED: FnExactPlanOk: the program's PlanOk answers as the reference's, at every argument.
  Conditions: none but the row's own.
-/
import Derived.Test.YtejjedooecephaaPok15
import Derived.Test.YtejjedooecephaaPok17
import Derived.Test.YtejjedooecephaaPok18
import Derived.Test.YtejjedooecephaaRows
import Derived.WalkKit
import Derived.ProofKit
import Derived.OpenShut
import Derived.ChangeOld
import Derived.Below
import Derived.Carry
section
namespace Go.Proofs.Ytejjedooecephaa.PFnExactPlanOk
open Go.RowKit Go.Proofs.YtejjedooecephaaW.PrintWords Go.Proofs.YtejjedooecephaaW.PrintLast Go.Proofs.YtejjedooecephaaW.PrintMore
open Go.Beat (stepB regB chanB)
set_option linter.unusedVariables false
set_option linter.unusedSimpArgs false

def Rel {α : Type} (f g : Nat → Option α) : Prop := ∃ R, Evt f R ∧ Evt g R
theorem Rel.succ {α : Type} {f f' g g' : Nat → Option α} (hf : ∀ k, f (k + 1) = f' k) (hg : ∀ k, g (k + 1) = g' k) (h : Rel f' g') : Rel f g := by
  obtain ⟨R, h1, h2⟩ := h
  exact ⟨R, Evt.succ hf h1, Evt.succ hg h2⟩
theorem Rel.const {α : Type} (r : α) : Rel (fun _ => some r) (fun _ => some r) := ⟨r, Evt.of fun _ => rfl, Evt.of fun _ => rfl⟩

theorem gs_of_stepB {nb nr : Nat} {s : S100} (h : stepB nb nr s.f0 s.f1 s.f2 s.f3 s.f4 = true) : Gs s := by
  intro hb
  unfold stepB at h
  rcases hb with hb | hb
  · simp [hb] at h
    exact h.2.2.2
  · simp [hb] at h
    exact h.2.2.2

section
variable (bs : List S98) (rs : List Int) (sl : Int) (hb : bs.length ≤ 20) (hr : rs.length ≤ 1048576) (hst : ∀ b ∈ bs, b.f0.length ≤ 200)
include hb hst

theorem r4 (hg : ∀ b ∈ bs, ∀ s ∈ b.f0, Gs s) : ∀ (d i : Nat), i + d = bs.length → Rel (fun k => spec_PlanOk.l4 k bs bs.length i) (fun k => impl_PlanOk.l4 k bs bs.length i)
  | 0, i, hi => by
    refine Rel.succ (f' := fun _ => some (0, 0, 0)) (g' := fun _ => some (0, 0, 0)) (fun k => ?_) (fun k => ?_) (Rel.const _)
    · simp only [spec_PlanOk.l4]
      rw [if_neg (by omega)]
    · simp only [impl_PlanOk.l4]
      rw [if_neg (by omega)]
  | d + 1, i, hi => by
    have hlt : i < bs.length := by omega
    have e : rd_T98 bs (i : Int) = bs[i] := getD_at hlt
    have hmem := List.getElem_mem hlt
    obtain ⟨R, h1, h2⟩ := r4 hg d (i + 1) (by omega)
    have w1 : wrap64 ((i : Int) + 1) = ((i + 1 : Nat) : Int) := by rw [wrap_le (by omega) (by omega)]; rfl
    obtain ⟨r, ⟨b, h3, h4⟩, h5⟩ := nest bs bs[i].f0 bs.length i (hst _ hmem) (hg _ hmem) _ 0 bs[i].f0.length [] (Nat.le_refl _) (by omega) (fun t ht => by simp at ht; omega) (by simp) (by simp) (by simp)
    have hin : Evt (fun k => spec_l1inside.f k bs[i].f0 0 bs[i].f0.length 0) b := Evt.succ (fun k => by simp only [spec_l1inside.f]; rfl) h3
    have hs : ∀ k, spec_PlanOk.l4 (k + 1) bs bs.length i = (spec_l1inside.f k bs[i].f0 0 bs[i].f0.length 0).bind fun bt => if bt.1 = 0 then spec_PlanOk.l4 k bs bs.length ((i + 1 : Nat) : Int) else some (bt.1, (i : Int), bt.2) := by
      intro k
      simp only [spec_PlanOk.l4, e, w1]
      rw [if_pos (by omega), if_pos (by omega), if_pos (by omega)]
    have hi5 : ∀ k, impl_PlanOk.l4 (k + 1) bs bs.length i = impl_PlanOk.l5 k i (stk [bs[i].f0.length]) bs bs.length i bs[i].f0 bs[i].f0.length ((0 : Nat) : Int) := by
      intro k
      simp only [impl_PlanOk.l4, e]
      rw [if_pos (by omega), if_pos (by omega), if_pos (by omega)]
      rfl
    rcases h4 with ⟨h4, h6⟩ | ⟨h4, h6⟩
    · have h6' : r = (0, 0) := h6
      refine ⟨R, Evt.succ hs (Evt.bind hin ?_), Evt.succ hi5 (h5 R (fun _ => ?_) (fun h => absurd (by rw [h6']) h))⟩
      · simp only [h4, if_true]
        exact h1
      · rw [w1]
        exact h2
    · subst h6
      refine ⟨(r.1, (i : Int), r.2), Evt.succ hs (Evt.bind hin (Evt.of fun k => by rw [if_neg h4])), Evt.succ hi5 (h5 _ (fun h => absurd h h4) (fun _ => rfl))⟩

include hr
theorem r3 (i : Nat) (steps : List S100) (hlen : steps.length ≤ 200) (next : (∀ s ∈ steps, Gs s) → Rel (fun k => spec_PlanOk.l2 k bs bs.length ((i + 1 : Nat) : Int) bs rs sl) (fun k => impl_PlanOk.l2 k bs bs.length ((i + 1 : Nat) : Int) bs rs sl)) (hi : i < bs.length) : ∀ (d j : Nat), j + d = steps.length → (∀ s ∈ steps.take j, Gs s) →
    Rel (fun k => spec_PlanOk.l3 k i bs bs.length i steps steps.length j bs rs sl) (fun k => impl_PlanOk.l3 k i bs bs.length i steps steps.length j bs rs sl)
  | 0, j, hj, hg => by
    have _ := hst
    have w1 : wrap64 ((i : Int) + 1) = ((i + 1 : Nat) : Int) := by rw [wrap_le (by omega) (by omega)]; rfl
    refine Rel.succ (fun k => ?_) (fun k => ?_) (next (by rwa [List.take_of_length_le (by omega)] at hg))
    · simp only [spec_PlanOk.l3, w1]
      rw [if_neg (by omega)]
    · simp only [impl_PlanOk.l3, w1]
      rw [if_neg (by omega)]
  | d + 1, j, hj, hg => by
    have hlt : j < steps.length := by omega
    have e : rd_T100 steps (j : Int) = steps[j] := getD_at hlt
    have w1 : wrap64 ((j : Int) + 1) = ((j + 1 : Nat) : Int) := by rw [wrap_le (by omega) (by omega)]; rfl
    have hs : ∀ k, spec_PlanOk.l3 (k + 1) i bs bs.length i steps steps.length j bs rs sl = (spec_l1shape.f k bs rs sl steps[j].f0 steps[j].f1 steps[j].f2 steps[j].f3 steps[j].f4).bind fun t => if t = true then spec_PlanOk.l3 k i bs bs.length i steps steps.length ((j + 1 : Nat) : Int) bs rs sl else some (4, (i : Int), (j : Int)) := by
      intro k
      simp only [spec_PlanOk.l3, e, w1]
      rw [if_pos (by omega), if_pos (by omega), if_pos (by omega)]
    have hi3 : ∀ k, impl_PlanOk.l3 (k + 1) i bs bs.length i steps steps.length j bs rs sl = if stepB bs.length rs.length steps[j].f0 steps[j].f1 steps[j].f2 steps[j].f3 steps[j].f4 = true then impl_PlanOk.l3 k i bs bs.length i steps steps.length ((j + 1 : Nat) : Int) bs rs sl else some (4, (i : Int), (j : Int)) := by
      intro k
      simp only [impl_PlanOk.l3, e, w1, impl_stepOk.f, Option.bind_some]
      rw [if_pos (by omega), if_pos (by omega), if_pos (by omega)]
    have hsh := shape (bs := bs) (rs := rs) (sl := sl) (op := steps[j].f0) (a := steps[j].f1) (b := steps[j].f2) (n := steps[j].f3) (z := steps[j].f4) (by omega) hr
    by_cases c : stepB bs.length rs.length steps[j].f0 steps[j].f1 steps[j].f2 steps[j].f3 steps[j].f4 = true
    · obtain ⟨R, h1, h2⟩ := r3 i steps hlen next hi d (j + 1) (by omega) (fun s hs2 => by
        rw [List.take_add_one, List.getElem?_eq_getElem hlt] at hs2
        rcases List.mem_append.1 hs2 with h | h
        · exact hg s h
        · simp at h
          subst h
          exact gs_of_stepB c)
      refine ⟨R, Evt.succ hs (Evt.bind hsh ?_), Evt.succ hi3 (Evt.congr (fun k => by rw [if_pos c]) h2)⟩
      simp only [c, if_true]
      exact h1
    · refine ⟨(4, (i : Int), (j : Int)), Evt.succ hs (Evt.bind hsh (Evt.of fun k => by rw [if_neg c])), Evt.succ hi3 (Evt.of fun k => by rw [if_neg c])⟩

theorem r2 : ∀ (d i : Nat), i + d = bs.length → (∀ b ∈ bs.take i, ∀ s ∈ b.f0, Gs s) → Rel (fun k => spec_PlanOk.l2 k bs bs.length i bs rs sl) (fun k => impl_PlanOk.l2 k bs bs.length i bs rs sl)
  | 0, i, hi, hg => by
    refine Rel.succ (fun k => ?_) (fun k => ?_) (r4 bs hb hst (by rwa [List.take_of_length_le (by omega)] at hg) bs.length 0 (by omega))
    · simp only [spec_PlanOk.l2]
      rw [if_neg (by omega)]
      rfl
    · simp only [impl_PlanOk.l2]
      rw [if_neg (by omega)]
      rfl
  | d + 1, i, hi, hg => by
    have hlt : i < bs.length := by omega
    have e : rd_T98 bs (i : Int) = bs[i] := getD_at hlt
    refine Rel.succ (fun k => ?_) (fun k => ?_) (r3 bs rs sl hb hr hst i bs[i].f0 (hst _ (List.getElem_mem hlt)) (fun h => r2 d (i + 1) (by omega) (fun b hb2 => by
        rw [List.take_add_one, List.getElem?_eq_getElem hlt] at hb2
        rcases List.mem_append.1 hb2 with h2 | h2
        · exact hg b h2
        · simp at h2
          subst h2
          exact h)) hlt bs[i].f0.length 0 (by omega) (by simp))
    · simp only [spec_PlanOk.l2, e]
      rw [if_pos (by omega), if_pos (by omega), if_pos (by omega)]
      rfl
    · simp only [impl_PlanOk.l2, e]
      rw [if_pos (by omega), if_pos (by omega), if_pos (by omega)]
      rfl
end

theorem r1 (bs : List S98) (rs : List Int) (sl : Int) (hb : bs.length ≤ 20) (hr : rs.length ≤ 1048576) : ∀ (d i : Nat), i + d = bs.length → (∀ b ∈ bs.take i, b.f0.length ≤ 200) → Rel (fun k => spec_PlanOk.l1 k bs bs.length i bs rs sl) (fun k => impl_PlanOk.l1 k bs bs.length i bs rs sl)
  | 0, i, hi, hg => by
    refine Rel.succ (fun k => ?_) (fun k => ?_) (r2 bs rs sl hb hr (by rwa [List.take_of_length_le (by omega)] at hg) bs.length 0 (by omega) (by simp))
    · simp only [spec_PlanOk.l1]
      rw [if_neg (by omega)]
      rfl
    · simp only [impl_PlanOk.l1]
      rw [if_neg (by omega)]
      rfl
  | d + 1, i, hi, hg => by
    have hlt : i < bs.length := by omega
    have e : rd_T98 bs (i : Int) = bs[i] := getD_at hlt
    have w1 : wrap64 ((i : Int) + 1) = ((i + 1 : Nat) : Int) := by rw [wrap_le (by omega) (by omega)]; rfl
    by_cases c : (bs[i].f0.length : Int) > 200
    · refine Rel.succ (f' := fun _ => some (3, (i : Int), 0)) (g' := fun _ => some (3, (i : Int), 0)) (fun k => ?_) (fun k => ?_) (Rel.const _)
      · simp only [spec_PlanOk.l1, e]
        rw [if_pos (by omega), if_pos (by omega), if_pos (by omega), if_pos c]
      · simp only [impl_PlanOk.l1, e]
        rw [if_pos (by omega), if_pos (by omega), if_pos (by omega), if_pos c]
    · refine Rel.succ (fun k => ?_) (fun k => ?_) (r1 bs rs sl hb hr d (i + 1) (by omega) (fun b hb2 => by
          rw [List.take_add_one, List.getElem?_eq_getElem hlt] at hb2
          rcases List.mem_append.1 hb2 with h2 | h2
          · exact hg b h2
          · simp at h2
            subst h2
            omega))
      · simp only [spec_PlanOk.l1, e, w1]
        rw [if_pos (by omega), if_pos (by omega), if_pos (by omega), if_neg c]
      · simp only [impl_PlanOk.l1, e, w1]
        rw [if_pos (by omega), if_pos (by omega), if_pos (by omega), if_neg c]

theorem r0 (bs : List S98) (rs : List Int) (sl : Int) (hb : bs.length ≤ 20) (hr : rs.length ≤ 1048576) : ∀ (d i : Nat), i + d = rs.length → Rel (fun k => spec_PlanOk.l0 k rs rs.length i bs rs sl) (fun k => impl_PlanOk.l0 k rs rs.length i bs rs sl)
  | 0, i, hi => by
    refine Rel.succ (fun k => ?_) (fun k => ?_) (r1 bs rs sl hb hr bs.length 0 (by omega) (by simp))
    · simp only [spec_PlanOk.l0]
      rw [if_neg (by omega)]
      rfl
    · simp only [impl_PlanOk.l0]
      rw [if_neg (by omega)]
      rfl
  | d + 1, i, hi => by
    have hlt : i < rs.length := by omega
    have e : rd rs (i : Int) = rs[i] := getD_at hlt
    have w1 : wrap64 ((i : Int) + 1) = ((i + 1 : Nat) : Int) := by rw [wrap_le (by omega) (by omega)]; rfl
    by_cases c : rs[i] < 0 ∨ rs[i] > 10
    · refine Rel.succ (f' := fun _ => some (2, 0, 0)) (g' := fun _ => some (2, 0, 0)) (fun k => ?_) (fun k => ?_) (Rel.const _)
      · simp only [spec_PlanOk.l0, e, l1in_f, Option.bind_some]
        rw [if_pos (by omega), if_pos (by omega), if_pos (by omega), if_neg (by simp; omega)]
      · simp only [impl_PlanOk.l0, e]
        rw [if_pos (by omega), if_pos (by omega), if_pos (by omega)]
        by_cases c2 : rs[i] < 0
        · rw [if_pos c2]
        · rw [if_neg c2, if_pos (by omega)]
    · refine Rel.succ (fun k => ?_) (fun k => ?_) (r0 bs rs sl hb hr d (i + 1) (by omega))
      · simp only [spec_PlanOk.l0, e, l1in_f, Option.bind_some, w1]
        rw [if_pos (by omega), if_pos (by omega), if_pos (by omega), if_pos (by simp; omega)]
      · simp only [impl_PlanOk.l0, e, w1]
        rw [if_pos (by omega), if_pos (by omega), if_pos (by omega), if_neg (by omega), if_neg (by omega)]

theorem planOk (bs : List S98) (rs : List Int) (sl : Int) (hr : rs.length ≤ 1048576) : Rel (fun k => spec_PlanOk.f k bs rs sl) (fun k => impl_PlanOk.f k bs rs sl) := by
  by_cases c : (bs.length : Int) = 0 ∨ (bs.length : Int) > 20
  · refine Rel.succ (f' := fun _ => some (1, 0, 0)) (g' := fun _ => some (1, 0, 0)) (fun k => ?_) (fun k => ?_) (Rel.const _)
    · unfold spec_PlanOk.f
      simp only [spec_PlanOk.j0]
      by_cases c2 : (bs.length : Int) = 0
      · rw [if_pos c2, if_pos trivial]
      · rw [if_neg c2, if_pos (by simp; omega)]
    · unfold impl_PlanOk.f
      simp only [impl_PlanOk.j0]
      by_cases c2 : (bs.length : Int) = 0
      · rw [if_pos c2, if_pos trivial]
      · rw [if_neg c2, if_pos (by simp; omega)]
  · by_cases c3 : (rs.length : Int) > 10 ∨ sl < 1 ∨ sl > 100
    · refine Rel.succ (f' := fun k => spec_PlanOk.j1 k true bs rs sl) (g' := fun k => impl_PlanOk.j1 k true bs rs sl) (fun k => ?_) (fun k => ?_) (Rel.succ (f' := fun _ => some (2, 0, 0)) (g' := fun _ => some (2, 0, 0)) (fun k => ?_) (fun k => ?_) (Rel.const _))
      · unfold spec_PlanOk.f
        simp only [spec_PlanOk.j0, l1in_f, Option.bind_some]
        rw [if_neg (by omega), if_neg (by simp; omega)]
        by_cases c4 : (rs.length : Int) > 10
        · rw [if_pos c4]
        · rw [if_neg c4]
          congr 1
          simp
          omega
      · unfold impl_PlanOk.f
        simp only [impl_PlanOk.j0]
        rw [if_neg (by omega), if_neg (by simp; omega)]
        by_cases c4 : (rs.length : Int) > 10
        · rw [if_pos c4]
        · rw [if_neg c4]
          by_cases c5 : sl < 1
          · rw [if_pos c5]
          · rw [if_neg c5]
            congr 1
            simp
            omega
      · simp only [spec_PlanOk.j1]
        rw [if_pos trivial]
      · simp only [impl_PlanOk.j1]
        rw [if_pos trivial]
    · refine Rel.succ (f' := fun k => spec_PlanOk.j1 k false bs rs sl) (g' := fun k => impl_PlanOk.j1 k false bs rs sl) (fun k => ?_) (fun k => ?_) (Rel.succ (fun k => ?_) (fun k => ?_) (r0 bs rs sl (by omega) hr rs.length 0 (by omega)))
      · unfold spec_PlanOk.f
        simp only [spec_PlanOk.j0, l1in_f, Option.bind_some]
        rw [if_neg (by omega), if_neg (by simp; omega), if_neg (by omega)]
        congr 1
        simp
        omega
      · unfold impl_PlanOk.f
        simp only [impl_PlanOk.j0]
        rw [if_neg (by omega), if_neg (by simp; omega), if_neg (by omega), if_neg (by omega)]
        congr 1
        simp
        omega
      · simp only [spec_PlanOk.j1]
        rw [if_neg (by simp)]
        rfl
      · simp only [impl_PlanOk.j1]
        rw [if_neg (by simp)]
        rfl

theorem pure_ok (bs : List S146) (rs : List Int) (sl : Int) (h1 : bs.length ≤ 9223372036854775807) (h2 : ∀ b ∈ bs, b.f0.length ≤ 9223372036854775807) (h3 : rs.length ≤ 9223372036854775807) :
    ∃ k, laws_FnExactPlanOk.f k bs rs sl = some true := by
  by_cases c : ∃ b : Unit, bs.length ≤ 1048576 ∧ (∀ b ∈ bs, b.f0.length ≤ 1048576) ∧ rs.length ≤ 1048576
  · obtain ⟨_, b1, b2, b3⟩ := c
    obtain ⟨R, ⟨K, hK⟩, K2, hK2⟩ := planOk (bs.map cBody) rs sl b3
    have hbs : ∀ b ∈ bs.map cBody, b.f0.length ≤ 1048576 := by
      intro b hb
      obtain ⟨x, hx, rfl⟩ := List.mem_map.1 hb
      simpa [cBody] using b2 x hx
    refine ⟨K + K2 + 3000001, ?_⟩
    obtain ⟨r, a1, a2, a3, a4⟩ := szPlan_f (bs := bs) (rs := rs) (sl := sl) (a := 1048576) (k := K + K2 + 3000001) (by omega) (by omega) h1 h2 h3 (by omega)
    unfold laws_FnExactPlanOk.f
    rw [a1]
    simp only [Option.bind_some]
    by_cases c : r < 0
    · rw [if_pos c]
    · rw [if_neg c]
      have k1 := hK (K + K2 + 3000001) (by omega)
      have k2 := hK2 (K + K2 + 3000001) (by omega)
      simp only at k1 k2
      simp only [toPlan_f b1 b2 b3 (show 3000000 < K + K2 + 3000001 by omega), Option.bind_some, k1, k2, laws_eqFault.f, if_true]
      rw [eqPlan_f (by simpa using b1) hbs b3 (by omega)]
      rfl
  · refine ⟨3000001, ?_⟩
    obtain ⟨r, a1, a2, a3, a4⟩ := szPlan_f (bs := bs) (rs := rs) (sl := sl) (a := 1048576) (k := 3000001) (by omega) (by omega) h1 h2 h3 (by omega)
    unfold laws_FnExactPlanOk.f
    rw [a1]
    simp only [Option.bind_some]
    by_cases c2 : r < 0
    · rw [if_pos c2]
    · exact absurd ⟨(), a4 (by omega)⟩ c
end Go.Proofs.Ytejjedooecephaa.PFnExactPlanOk

namespace Go.Proofs.Ytejjedooecephaa.fnExactPlanOk
open Go.ChangeShapes Go.WideShapes Go.ChangeAt Go.RowKit Go.Beat PFnExactPlanOk
open Go.Proofs.YtejjedooecephaaW.PrintWords
set_option linter.unusedVariables false

section
variable {H : Type} {enc : TypeId × Value → H} {w : World}
def num (n : Int) : Prop := (Lit.int .i64 n).wf = true
theorem o_int : Opens enc Try.prog w 3 (Kd.int .i64) num := opens_int Try.underlying3
theorem o_int64 : Opens enc Try.prog w 2 (Kd.int .i64) num := opens_int Try.underlying2
theorem o_step : Opens enc Try.prog w 194 k194 (fun _ => True) := by
  intro base spare held n cs y h
  obtain ⟨x, hx, _⟩ := (opens_iso (fun x : S194 => (x.f0, x.f1, x.f2, x.f3, x.f4)) (fun x => ⟨x.1, x.2.1, x.2.2.1, x.2.2.2.1, x.2.2.2.2⟩) (fun _ => rfl)
    (opens_struct Try.underlying194 (by kernel_rfl) (opensF_cons rfl (by kernel_rfl) o_int (opensF_cons rfl (by kernel_rfl) o_int (opensF_cons rfl (by kernel_rfl) o_int (opensF_cons rfl (by kernel_rfl) o_int64 (opensF_one rfl (by kernel_rfl) o_int))))))) base spare held n cs y h
  exact ⟨x, hx, trivial⟩
theorem o_body : Opens enc Try.prog w 146 k146 (fun b => b.f0.length ≤ 9223372036854775807) := by
  intro base spare held n cs y h
  obtain ⟨x, hx, hq⟩ := (opens_iso (fun x : S146 => x.f0) (fun x => ⟨x⟩) (fun _ => rfl)
    (opens_struct Try.underlying146 (by kernel_rfl) (opensF_one rfl (by kernel_rfl) (opens_slice (d := k194) Try.underlying144 (by kernel_rfl) o_step)))) base spare held n cs y h
  exact ⟨x, hx, by simpa [maxLen] using hq.1⟩
def kPlan : Kd (List S146 × List Int × Int) := Kd.pair (Kd.slice 146 k146) (Kd.pair (Kd.slice 3 (Kd.int .i64)) (Kd.int .i64))
theorem o_plan : Opens enc Try.prog w 26 kPlan (fun x => (x.1.length ≤ 9223372036854775807 ∧ ∀ b ∈ x.1, b.f0.length ≤ 9223372036854775807) ∧ x.2.1.length ≤ 9223372036854775807) := by
  intro base spare held n cs y h
  obtain ⟨x, hx, h1, h2, _⟩ := opens_struct Try.underlying26 (by kernel_rfl) (opensF_cons rfl (by kernel_rfl) (opens_slice (d := k146) Try.underlying23 (by kernel_rfl) o_body) (opensF_cons rfl (by kernel_rfl) (opens_slice (d := Kd.int .i64) Try.underlying24 (by kernel_rfl) o_int) (opensF_one rfl (by kernel_rfl) o_int))) base spare held n cs y h
  exact ⟨x, hx, ⟨by simpa [maxLen] using h1.1, h1.2⟩, by simpa [maxLen] using h2.1⟩
theorem kPlan_open {x : List S146 × List Int × Int} {cs : List Value} (h : kPlan.K w x cs) : ∃ A0 c0 A1 c1, cs = [.slice A0 x.1.length c0, .slice A1 x.2.1.length c1, .int .i64 x.2.2] ∧ k146.C w A0 x.1.length x.1 ∧ x.1.length ≤ c0 ∧ (Kd.int .i64).C w A1 x.2.1.length x.2.1 ∧ x.2.1.length ≤ c1 := by
  obtain ⟨_, _, rfl, ⟨A0, c0, rfl, h1, h2⟩, _, _, rfl, ⟨A1, c1, rfl, h3, h4⟩, h5⟩ := h
  rw [show _ = _ from h5]
  exact ⟨A0, c0, A1, c1, rfl, h2, h1, h4, h3⟩
end

theorem own : ownKnob Try.prog.godebug = none := by kernel_rfl
theorem laidOut : laidOutB Try.prog = true := by kernel_rfl

set_option maxRecDepth 100000 in
theorem lifted (os : Os) (started : os.Started) (H : Type) (enc : TypeId × Value → H) :
    ReturnsInHanded {} Try.checked os 5 .any (Rows.fnExactPlanOkSpec.pre6 enc Try.prog Try.f5 Rows.fnExactPlanOkRow.domain false) (Rows.fnExactPlanOkSpec.post enc Try.prog Try.f5 false true false false) := by
  refine returnsInHanded_of_change (C := Try.checked) own started (by kernel_rfl) Try.func5
    (ChangeSpec.witness6 (enc := enc) (C := Try.checked) false ⟨#[], #[.agg #[.slice none 0 0, .slice none 0 0, .int .i64 0] ], []⟩ 8 (by kernel_rfl) (by kernel_rfl) (by kernel_rfl) (by kernel_rfl)) ?_
  intro W base args ds gs before hval0 hW hcnd _
  have hW' := hW
  obtain ⟨p, q, hA0, hV, rfl, hfz, hnd⟩ := hW
  have hA : DataW.TrodAll enc Try.prog W 0 (fun _ => true) true Try.f5.params.toList args.toList ds p := hA0
  rw [Try.params5] at hA
  obtain ⟨v0, vs0, d0, ds0, p0, q0, hargs, rfl, rfl, h0, r0⟩ := trodAll_cons hA
  obtain ⟨rfl, rfl, rfl⟩ := trodAll_nil r0
  obtain rfl : args = #[v0] := by cases args; simp_all
  obtain ⟨rfl, rfl⟩ := trodVars_none hV
  have k0 := h0
  have lt0 : ∀ x ∈ p0, x.block < W.heap.size := by obtain ⟨m, hm⟩ := k0; exact DataW.trod_lt m _ _ _ hm
  obtain ⟨m0, f0⟩ := h0
  obtain ⟨⟨bs, rs, sl⟩, e0, ⟨b0, b1⟩, b2⟩ := o_plan _ _ _ _ _ _ f0
  obtain ⟨A0, c0, A1, c1, g0, g1, g2, g3, g4⟩ := kPlan_open e0
  have z0 := agg_of_cells g0 (by simp)
  subst z0
  clear hA0 hval0
  obtain ⟨K, hK⟩ := pure_ok bs rs sl b0 b1 b2
  refine (laws_FnExactPlanOk.calls K A0 c0 bs A1 c1 rs sl W g1 g2 g3 g4 hK).mono fun e W' ⟨he, bel⟩ => ?_
  subst he
  exact ⟨_, rfl, _, _, _, [], _, [], hW', trodAll_mk1 (shut_bool Try.underlying4 _), (trodAll_cons_mk (Below.trod laidOut (by kernel_rfl) (of_decide_eq_true (by kernel_rfl)) k0 bel lt0) trodAll_mk0), rfl, bel.frame _, fun h => by cases h⟩

theorem over : Rows.fnExactPlanOkRow.holds Try.pinned (OpenSpec.ofChange Rows.fnExactPlanOkSpec) :=
  OpenClaim.holds_of_wide 5 Try.f5 rfl rfl rfl rfl rfl rfl rfl ⟨rfl, rfl, rfl, rfl, rfl⟩ rfl rfl rfl rfl rfl (by kernel_rfl) Try.func5 (by kernel_rfl)
    (of_decide_eq_true (by kernel_rfl)) (by unfold Func.isWrapper; first | (rw [if_pos (by decide +kernel)]; kernel_rfl) | (rw [if_neg (by decide +kernel)]; exact ⟨rfl, rfl⟩))
    (fun os started H enc _ => lifted os started H enc)

/-- The statement. -/
theorem proved : Rows.FnExactPlanOkSaid := over
#print axioms proved
end Go.Proofs.Ytejjedooecephaa.fnExactPlanOk
end
