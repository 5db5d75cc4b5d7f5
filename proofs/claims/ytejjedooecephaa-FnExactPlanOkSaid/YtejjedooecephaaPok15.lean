/-
  Texts joined by a program (shake.py), without what the claim does not use; printed walks among them (print.sh), and own ones.
-/
import Derived.Test.YtejjedooecephaaPok3
import Derived.Test.YtejjedooecephaaPok4
import Derived.Test.YtejjedooecephaaPok5
import Derived.Test.YtejjedooecephaaPok14
section
namespace Go.Proofs.Ytejjedooecephaa.PFnExactPlanOk
open Go.RowKit Go.Proofs.YtejjedooecephaaW.PrintWords Go.Proofs.YtejjedooecephaaW.PrintLast Go.Proofs.YtejjedooecephaaW.PrintMore
set_option linter.unusedVariables false
set_option linter.unusedSimpArgs false

theorem wrap_le {x : Int} (h0 : -9223372036854775808 ≤ x) (h : x ≤ 9223372036854775807) : wrap64 x = x := by unfold wrap64; omega
theorem getD_at {α : Type} {xs : List α} {i : Nat} {z : α} (h : i < xs.length) : xs.getD (Int.toNat (i : Int)) z = xs[i] := by simp [List.getD_eq_getElem?_getD, h]
theorem set_take {α β : Type} {f : α → β} {xs : List α} {ys : List β} {i : Nat} (h : i < xs.length) (hy : i < ys.length) : (ys.set i (f xs[i])).take (i + 1) ++ (xs.drop (i + 1)).map f = ys.take i ++ (xs.drop i).map f := by
  have h1 : (ys.set i (f xs[i])).take (i + 1) = ys.take i ++ [f xs[i]] := by
    rw [List.take_add_one, List.take_set_of_le (Nat.le_refl i)]
    simp [hy]
  rw [h1, List.append_assoc, List.drop_eq_getElem_cons h]
  rfl

def cStep (s : S194) : S100 := ⟨s.f0, s.f1, s.f2, s.f3, s.f4⟩
def cBody (b : S146) : S98 := ⟨b.f0.map cStep⟩

theorem toStepS_l0 (x0 : List S194) (hb : x0.length ≤ 1048576) : ∀ (d k i : Nat) (x3 : List S100), x3.length = x0.length → i + d = x0.length → d < k → laws_toStepS.l0 k x0 x3 i = some (x3.take i ++ (x0.drop i).map cStep)
  | 0, k, i, x3, hl, hi, hk => by
    obtain ⟨k, rfl⟩ : ∃ m, k = m + 1 := ⟨k - 1, by omega⟩
    simp only [laws_toStepS.l0]
    rw [if_neg (by omega), List.take_of_length_le (by omega), List.drop_of_length_le (by omega)]
    simp
  | d + 1, k, i, x3, hl, hi, hk => by
    obtain ⟨k, rfl⟩ : ∃ m, k = m + 1 := ⟨k - 1, by omega⟩
    have hlt : i < x0.length := by omega
    simp only [laws_toStepS.l0, laws_toStep.f, Option.bind_some]
    rw [if_pos (by omega), if_pos (by omega), if_pos (by omega), wrap_le (by omega) (by omega), show ((i : Int) + 1) = ((i + 1 : Nat) : Int) from rfl]
    rw [toStepS_l0 x0 hb d k (i + 1) _ (by simp [hl]) (by omega) (by omega)]
    congr 1
    have e : rd_T194 x0 (i : Int) = x0[i] := getD_at hlt
    rw [e]
    exact set_take (f := cStep) hlt (by omega)
theorem toStepS_f {xs : List S194} {k : Nat} (hb : xs.length ≤ 1048576) (hk : 1048576 < k) : laws_toStepS.f k xs = some (xs.map cStep) := by
  unfold laws_toStepS.f
  rw [if_pos (by omega), if_pos (by omega)]
  have := toStepS_l0 xs hb xs.length k 0 (List.replicate ((xs.length : Int)).toNat z100) (by simp) (by omega) (by omega)
  rw [show ((0 : Nat) : Int) = 0 from rfl] at this
  rw [this]
  simp

theorem toBodyS_l0 (x0 : List S146) (hb : x0.length ≤ 1048576) (hs : ∀ b ∈ x0, b.f0.length ≤ 1048576) : ∀ (d k i : Nat) (x3 : List S98), x3.length = x0.length → i + d = x0.length → d + 1048577 < k → laws_toBodyS.l0 k x0 x3 i = some (x3.take i ++ (x0.drop i).map cBody)
  | 0, k, i, x3, hl, hi, hk => by
    obtain ⟨k, rfl⟩ : ∃ m, k = m + 1 := ⟨k - 1, by omega⟩
    simp only [laws_toBodyS.l0]
    rw [if_neg (by omega), List.take_of_length_le (by omega), List.drop_of_length_le (by omega)]
    simp
  | d + 1, k, i, x3, hl, hi, hk => by
    obtain ⟨k, rfl⟩ : ∃ m, k = m + 1 := ⟨k - 1, by omega⟩
    have hlt : i < x0.length := by omega
    have e : rd_T146 x0 (i : Int) = x0[i] := getD_at hlt
    simp only [laws_toBodyS.l0, laws_toBody.f]
    rw [if_pos (by omega), if_pos (by omega), e, toStepS_f (hs _ (List.getElem_mem hlt)) (by omega)]
    simp only [Option.bind_some]
    rw [if_pos (by omega), wrap_le (by omega) (by omega), show ((i : Int) + 1) = ((i + 1 : Nat) : Int) from rfl]
    rw [toBodyS_l0 x0 hb hs d k (i + 1) _ (by simp [hl]) (by omega) (by omega)]
    congr 1
    exact set_take (f := cBody) hlt (by omega)
theorem toBodyS_f {xs : List S146} {k : Nat} (hb : xs.length ≤ 1048576) (hs : ∀ b ∈ xs, b.f0.length ≤ 1048576) (hk : 3000000 < k) : laws_toBodyS.f k xs = some (xs.map cBody) := by
  unfold laws_toBodyS.f
  rw [if_pos (by omega), if_pos (by omega)]
  have := toBodyS_l0 xs hb hs xs.length k 0 (List.replicate ((xs.length : Int)).toNat z98) (by simp) (by omega) (by omega)
  rw [show ((0 : Nat) : Int) = 0 from rfl] at this
  rw [this]
  simp

theorem toIntS_l0 (x0 : List Int) (hb : x0.length ≤ 1048576) : ∀ (d k i : Nat) (x3 : List Int), x3.length = x0.length → i + d = x0.length → d < k → laws_toIntS.l0 k x0 x3 i = some (x3.take i ++ (x0.drop i).map id)
  | 0, k, i, x3, hl, hi, hk => by
    obtain ⟨k, rfl⟩ : ∃ m, k = m + 1 := ⟨k - 1, by omega⟩
    simp only [laws_toIntS.l0]
    rw [if_neg (by omega), List.take_of_length_le (by omega), List.drop_of_length_le (by omega)]
    simp
  | d + 1, k, i, x3, hl, hi, hk => by
    obtain ⟨k, rfl⟩ : ∃ m, k = m + 1 := ⟨k - 1, by omega⟩
    have hlt : i < x0.length := by omega
    have e : rd x0 (i : Int) = x0[i] := getD_at hlt
    simp only [laws_toIntS.l0]
    rw [if_pos (by omega), if_pos (by omega), if_pos (by omega), wrap_le (by omega) (by omega), show ((i : Int) + 1) = ((i + 1 : Nat) : Int) from rfl]
    rw [toIntS_l0 x0 hb d k (i + 1) _ (by simp [hl]) (by omega) (by omega)]
    congr 1
    rw [e]
    exact set_take (f := id) hlt (by omega)
theorem toIntS_f {xs : List Int} {k : Nat} (hb : xs.length ≤ 1048576) (hk : 1048576 < k) : laws_toIntS.f k xs = some xs := by
  unfold laws_toIntS.f
  rw [if_pos (by omega), if_pos (by omega)]
  have := toIntS_l0 xs hb xs.length k 0 (List.replicate ((xs.length : Int)).toNat 0) (by simp) (by omega) (by omega)
  rw [show ((0 : Nat) : Int) = 0 from rfl] at this
  rw [this]
  simp

theorem toPlan_f {bs : List S146} {rs : List Int} {sl : Int} {k : Nat} (hb : bs.length ≤ 1048576) (hs : ∀ b ∈ bs, b.f0.length ≤ 1048576) (hr : rs.length ≤ 1048576) (hk : 3000000 < k) : laws_toPlan.f k bs rs sl = some (bs.map cBody, rs, sl) := by
  unfold laws_toPlan.f
  rw [toBodyS_f hb hs hk]
  simp only [Option.bind_some]
  rw [toIntS_f hr (by omega)]
  rfl

theorem eqIntS_l0 (x0 : List Int) (hb : x0.length ≤ 1048576) : ∀ (d k i : Nat), i + d = x0.length → d < k → laws_eqIntS.l0 k x0 x0 i = some true
  | 0, k, i, hi, hk => by
    obtain ⟨k, rfl⟩ : ∃ m, k = m + 1 := ⟨k - 1, by omega⟩
    simp only [laws_eqIntS.l0]
    rw [if_neg (by omega)]
  | d + 1, k, i, hi, hk => by
    obtain ⟨k, rfl⟩ : ∃ m, k = m + 1 := ⟨k - 1, by omega⟩
    simp only [laws_eqIntS.l0]
    rw [if_pos (by omega), if_pos (by omega), if_pos (by omega), if_pos trivial, wrap_le (by omega) (by omega)]
    exact eqIntS_l0 x0 hb d k (i + 1) (by omega) (by omega)
theorem eqIntS_f {xs : List Int} {k : Nat} (hb : xs.length ≤ 1048576) (hk : 1048576 < k) : laws_eqIntS.f k xs xs = some true := by
  unfold laws_eqIntS.f
  rw [if_pos rfl]
  exact eqIntS_l0 xs hb xs.length k 0 (by omega) (by omega)

theorem eqStepS_l0 (x0 : List S100) (hb : x0.length ≤ 1048576) : ∀ (d k i : Nat), i + d = x0.length → d < k → laws_eqStepS.l0 k x0 x0 i = some true
  | 0, k, i, hi, hk => by
    obtain ⟨k, rfl⟩ : ∃ m, k = m + 1 := ⟨k - 1, by omega⟩
    simp only [laws_eqStepS.l0]
    rw [if_neg (by omega)]
  | d + 1, k, i, hi, hk => by
    obtain ⟨k, rfl⟩ : ∃ m, k = m + 1 := ⟨k - 1, by omega⟩
    simp only [laws_eqStepS.l0, laws_eqStep.f, if_true, Option.bind_some]
    rw [if_pos (by omega), if_pos (by omega), if_pos (by omega), wrap_le (by omega) (by omega)]
    exact eqStepS_l0 x0 hb d k (i + 1) (by omega) (by omega)
theorem eqStepS_f {xs : List S100} {k : Nat} (hb : xs.length ≤ 1048576) (hk : 1048576 < k) : laws_eqStepS.f k xs xs = some true := by
  unfold laws_eqStepS.f
  rw [if_pos rfl]
  exact eqStepS_l0 xs hb xs.length k 0 (by omega) (by omega)

theorem eqBodyS_l0 (x0 : List S98) (hb : x0.length ≤ 1048576) (hs : ∀ b ∈ x0, b.f0.length ≤ 1048576) : ∀ (d k i : Nat), i + d = x0.length → d + 1048577 < k → laws_eqBodyS.l0 k x0 x0 i = some true
  | 0, k, i, hi, hk => by
    obtain ⟨k, rfl⟩ : ∃ m, k = m + 1 := ⟨k - 1, by omega⟩
    simp only [laws_eqBodyS.l0]
    rw [if_neg (by omega)]
  | d + 1, k, i, hi, hk => by
    obtain ⟨k, rfl⟩ : ∃ m, k = m + 1 := ⟨k - 1, by omega⟩
    have hlt : i < x0.length := by omega
    have e : rd_T98 x0 (i : Int) = x0[i] := getD_at hlt
    simp only [laws_eqBodyS.l0, laws_eqBody.f]
    rw [if_pos (by omega), if_pos (by omega), if_pos (by omega), e, eqStepS_f (hs _ (List.getElem_mem hlt)) (by omega)]
    simp only [Option.bind_some, if_true]
    rw [wrap_le (by omega) (by omega)]
    exact eqBodyS_l0 x0 hb hs d k (i + 1) (by omega) (by omega)
theorem eqPlan_f {bs : List S98} {rs : List Int} {sl : Int} {k : Nat} (hb : bs.length ≤ 1048576) (hs : ∀ b ∈ bs, b.f0.length ≤ 1048576) (hr : rs.length ≤ 1048576) (hk : 3000000 < k) : laws_eqPlan.f k bs rs sl bs rs sl = some true := by
  unfold laws_eqPlan.f laws_eqBodyS.f
  rw [if_pos rfl, show (0 : Int) = ((0 : Nat) : Int) from rfl, eqBodyS_l0 bs hb hs bs.length k 0 (by omega) (by omega)]
  simp only [Option.bind_some, if_true]
  rw [eqIntS_f hr (by omega)]
  rfl

theorem szStepS_f {xs : List S194} {a : Int} (h0 : 0 ≤ a) (ha : a ≤ 1048576) (hm : xs.length ≤ 9223372036854775807) : laws_szStepS.f xs a = some (if a < xs.length then -1 else a - xs.length) := by
  unfold laws_szStepS.f
  rw [wrap_le (by omega) (by omega)]
  split <;> split <;> first | rfl | omega
theorem szBodyS_l0 (x0 : List S146) (hb : x0.length ≤ 1048576) (hm : ∀ b ∈ x0, b.f0.length ≤ 9223372036854775807) : ∀ (d k i : Nat) (a : Int), 0 ≤ a → a ≤ 1048576 → i + d = x0.length → d < k →
    ∃ r, laws_szBodyS.l0 k x0 a i = some r ∧ -1 ≤ r ∧ r ≤ a ∧ (0 ≤ r → ∀ b ∈ x0.drop i, b.f0.length ≤ 1048576)
  | 0, k, i, a, h0, ha, hi, hk => by
    obtain ⟨k, rfl⟩ : ∃ m, k = m + 1 := ⟨k - 1, by omega⟩
    simp only [laws_szBodyS.l0]
    rw [if_neg (by omega), List.drop_of_length_le (by omega)]
    exact ⟨a, rfl, by omega, by omega, fun _ b hb2 => by cases hb2⟩
  | d + 1, k, i, a, h0, ha, hi, hk => by
    obtain ⟨k, rfl⟩ : ∃ m, k = m + 1 := ⟨k - 1, by omega⟩
    have hlt : i < x0.length := by omega
    have e : rd_T146 x0 (i : Int) = x0[i] := getD_at hlt
    have hmem := hm _ (List.getElem_mem hlt)
    simp only [laws_szBodyS.l0, laws_szBody.f]
    rw [if_pos (by omega), if_pos (by omega), e, szStepS_f h0 ha hmem]
    simp only [Option.bind_some]
    by_cases hs : a < x0[i].f0.length
    · rw [if_pos hs]
      exact ⟨-1, rfl, by omega, by omega, fun h => by omega⟩
    · rw [if_neg hs, if_neg (by omega)]
      simp only [Option.bind_some]
      rw [if_neg (by omega), wrap_le (by omega) (by omega)]
      obtain ⟨r, h1, h2, h3, h4⟩ := szBodyS_l0 x0 hb hm d k (i + 1) (a - x0[i].f0.length) (by omega) (by omega) (by omega) (by omega)
      refine ⟨r, h1, h2, by omega, fun hr b hb2 => ?_⟩
      rw [List.drop_eq_getElem_cons hlt] at hb2
      rcases List.mem_cons.1 hb2 with rfl | hb2
      · omega
      · exact h4 hr b hb2
theorem szPlan_f {bs : List S146} {rs : List Int} {sl a : Int} {k : Nat} (h0 : 0 ≤ a) (ha : a ≤ 1048576) (hb : bs.length ≤ 9223372036854775807) (hs : ∀ b ∈ bs, b.f0.length ≤ 9223372036854775807) (hr : rs.length ≤ 9223372036854775807) (hk : 3000000 < k) :
    ∃ r, laws_szPlan.f k bs rs sl a = some r ∧ -1 ≤ r ∧ r ≤ a ∧ (0 ≤ r → bs.length ≤ 1048576 ∧ (∀ b ∈ bs, b.f0.length ≤ 1048576) ∧ rs.length ≤ 1048576) := by
  unfold laws_szPlan.f laws_szBodyS.f
  rw [wrap_le (by omega) (by omega)]
  by_cases h1 : a - (bs.length : Int) < 0
  · rw [if_pos h1]
    exact ⟨-1, rfl, by omega, by omega, fun h => by omega⟩
  · rw [if_neg h1]
    obtain ⟨r, h2, h3, h4, h5⟩ := szBodyS_l0 bs (by omega) hs bs.length k 0 (a - bs.length) (by omega) (by omega) (by omega) (by omega)
    rw [show ((0 : Nat) : Int) = 0 from rfl] at h2
    rw [h2]
    simp only [Option.bind_some]
    by_cases h6 : r < 0
    · rw [if_pos h6]
      exact ⟨-1, rfl, by omega, by omega, fun h => by omega⟩
    · rw [if_neg h6]
      unfold laws_szIntS.f
      rw [wrap_le (by omega) (by omega)]
      by_cases h7 : r - (rs.length : Int) < 0
      · rw [if_pos h7]
        exact ⟨-1, rfl, by omega, by omega, fun h => by omega⟩
      · rw [if_neg h7]
        simp only [Option.bind_some]
        rw [if_neg h7]
        exact ⟨_, rfl, by omega, by omega, fun _ => ⟨by omega, fun b hb2 => h5 (by omega) b (by simpa using hb2), by omega⟩⟩
end Go.Proofs.Ytejjedooecephaa.PFnExactPlanOk
end
section
namespace Go.Proofs.Ytejjedooecephaa.PFnExactPlanOk
open Go.RowKit Go.Proofs.YtejjedooecephaaW.PrintWords Go.Proofs.YtejjedooecephaaW.PrintLast Go.Proofs.YtejjedooecephaaW.PrintMore
open Go.Beat (stepB regB chanB)
set_option linter.unusedVariables false
set_option linter.unusedSimpArgs false

def Evt {α : Type} (g : Nat → Option α) (r : α) : Prop := ∃ K, ∀ k, K ≤ k → g k = some r
theorem Evt.of {α : Type} {g : Nat → Option α} {r : α} (h : ∀ k, g k = some r) : Evt g r := ⟨0, fun k _ => h k⟩
theorem Evt.succ {α : Type} {g g' : Nat → Option α} {r : α} (h : ∀ k, g (k + 1) = g' k) (h' : Evt g' r) : Evt g r := by
  obtain ⟨K, hK⟩ := h'
  refine ⟨K + 1, fun k hk => ?_⟩
  obtain ⟨k, rfl⟩ : ∃ m, k = m + 1 := ⟨k - 1, by omega⟩
  rw [h]
  exact hK k (by omega)
theorem Evt.congr {α : Type} {g g' : Nat → Option α} {r : α} (h : ∀ k, g k = g' k) (h' : Evt g' r) : Evt g r := by
  obtain ⟨K, hK⟩ := h'
  exact ⟨K, fun k hk => (h k).trans (hK k hk)⟩
theorem Evt.bind {α β : Type} {g : Nat → Option β} {h : Nat → β → Option α} {b : β} {r : α} (hg : Evt g b) (hh : Evt (fun k => h k b) r) : Evt (fun k => (g k).bind (h k)) r := by
  obtain ⟨K, hK⟩ := hg
  obtain ⟨K2, hK2⟩ := hh
  refine ⟨K + K2, fun k hk => ?_⟩
  show (g k).bind (h k) = some r
  rw [hK k (by omega)]
  exact hK2 k (by omega)

theorem ite_b (c x : Bool) : (if c = true then some x else some false) = some (c && x) := by cases c <;> rfl
theorem ite_p (p : Prop) [Decidable p] (x : Bool) : (if p then some x else some false) = some (decide p && x) := by by_cases h : p <;> simp [h]
theorem l1in_f (x a b : Int) : spec_l1in.f x a b = some (decide (a ≤ x) && decide (x ≤ b)) := by
  unfold spec_l1in.f
  rw [ite_p]
theorem reg_eq (a : Int) : (decide ((0 : Int) ≤ a) && decide (a ≤ 3)) = regB a := by
  unfold regB
  congr 1
  apply decide_eq_decide.2
  omega
theorem chan_eq (n : Nat) (c : Int) : (decide ((0 : Int) ≤ c) && decide (c ≤ (n : Int) - 1)) = chanB n c := by
  unfold chanB
  congr 1
  apply decide_eq_decide.2
  omega

theorem beq_dec (x y : Int) : (x == y) = decide (x = y) := by by_cases h : x = y <;> simp [h]

theorem shape {bs : List S98} {rs : List Int} {sl op a b n z : Int} (hb : bs.length ≤ 1048576) (hr : rs.length ≤ 1048576) : Evt (fun k => spec_l1shape.f k bs rs sl op a b n z) (stepB bs.length rs.length op a b n z) := by
  refine ⟨3, fun k hk => ?_⟩
  obtain ⟨k, rfl⟩ : ∃ m, k = m + 3 := ⟨k - 3, by omega⟩
  have w1 : wrap64 ((rs.length : Int) - 1) = (rs.length : Int) - 1 := wrap_le (by omega) (by omega)
  have w2 : wrap64 ((bs.length : Int) - 1) = (bs.length : Int) - 1 := wrap_le (by omega) (by omega)
  simp only [spec_l1shape.f, spec_l1shape.j0, spec_l1shape.j1, spec_l1shape.j2, spec_l1reg.f, l1in_f, Option.bind_some, w1, w2, ite_b, ite_p, reg_eq, chan_eq]
  unfold stepB
  by_cases h1 : op = 1
  · subst h1; simp [beq_dec, chanB]
  by_cases h2 : op = 2
  · subst h2; simp [beq_dec, chanB]
  by_cases h3 : op = 3
  · subst h3; simp [beq_dec, chanB]
  by_cases h4 : op = 4
  · subst h4; simp [beq_dec, chanB]
  by_cases h5 : op = 5
  · subst h5; simp [beq_dec, chanB]
  by_cases h8 : op = 8
  · subst h8; simp [beq_dec, chanB]
  by_cases h6 : op = 6
  · subst h6; simp [beq_dec, chanB]
  by_cases h14 : op = 14
  · subst h14; simp [beq_dec, chanB]
  by_cases h7 : op = 7
  · subst h7; simp [beq_dec, chanB, Bool.and_assoc]
  by_cases h9 : op = 9
  · subst h9; simp [beq_dec, chanB]
  by_cases h10 : op = 10
  · subst h10; simp [beq_dec, chanB]
  by_cases h11 : op = 11
  · subst h11; simp [beq_dec, chanB]
  by_cases h12 : op = 12
  · subst h12; simp [beq_dec, chanB, Bool.and_assoc]
  by_cases h13 : op = 13
  · subst h13; simp [beq_dec, chanB]
  by_cases h15 : op = 15
  · subst h15; simp [beq_dec, chanB]
  by_cases h16 : op = 16
  · subst h16; simp [beq_dec, chanB]
  simp [h1, h2, h3, h4, h5, h6, h7, h8, h9, h10, h11, h12, h13, h14, h15, h16]

theorem Evt.unsucc {α : Type} {g g' : Nat → Option α} {r : α} (h : ∀ k, g (k + 1) = g' k) (h' : Evt g r) : Evt g' r := by
  obtain ⟨K, hK⟩ := h'
  exact ⟨K, fun k hk => by rw [← h]; exact hK (k + 1) (by omega)⟩
def stk (l : List Nat) : List Int := l.reverse.map Int.ofNat
theorem stk_cons (t : Nat) (l : List Nat) : stk (t :: l) = stk l ++ [(t : Int)] := by simp [stk]
theorem stk_len (l : List Nat) : (stk l).length = l.length := by simp [stk]
theorem rd_last (t : Nat) (l : List Nat) : rd (stk (t :: l)) (l.length : Int) = t := by
  rw [stk_cons]
  simp [rd, stk_len, List.getD_eq_getElem?_getD]
theorem take_last (t : Nat) (l : List Nat) : (stk (t :: l)).take (Int.toNat (l.length : Int)) = stk l := by
  rw [stk_cons, List.take_append_of_le_length (by simp [stk_len])]
  simp [stk_len, List.take_of_length_le]

def SR (steps : List S100) : Nat → List Nat → Int × Int → Prop
  | _, [], r => r = (0, 0)
  | i, tp :: rest, r => ∃ b : Int × Int, Evt (fun k => spec_l1inside.l0 k tp rest.length i steps) b ∧ ((b.1 = 0 ∧ SR steps tp rest r) ∨ (b.1 ≠ 0 ∧ r = b))

def isBlk (s : S100) : Prop := s.f0 = 15 ∨ s.f0 = 16
def Gs (s : S100) : Prop := isBlk s → 0 ≤ s.f4

theorem block_f (a : Int) : spec_l1block.f a = some (decide (a = 15 ∨ a = 16)) := by
  unfold spec_l1block.f
  by_cases h : a = 15
  · simp [h]
  · simp [h, beq_dec]

theorem l5_step {bs : List S98} {steps : List S100} {nb : Int} {bi i : Nat} {s : List Int} (hi : i < steps.length) (k : Nat) :
    impl_PlanOk.l5 (k + 1) bi s bs nb bi steps steps.length i = impl_PlanOk.l6 k bi s i bs nb bi steps steps.length i steps[i].f0 steps[i].f1 steps[i].f2 steps[i].f3 steps[i].f4 := by
  have e : rd_T100 steps (i : Int) = steps[i] := getD_at hi
  simp only [impl_PlanOk.l5, e]
  rw [if_pos (by omega), if_pos (by omega), if_pos (by omega)]
theorem l5_end {bs : List S98} {steps : List S100} {nb : Int} {bi i : Nat} {s : List Int} (hi : i = steps.length) (k : Nat) :
    impl_PlanOk.l5 (k + 1) bi s bs nb bi steps steps.length i = impl_PlanOk.l4 k bs nb (wrap64 ((bi : Int) + 1)) := by
  simp only [impl_PlanOk.l5]
  rw [if_neg (by omega)]

theorem w_succ {i : Nat} (h : i ≤ 1000) : wrap64 ((i : Int) + 1) = ((i + 1 : Nat) : Int) := by
  rw [wrap_le (by omega) (by omega)]
  omega
theorem w_end {i sz : Nat} (h : i ≤ 1000) (h2 : sz ≤ 1000) : wrap64 (wrap64 ((i : Int) + 1) + (sz : Int)) = ((i + 1 + sz : Nat) : Int) := by
  rw [w_succ h, wrap_le (by omega) (by omega)]
  omega
theorem w_next {i sz : Nat} (h : i ≤ 1000) (h2 : sz ≤ 1000) : wrap64 (wrap64 ((i : Int) + (sz : Int)) + 1) = ((i + 1 + sz : Nat) : Int) := by
  rw [wrap_le (x := (i : Int) + sz) (by omega) (by omega), wrap_le (by omega) (by omega)]
  omega
theorem w_sub {i tp : Nat} (h : i ≤ 1000) (h2 : tp ≤ 1000) : wrap64 (wrap64 ((tp : Int) - (i : Int)) - 1) = (tp : Int) - i - 1 := by
  rw [wrap_le (x := (tp : Int) - i) (by omega) (by omega), wrap_le (by omega) (by omega)]
theorem len_cons (tp : Nat) (rest : List Nat) : ((stk (tp :: rest)).length : Int) = (rest.length : Int) + 1 := by
  rw [stk_len]
  simp
theorem w_len {rest : List Nat} (tp : Nat) (h : rest.length ≤ 1000) : wrap64 (((stk (tp :: rest)).length : Int) - 1) = (rest.length : Int) := by
  rw [len_cons, wrap_le (by omega) (by omega)]
  omega

section
variable {bs : List S98} {steps : List S100} {nb : Int} {bi i tp : Nat} {rest : List Nat} {a0 a1 a2 a3 a4 : Int}

/-- The innermost block ends here. -/
theorem l6_pop {t2 : Nat} (hd : rest.length ≤ 10) (hi : i ≤ 1000) (k : Nat) :
    impl_PlanOk.l6 (k + 1) bi (stk (i :: t2 :: rest)) i bs nb bi steps steps.length i a0 a1 a2 a3 a4 = impl_PlanOk.l6 k bi (stk (t2 :: rest)) i bs nb bi steps steps.length i a0 a1 a2 a3 a4 := by
  simp only [impl_PlanOk.l6]
  have hl := len_cons i (t2 :: rest)
  have hw := w_len (rest := t2 :: rest) i (by simp; omega)
  have hr := rd_last i (t2 :: rest)
  have ht := take_last i (t2 :: rest)
  rw [hw, hr, ht, hl]
  have e : (((t2 :: rest).length : Nat) : Int) = (rest.length : Int) + 1 := by simp
  rw [e, if_pos (by omega), if_pos (by omega), if_pos (by omega), if_pos (by omega), if_pos (by omega)]
theorem l6_j9 (hd : rest.length ≤ 10) (hlt : i < tp) (k : Nat) :
    impl_PlanOk.l6 (k + 1) bi (stk (tp :: rest)) i bs nb bi steps steps.length i a0 a1 a2 a3 a4 = impl_PlanOk.j9 k bi (stk (tp :: rest)) i bs nb bi steps steps.length i a0 a1 a2 a3 a4 := by
  simp only [impl_PlanOk.l6]
  rw [w_len tp (by omega), rd_last, len_cons]
  by_cases c4 : (rest.length : Int) + 1 > 1
  · rw [if_pos c4, if_pos (by omega), if_pos (by omega), if_neg (by omega)]
  · rw [if_neg c4]
theorem j9_yes (h : a0 = 15 ∨ a0 = 16) {s : List Int} (k : Nat) : impl_PlanOk.j9 (k + 1) bi s i bs nb bi steps steps.length i a0 a1 a2 a3 a4 = impl_PlanOk.j10 k bi s i bs nb bi steps steps.length i false a0 a1 a2 a3 a4 := by
  simp only [impl_PlanOk.j9]
  rcases h with h | h
  · rw [if_pos h]
  · rw [if_neg (by omega), h]
    rfl
theorem j9_no (h : ¬ (a0 = 15 ∨ a0 = 16)) {s : List Int} (k : Nat) : impl_PlanOk.j9 (k + 1) bi s i bs nb bi steps steps.length i a0 a1 a2 a3 a4 = impl_PlanOk.j10 k bi s i bs nb bi steps steps.length i true a0 a1 a2 a3 a4 := by
  simp only [impl_PlanOk.j9]
  rw [if_neg (by omega)]
  congr 1
  simp
  omega
theorem j10_true (hi : i ≤ 1000) {s : List Int} (k : Nat) : impl_PlanOk.j10 (k + 1) bi s i bs nb bi steps steps.length i true a0 a1 a2 a3 a4 = impl_PlanOk.l5 k bi s bs nb bi steps steps.length ((i + 1 : Nat) : Int) := by
  simp only [impl_PlanOk.j10]
  rw [if_pos trivial, w_succ hi]
theorem j10_false (hd : rest.length ≤ 10) (hi : i ≤ 1000) (ht : tp ≤ 1000) (k : Nat) :
    impl_PlanOk.j10 (k + 1) bi (stk (tp :: rest)) i bs nb bi steps steps.length i false a0 a1 a2 a3 a4 =
      if a4 > (tp : Int) - i - 1 then some (5, (bi : Int), (i : Int)) else if (rest.length : Int) ≥ 10 then some (6, (bi : Int), (i : Int)) else
        impl_PlanOk.l5 k bi (stk (tp :: rest) ++ [wrap64 (wrap64 ((i : Int) + 1) + a4)]) bs nb bi steps steps.length ((i + 1 : Nat) : Int) := by
  simp only [impl_PlanOk.j10]
  rw [if_neg (by simp), w_len tp (by omega), rd_last, len_cons, w_sub hi ht, w_succ hi, if_pos (by omega), if_pos (by omega)]
  rw [if_pos (c := (stk (tp :: rest)).length < 17592186044416) (by rw [stk_len]; simp; omega)]

theorem s_no (hin : i < steps.length) (hlt : i < tp) (hn : steps.length ≤ 200) (hb : ¬ isBlk steps[i]) (k : Nat) : spec_l1inside.l0 (k + 1) tp rest.length i steps = spec_l1inside.l0 k tp rest.length ((i + 1 : Nat) : Int) steps := by
  have e : rd_T100 steps (i : Int) = steps[i] := getD_at hin
  simp only [spec_l1inside.l0, e, block_f, Option.bind_some]
  rw [if_pos (by omega), if_pos (by omega), if_pos (by omega), if_neg (by simpa [isBlk] using hb), w_succ (by omega)]
theorem s_yes (hin : i < steps.length) (hlt : i < tp) (ht : tp ≤ 1000) (hb : isBlk steps[i]) (k : Nat) : spec_l1inside.l0 (k + 1) tp rest.length i steps =
    if steps[i].f4 > (tp : Int) - i - 1 then some (5, (i : Int)) else if (rest.length : Int) = 10 then some (6, (i : Int)) else
      (spec_l1inside.f k steps (wrap64 ((i : Int) + 1)) (wrap64 (wrap64 ((i : Int) + 1) + steps[i].f4)) (wrap64 ((rest.length : Int) + 1))).bind fun bt => if bt.1 = 0 then spec_l1inside.l0 k tp rest.length (wrap64 (wrap64 ((i : Int) + steps[i].f4) + 1)) steps else some (bt.1, bt.2) := by
  have e : rd_T100 steps (i : Int) = steps[i] := getD_at hin
  simp only [spec_l1inside.l0, e, block_f, Option.bind_some]
  rw [if_pos (by omega), if_pos (by omega), if_pos (by omega), if_pos (by simpa [isBlk] using hb), w_sub (by omega) ht]
theorem s_end (h : tp ≤ i) : Evt (fun k => spec_l1inside.l0 k tp rest.length i steps) (0, 0) := ⟨1, fun k hk => by
  obtain ⟨k, rfl⟩ : ∃ m, k = m + 1 := ⟨k - 1, by omega⟩
  simp only [spec_l1inside.l0]
  rw [if_neg (by omega)]⟩

/-- What impl does from a place on, in the words of the reference's outcome. -/
def Goes (bs : List S98) (steps : List S100) (nb : Int) (bi i : Nat) (l : List Nat) (r : Int × Int) : Prop :=
  ∀ R : Int × Int × Int, (r.1 = 0 → Evt (fun k => impl_PlanOk.l4 k bs nb (wrap64 ((bi : Int) + 1))) R) → (r.1 ≠ 0 → R = (r.1, (bi : Int), r.2)) → Evt (fun k => impl_PlanOk.l5 k bi (stk l) bs nb bi steps steps.length i) R

theorem n_end {t2 : Nat} (hd : rest.length ≤ 10) (hi : i ≤ steps.length) (hn : steps.length ≤ 200) {r : Int × Int} (h1 : SR steps i (t2 :: rest) r) (h2 : Goes bs steps nb bi i (t2 :: rest) r) :
    SR steps i (i :: t2 :: rest) r ∧ Goes bs steps nb bi i (i :: t2 :: rest) r := by
  refine ⟨⟨(0, 0), s_end (Nat.le_refl _), .inl ⟨rfl, h1⟩⟩, fun R h0 h3 => ?_⟩
  have h4 := h2 R h0 h3
  by_cases c2 : i < steps.length
  · exact Evt.succ (l5_step c2) (Evt.succ (l6_pop hd (by omega)) (Evt.unsucc (l5_step c2) h4))
  · have c3 : i = steps.length := by omega
    exact Evt.succ (l5_end c3) (Evt.unsucc (l5_end c3) h4)

theorem n_no (hd : rest.length ≤ 10) (hin : i < steps.length) (hlt : i < tp) (hn : steps.length ≤ 200) (hb : ¬ isBlk steps[i]) {r : Int × Int} (h1 : SR steps (i + 1) (tp :: rest) r) (h2 : Goes bs steps nb bi (i + 1) (tp :: rest) r) :
    SR steps i (tp :: rest) r ∧ Goes bs steps nb bi i (tp :: rest) r := by
  obtain ⟨b, h3, h4⟩ := h1
  refine ⟨⟨b, Evt.succ (s_no hin hlt hn hb) h3, h4⟩, fun R h0 h5 => ?_⟩
  exact Evt.succ (l5_step hin) (Evt.succ (l6_j9 hd hlt) (Evt.succ (j9_no hb) (Evt.succ (j10_true (by omega)) (h2 R h0 h5))))

theorem n_j10 (hd : rest.length ≤ 10) (hin : i < steps.length) (hlt : i < tp) (hb : isBlk steps[i]) {R : Int × Int × Int} (h : Evt (fun k => impl_PlanOk.j10 k bi (stk (tp :: rest)) i bs nb bi steps steps.length i false steps[i].f0 steps[i].f1 steps[i].f2 steps[i].f3 steps[i].f4) R) :
    Evt (fun k => impl_PlanOk.l5 k bi (stk (tp :: rest)) bs nb bi steps steps.length i) R :=
  Evt.succ (l5_step hin) (Evt.succ (l6_j9 hd hlt) (Evt.succ (j9_yes hb) h))

theorem n_five (hd : rest.length ≤ 10) (hin : i < steps.length) (hlt : i < tp) (hn : steps.length ≤ 200) (ht : tp ≤ steps.length) (hb : isBlk steps[i]) (c : steps[i].f4 > (tp : Int) - i - 1) :
    SR steps i (tp :: rest) (5, (i : Int)) ∧ Goes bs steps nb bi i (tp :: rest) (5, (i : Int)) := by
  refine ⟨⟨(5, (i : Int)), Evt.succ (g' := fun _ => some (5, (i : Int))) (fun k => ?_) (Evt.of fun _ => rfl), .inr ⟨by simp, rfl⟩⟩, fun R _ h => ?_⟩
  · rw [s_yes hin hlt (by omega) hb, if_pos c]
  · have hR := h (by simp)
    subst hR
    refine n_j10 hd hin hlt hb (Evt.succ (g' := fun _ => some (5, (bi : Int), (i : Int))) (fun k => ?_) (Evt.of fun _ => rfl))
    rw [j10_false hd (by omega) (by omega), if_pos c]

theorem n_six (hd : rest.length = 10) (hin : i < steps.length) (hlt : i < tp) (hn : steps.length ≤ 200) (ht : tp ≤ steps.length) (hb : isBlk steps[i]) (c : ¬ steps[i].f4 > (tp : Int) - i - 1) :
    SR steps i (tp :: rest) (6, (i : Int)) ∧ Goes bs steps nb bi i (tp :: rest) (6, (i : Int)) := by
  refine ⟨⟨(6, (i : Int)), Evt.succ (g' := fun _ => some (6, (i : Int))) (fun k => ?_) (Evt.of fun _ => rfl), .inr ⟨by simp, rfl⟩⟩, fun R _ h => ?_⟩
  · rw [s_yes hin hlt (by omega) hb, if_neg c, if_pos (by omega)]
  · have hR := h (by simp)
    subst hR
    refine n_j10 (by omega) hin hlt hb (Evt.succ (g' := fun _ => some (6, (bi : Int), (i : Int))) (fun k => ?_) (Evt.of fun _ => rfl))
    rw [j10_false (by omega) (by omega) (by omega), if_neg c, if_pos (by omega)]

theorem n_in {sz : Nat} (hd : rest.length < 10) (hin : i < steps.length) (hlt : i < tp) (hn : steps.length ≤ 200) (ht : tp ≤ steps.length) (hb : isBlk steps[i]) (hs : steps[i].f4 = (sz : Int)) (c : i + 1 + sz ≤ tp) {r : Int × Int}
    (h1 : SR steps (i + 1) ((i + 1 + sz) :: tp :: rest) r) (h2 : Goes bs steps nb bi (i + 1) ((i + 1 + sz) :: tp :: rest) r) : SR steps i (tp :: rest) r ∧ Goes bs steps nb bi i (tp :: rest) r := by
  obtain ⟨b1, h3, h4⟩ := h1
  have hsz : sz ≤ 1000 := by omega
  have hi : i ≤ 1000 := by omega
  have w3 : wrap64 ((rest.length : Int) + 1) = ((rest.length + 1 : Nat) : Int) := w_succ (by omega)
  have hg : ∀ k, spec_l1inside.l0 (k + 1) tp rest.length i steps = (spec_l1inside.f k steps ((i + 1 : Nat) : Int) ((i + 1 + sz : Nat) : Int) ((rest.length + 1 : Nat) : Int)).bind ((fun k bt => if bt.1 = 0 then spec_l1inside.l0 k tp rest.length ((i + 1 + sz : Nat) : Int) steps else some (bt.1, bt.2)) k) := by
    intro k
    rw [s_yes hin hlt (by omega) hb, hs, if_neg (by omega), if_neg (by omega), w_end hi hsz, w_next hi hsz, w_succ hi, w3]
  have hin2 : Evt (fun k => spec_l1inside.f k steps ((i + 1 : Nat) : Int) ((i + 1 + sz : Nat) : Int) ((rest.length + 1 : Nat) : Int)) b1 := Evt.succ (fun k => by simp only [spec_l1inside.f]; rfl) h3
  refine ⟨?_, fun R h0 h5 => n_j10 (by omega) hin hlt hb (Evt.succ (fun k => ?_) (h2 R h0 h5))⟩
  · rcases h4 with ⟨h4, b2, h5, h6⟩ | ⟨h4, h5⟩
    · refine ⟨b2, Evt.succ hg (Evt.bind hin2 ?_), h6⟩
      simp only [h4, if_true]
      exact h5
    · exact ⟨b1, Evt.succ hg (Evt.bind hin2 (Evt.of fun k => by rw [if_neg h4])), .inr ⟨h4, h5⟩⟩
  · rw [j10_false (by omega) hi (by omega), hs, if_neg (by omega), if_neg (by omega), w_end hi hsz, stk_cons (i + 1 + sz) (tp :: rest)]
end

theorem nest (bs : List S98) (steps : List S100) (nb : Int) (bi : Nat) (hn : steps.length ≤ 200) (hg : ∀ s ∈ steps, Gs s) : ∀ (m i tp : Nat) (rest : List Nat), (steps.length - i) * 16 + rest.length ≤ m → i ≤ tp → (∀ t ∈ tp :: rest, tp ≤ t ∧ t ≤ steps.length) →
    List.Pairwise (· ≤ ·) (tp :: rest) → (tp :: rest).getLast? = some steps.length → rest.length ≤ 10 →
    ∃ r : Int × Int, SR steps i (tp :: rest) r ∧ Goes bs steps nb bi i (tp :: rest) r := by
  intro m
  induction m with
  | zero =>
    intro i tp rest hm hit hle hp hl hd
    have h1 := (hle tp (by simp)).2
    have h2 : rest = [] := List.length_eq_zero_iff.1 (by omega)
    subst h2
    have h3 : tp = steps.length := by simpa using hl
    have h4 : i = steps.length := by omega
    exact ⟨(0, 0), ⟨(0, 0), s_end (by omega), .inl ⟨rfl, rfl⟩⟩, fun R h0 _ => Evt.succ (l5_end h4) (h0 rfl)⟩
  | succ m ih =>
    intro i tp rest hm hit hle hp hl hd
    have hto := (hle tp (by simp)).2
    by_cases c : i = tp
    · subst c
      cases rest with
      | nil =>
        have h3 : i = steps.length := by simpa using hl
        exact ⟨(0, 0), ⟨(0, 0), s_end (Nat.le_refl _), .inl ⟨rfl, rfl⟩⟩, fun R h0 _ => Evt.succ (l5_end h3) (h0 rfl)⟩
      | cons t2 rest =>
        have h5 : (steps.length - i) * 16 + rest.length ≤ m := by simp at hm; omega
        have h6 : rest.length ≤ 10 := by simp at hd; omega
        have h7 : ∀ t ∈ t2 :: rest, t2 ≤ t ∧ t ≤ steps.length := fun t ht => ⟨by
            rcases List.mem_cons.1 ht with rfl | ht2
            · exact Nat.le_refl _
            · exact List.rel_of_pairwise_cons (List.Pairwise.of_cons hp) ht2, (hle t (List.mem_cons_of_mem _ ht)).2⟩
        obtain ⟨r, h1, h2⟩ := ih i t2 rest h5 (hle t2 (by simp)).1 h7 (List.Pairwise.of_cons hp) (by simpa using hl) h6
        exact ⟨r, n_end h6 hto hn h1 h2⟩
    · have hlt : i < tp := by omega
      have hin : i < steps.length := by omega
      by_cases hb : isBlk steps[i]
      · have hsz : 0 ≤ steps[i].f4 := hg _ (List.getElem_mem hin) hb
        by_cases c5 : steps[i].f4 > (tp : Int) - i - 1
        · exact ⟨_, n_five hd hin hlt hn hto hb c5⟩
        · by_cases c6 : rest.length = 10
          · exact ⟨_, n_six c6 hin hlt hn hto hb c5⟩
          · obtain ⟨sz, hs⟩ : ∃ sz : Nat, steps[i].f4 = (sz : Int) := ⟨steps[i].f4.toNat, by omega⟩
            have c7 : i + 1 + sz ≤ tp := by omega
            have h5 : (steps.length - (i + 1)) * 16 + (tp :: rest).length ≤ m := by simp; omega
            have h7 : ∀ t ∈ (i + 1 + sz) :: tp :: rest, i + 1 + sz ≤ t ∧ t ≤ steps.length := fun t ht => by
              rcases List.mem_cons.1 ht with rfl | ht
              · exact ⟨Nat.le_refl _, by omega⟩
              · have h8 := hle t ht
                exact ⟨by omega, h8.2⟩
            have h9 : List.Pairwise (· ≤ ·) ((i + 1 + sz) :: tp :: rest) := List.pairwise_cons.2 ⟨fun t ht => Nat.le_trans c7 (hle t ht).1, hp⟩
            obtain ⟨r, h1, h2⟩ := ih (i + 1) (i + 1 + sz) (tp :: rest) h5 (by omega) h7 h9 (by rw [List.getLast?_cons_cons]; exact hl) (by simp; omega)
            exact ⟨r, n_in (by omega) hin hlt hn hto hb hs c7 h1 h2⟩
      · obtain ⟨r, h1, h2⟩ := ih (i + 1) tp rest (by omega) (by omega) hle hp hl hd
        exact ⟨r, n_no hd hin hlt hn hb h1 h2⟩
end Go.Proofs.Ytejjedooecephaa.PFnExactPlanOk
end
