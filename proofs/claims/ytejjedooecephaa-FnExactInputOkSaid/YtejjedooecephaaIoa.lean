/-
  The law FnExactInputOk in plain Lean: what the printed functions answer.
-/
import Derived.Test.YtejjedooecephaaPFnExactInputOkx
namespace Go.Proofs.Ytejjedooecephaa.PFnExactInputOk
open Go.RowKit Go.Proofs.YtejjedooecephaaW.PrintWords Go.Proofs.YtejjedooecephaaW.PrintLast Go.Proofs.YtejjedooecephaaW.PrintMore
set_option linter.unusedVariables false
set_option linter.unusedSimpArgs false

theorem wrap_le {x : Int} (h0 : -9223372036854775808 ≤ x) (h : x ≤ 9223372036854775807) : wrap64 x = x := by unfold wrap64; omega
theorem getD_at {α : Type} {xs : List α} {i : Nat} {z : α} (h : i < xs.length) : xs.getD (Int.toNat (i : Int)) z = xs[i] := by simp [List.getD_eq_getElem?_getD, h]
theorem set_take {α β : Type} {f : α → β} {xs : List α} {ys : List β} {i : Nat} (h : i < xs.length) (hy : i < ys.length) : (ys.set i (f xs[i])).take (i + 1) ++ (xs.drop (i + 1)).map f = ys.take i ++ (xs.drop i).map f := by
  have h1 : (ys.set i (f xs[i])).take (i + 1) = ys.take i ++ [f xs[i]] := by
    rw [List.take_add_one, List.take_set_of_le (Nat.le_refl i)]
    simp [hy]
  rw [h1, List.append_assoc, List.drop_eq_getElem_cons h]
  rfl

def cStep (s : S194) : S100 := ⟨s.f0, s.f1, s.f2, s.f3, s.f4⟩
def cBody (b : S146) : S98 := ⟨b.f0.map cStep⟩
def cEvent (e : S149) : S74 := ⟨e.f0, e.f1, e.f2⟩

theorem toStepS_l0 (x0 : List S194) (hb : x0.length ≤ 1048576) : ∀ (d k i : Nat) (x3 : List S100), x3.length = x0.length → i + d = x0.length → d < k → laws_toStepS.l0 k x0 x3 i = some (x3.take i ++ (x0.drop i).map cStep)
  | 0, k, i, x3, hl, hi, hk => by
    obtain ⟨k, rfl⟩ : ∃ m, k = m + 1 := ⟨k - 1, by omega⟩
    simp only [laws_toStepS.l0]
    rw [if_neg (by omega), List.take_of_length_le (by omega), List.drop_of_length_le (by omega)]
    simp
  | d + 1, k, i, x3, hl, hi, hk => by
    obtain ⟨k, rfl⟩ : ∃ m, k = m + 1 := ⟨k - 1, by omega⟩
    have hlt : i < x0.length := by omega
    simp only [laws_toStepS.l0, laws_toStep.f, Option.bind_some]
    rw [if_pos (by omega), if_pos (by omega), if_pos (by omega), wrap_le (by omega) (by omega), show ((i : Int) + 1) = ((i + 1 : Nat) : Int) from rfl]
    rw [toStepS_l0 x0 hb d k (i + 1) _ (by simp [hl]) (by omega) (by omega)]
    congr 1
    have e : rd_T194 x0 (i : Int) = x0[i] := getD_at hlt
    rw [e]
    exact set_take (f := cStep) hlt (by omega)
theorem toStepS_f {xs : List S194} {k : Nat} (hb : xs.length ≤ 1048576) (hk : 1048576 < k) : laws_toStepS.f k xs = some (xs.map cStep) := by
  unfold laws_toStepS.f
  rw [if_pos (by omega), if_pos (by omega)]
  have := toStepS_l0 xs hb xs.length k 0 (List.replicate ((xs.length : Int)).toNat z100) (by simp) (by omega) (by omega)
  rw [show ((0 : Nat) : Int) = 0 from rfl] at this
  rw [this]
  simp

theorem toBodyS_l0 (x0 : List S146) (hb : x0.length ≤ 1048576) (hs : ∀ b ∈ x0, b.f0.length ≤ 1048576) : ∀ (d k i : Nat) (x3 : List S98), x3.length = x0.length → i + d = x0.length → d + 1048577 < k → laws_toBodyS.l0 k x0 x3 i = some (x3.take i ++ (x0.drop i).map cBody)
  | 0, k, i, x3, hl, hi, hk => by
    obtain ⟨k, rfl⟩ : ∃ m, k = m + 1 := ⟨k - 1, by omega⟩
    simp only [laws_toBodyS.l0]
    rw [if_neg (by omega), List.take_of_length_le (by omega), List.drop_of_length_le (by omega)]
    simp
  | d + 1, k, i, x3, hl, hi, hk => by
    obtain ⟨k, rfl⟩ : ∃ m, k = m + 1 := ⟨k - 1, by omega⟩
    have hlt : i < x0.length := by omega
    have e : rd_T146 x0 (i : Int) = x0[i] := getD_at hlt
    simp only [laws_toBodyS.l0, laws_toBody.f]
    rw [if_pos (by omega), if_pos (by omega), e, toStepS_f (hs _ (List.getElem_mem hlt)) (by omega)]
    simp only [Option.bind_some]
    rw [if_pos (by omega), wrap_le (by omega) (by omega), show ((i : Int) + 1) = ((i + 1 : Nat) : Int) from rfl]
    rw [toBodyS_l0 x0 hb hs d k (i + 1) _ (by simp [hl]) (by omega) (by omega)]
    congr 1
    exact set_take (f := cBody) hlt (by omega)
theorem toBodyS_f {xs : List S146} {k : Nat} (hb : xs.length ≤ 1048576) (hs : ∀ b ∈ xs, b.f0.length ≤ 1048576) (hk : 3000000 < k) : laws_toBodyS.f k xs = some (xs.map cBody) := by
  unfold laws_toBodyS.f
  rw [if_pos (by omega), if_pos (by omega)]
  have := toBodyS_l0 xs hb hs xs.length k 0 (List.replicate ((xs.length : Int)).toNat z98) (by simp) (by omega) (by omega)
  rw [show ((0 : Nat) : Int) = 0 from rfl] at this
  rw [this]
  simp

theorem toIntS_l0 (x0 : List Int) (hb : x0.length ≤ 1048576) : ∀ (d k i : Nat) (x3 : List Int), x3.length = x0.length → i + d = x0.length → d < k → laws_toIntS.l0 k x0 x3 i = some (x3.take i ++ (x0.drop i).map id)
  | 0, k, i, x3, hl, hi, hk => by
    obtain ⟨k, rfl⟩ : ∃ m, k = m + 1 := ⟨k - 1, by omega⟩
    simp only [laws_toIntS.l0]
    rw [if_neg (by omega), List.take_of_length_le (by omega), List.drop_of_length_le (by omega)]
    simp
  | d + 1, k, i, x3, hl, hi, hk => by
    obtain ⟨k, rfl⟩ : ∃ m, k = m + 1 := ⟨k - 1, by omega⟩
    have hlt : i < x0.length := by omega
    have e : rd x0 (i : Int) = x0[i] := getD_at hlt
    simp only [laws_toIntS.l0]
    rw [if_pos (by omega), if_pos (by omega), if_pos (by omega), wrap_le (by omega) (by omega), show ((i : Int) + 1) = ((i + 1 : Nat) : Int) from rfl]
    rw [toIntS_l0 x0 hb d k (i + 1) _ (by simp [hl]) (by omega) (by omega)]
    congr 1
    rw [e]
    exact set_take (f := id) hlt (by omega)
theorem toIntS_f {xs : List Int} {k : Nat} (hb : xs.length ≤ 1048576) (hk : 1048576 < k) : laws_toIntS.f k xs = some xs := by
  unfold laws_toIntS.f
  rw [if_pos (by omega), if_pos (by omega)]
  have := toIntS_l0 xs hb xs.length k 0 (List.replicate ((xs.length : Int)).toNat 0) (by simp) (by omega) (by omega)
  rw [show ((0 : Nat) : Int) = 0 from rfl] at this
  rw [this]
  simp

theorem toPlan_f {bs : List S146} {rs : List Int} {sl : Int} {k : Nat} (hb : bs.length ≤ 1048576) (hs : ∀ b ∈ bs, b.f0.length ≤ 1048576) (hr : rs.length ≤ 1048576) (hk : 3000000 < k) : laws_toPlan.f k bs rs sl = some (bs.map cBody, rs, sl) := by
  unfold laws_toPlan.f
  rw [toBodyS_f hb hs hk]
  simp only [Option.bind_some]
  rw [toIntS_f hr (by omega)]
  rfl

theorem eqIntS_l0 (x0 : List Int) (hb : x0.length ≤ 1048576) : ∀ (d k i : Nat), i + d = x0.length → d < k → laws_eqIntS.l0 k x0 x0 i = some true
  | 0, k, i, hi, hk => by
    obtain ⟨k, rfl⟩ : ∃ m, k = m + 1 := ⟨k - 1, by omega⟩
    simp only [laws_eqIntS.l0]
    rw [if_neg (by omega)]
  | d + 1, k, i, hi, hk => by
    obtain ⟨k, rfl⟩ : ∃ m, k = m + 1 := ⟨k - 1, by omega⟩
    simp only [laws_eqIntS.l0]
    rw [if_pos (by omega), if_pos (by omega), if_pos (by omega), if_pos trivial, wrap_le (by omega) (by omega)]
    exact eqIntS_l0 x0 hb d k (i + 1) (by omega) (by omega)
theorem eqIntS_f {xs : List Int} {k : Nat} (hb : xs.length ≤ 1048576) (hk : 1048576 < k) : laws_eqIntS.f k xs xs = some true := by
  unfold laws_eqIntS.f
  rw [if_pos rfl]
  exact eqIntS_l0 xs hb xs.length k 0 (by omega) (by omega)

theorem eqStepS_l0 (x0 : List S100) (hb : x0.length ≤ 1048576) : ∀ (d k i : Nat), i + d = x0.length → d < k → laws_eqStepS.l0 k x0 x0 i = some true
  | 0, k, i, hi, hk => by
    obtain ⟨k, rfl⟩ : ∃ m, k = m + 1 := ⟨k - 1, by omega⟩
    simp only [laws_eqStepS.l0]
    rw [if_neg (by omega)]
  | d + 1, k, i, hi, hk => by
    obtain ⟨k, rfl⟩ : ∃ m, k = m + 1 := ⟨k - 1, by omega⟩
    simp only [laws_eqStepS.l0, laws_eqStep.f, if_true, Option.bind_some]
    rw [if_pos (by omega), if_pos (by omega), if_pos (by omega), wrap_le (by omega) (by omega)]
    exact eqStepS_l0 x0 hb d k (i + 1) (by omega) (by omega)
theorem eqStepS_f {xs : List S100} {k : Nat} (hb : xs.length ≤ 1048576) (hk : 1048576 < k) : laws_eqStepS.f k xs xs = some true := by
  unfold laws_eqStepS.f
  rw [if_pos rfl]
  exact eqStepS_l0 xs hb xs.length k 0 (by omega) (by omega)

theorem eqBodyS_l0 (x0 : List S98) (hb : x0.length ≤ 1048576) (hs : ∀ b ∈ x0, b.f0.length ≤ 1048576) : ∀ (d k i : Nat), i + d = x0.length → d + 1048577 < k → laws_eqBodyS.l0 k x0 x0 i = some true
  | 0, k, i, hi, hk => by
    obtain ⟨k, rfl⟩ : ∃ m, k = m + 1 := ⟨k - 1, by omega⟩
    simp only [laws_eqBodyS.l0]
    rw [if_neg (by omega)]
  | d + 1, k, i, hi, hk => by
    obtain ⟨k, rfl⟩ : ∃ m, k = m + 1 := ⟨k - 1, by omega⟩
    have hlt : i < x0.length := by omega
    have e : rd_T98 x0 (i : Int) = x0[i] := getD_at hlt
    simp only [laws_eqBodyS.l0, laws_eqBody.f]
    rw [if_pos (by omega), if_pos (by omega), if_pos (by omega), e, eqStepS_f (hs _ (List.getElem_mem hlt)) (by omega)]
    simp only [Option.bind_some, if_true]
    rw [wrap_le (by omega) (by omega)]
    exact eqBodyS_l0 x0 hb hs d k (i + 1) (by omega) (by omega)
theorem eqPlan_f {bs : List S98} {rs : List Int} {sl : Int} {k : Nat} (hb : bs.length ≤ 1048576) (hs : ∀ b ∈ bs, b.f0.length ≤ 1048576) (hr : rs.length ≤ 1048576) (hk : 3000000 < k) : laws_eqPlan.f k bs rs sl bs rs sl = some true := by
  unfold laws_eqPlan.f laws_eqBodyS.f
  rw [if_pos rfl, show (0 : Int) = ((0 : Nat) : Int) from rfl, eqBodyS_l0 bs hb hs bs.length k 0 (by omega) (by omega)]
  simp only [Option.bind_some, if_true]
  rw [eqIntS_f hr (by omega)]
  rfl

/-! ### The bulk -/
theorem szStepS_f {xs : List S194} {a : Int} (h0 : 0 ≤ a) (ha : a ≤ 1048576) (hm : xs.length ≤ 9223372036854775807) : laws_szStepS.f xs a = some (if a < xs.length then -1 else a - xs.length) := by
  unfold laws_szStepS.f
  rw [wrap_le (by omega) (by omega)]
  split <;> split <;> first | rfl | omega
theorem szBodyS_l0 (x0 : List S146) (hb : x0.length ≤ 1048576) (hm : ∀ b ∈ x0, b.f0.length ≤ 9223372036854775807) : ∀ (d k i : Nat) (a : Int), 0 ≤ a → a ≤ 1048576 → i + d = x0.length → d < k →
    ∃ r, laws_szBodyS.l0 k x0 a i = some r ∧ -1 ≤ r ∧ r ≤ a ∧ (0 ≤ r → ∀ b ∈ x0.drop i, b.f0.length ≤ 1048576)
  | 0, k, i, a, h0, ha, hi, hk => by
    obtain ⟨k, rfl⟩ : ∃ m, k = m + 1 := ⟨k - 1, by omega⟩
    simp only [laws_szBodyS.l0]
    rw [if_neg (by omega), List.drop_of_length_le (by omega)]
    exact ⟨a, rfl, by omega, by omega, fun _ b hb2 => by cases hb2⟩
  | d + 1, k, i, a, h0, ha, hi, hk => by
    obtain ⟨k, rfl⟩ : ∃ m, k = m + 1 := ⟨k - 1, by omega⟩
    have hlt : i < x0.length := by omega
    have e : rd_T146 x0 (i : Int) = x0[i] := getD_at hlt
    have hmem := hm _ (List.getElem_mem hlt)
    simp only [laws_szBodyS.l0, laws_szBody.f]
    rw [if_pos (by omega), if_pos (by omega), e, szStepS_f h0 ha hmem]
    simp only [Option.bind_some]
    by_cases hs : a < x0[i].f0.length
    · rw [if_pos hs]
      exact ⟨-1, rfl, by omega, by omega, fun h => by omega⟩
    · rw [if_neg hs, if_neg (by omega)]
      simp only [Option.bind_some]
      rw [if_neg (by omega), wrap_le (by omega) (by omega)]
      obtain ⟨r, h1, h2, h3, h4⟩ := szBodyS_l0 x0 hb hm d k (i + 1) (a - x0[i].f0.length) (by omega) (by omega) (by omega) (by omega)
      refine ⟨r, h1, h2, by omega, fun hr b hb2 => ?_⟩
      rw [List.drop_eq_getElem_cons hlt] at hb2
      rcases List.mem_cons.1 hb2 with rfl | hb2
      · omega
      · exact h4 hr b hb2
theorem szPlan_f {bs : List S146} {rs : List Int} {sl a : Int} {k : Nat} (h0 : 0 ≤ a) (ha : a ≤ 1048576) (hb : bs.length ≤ 9223372036854775807) (hs : ∀ b ∈ bs, b.f0.length ≤ 9223372036854775807) (hr : rs.length ≤ 9223372036854775807) (hk : 3000000 < k) :
    ∃ r, laws_szPlan.f k bs rs sl a = some r ∧ -1 ≤ r ∧ r ≤ a ∧ (0 ≤ r → bs.length ≤ 1048576 ∧ (∀ b ∈ bs, b.f0.length ≤ 1048576) ∧ rs.length ≤ 1048576) := by
  unfold laws_szPlan.f laws_szBodyS.f
  rw [wrap_le (by omega) (by omega)]
  by_cases h1 : a - (bs.length : Int) < 0
  · rw [if_pos h1]
    exact ⟨-1, rfl, by omega, by omega, fun h => by omega⟩
  · rw [if_neg h1]
    obtain ⟨r, h2, h3, h4, h5⟩ := szBodyS_l0 bs (by omega) hs bs.length k 0 (a - bs.length) (by omega) (by omega) (by omega) (by omega)
    rw [show ((0 : Nat) : Int) = 0 from rfl] at h2
    rw [h2]
    simp only [Option.bind_some]
    by_cases h6 : r < 0
    · rw [if_pos h6]
      exact ⟨-1, rfl, by omega, by omega, fun h => by omega⟩
    · rw [if_neg h6]
      unfold laws_szIntS.f
      rw [wrap_le (by omega) (by omega)]
      by_cases h7 : r - (rs.length : Int) < 0
      · rw [if_pos h7]
        exact ⟨-1, rfl, by omega, by omega, fun h => by omega⟩
      · rw [if_neg h7]
        simp only [Option.bind_some]
        rw [if_neg h7]
        exact ⟨_, rfl, by omega, by omega, fun _ => ⟨by omega, fun b hb2 => h5 (by omega) b (by simpa using hb2), by omega⟩⟩
end Go.Proofs.Ytejjedooecephaa.PFnExactInputOk
