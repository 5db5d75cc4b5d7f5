/-
  PROVED: FnExactInputOk: the program's InputOk answers as the reference's, at every argument.
  Conditions: none but the row's own.
-/
import Derived.Test.YtejjedooecephaaRows
import Derived.Test.YtejjedooecephaaIoa
import Derived.Test.YtejjedooecephaaOpen
import Derived.WalkKit
import Derived.ProofKit
import Derived.OpenShut
import Derived.ChangeOld
import Derived.Below
import Derived.Carry
namespace Go.Proofs.Ytejjedooecephaa.PFnExactInputOk
open Go.RowKit Go.Proofs.YtejjedooecephaaW.PrintWords Go.Proofs.YtejjedooecephaaW.PrintLast Go.Proofs.YtejjedooecephaaW.PrintMore
set_option linter.unusedVariables false
set_option linter.unusedSimpArgs false

theorem toEventS_l0 (x0 : List S149) (hb : x0.length ≤ 1048576) : ∀ (d k i : Nat) (x3 : List S74), x3.length = x0.length → i + d = x0.length → d < k → laws_toEventS.l0 k x0 x3 i = some (x3.take i ++ (x0.drop i).map cEvent)
  | 0, k, i, x3, hl, hi, hk => by
    obtain ⟨k, rfl⟩ : ∃ m, k = m + 1 := ⟨k - 1, by omega⟩
    simp only [laws_toEventS.l0]
    rw [if_neg (by omega), List.take_of_length_le (by omega), List.drop_of_length_le (by omega)]
    simp
  | d + 1, k, i, x3, hl, hi, hk => by
    obtain ⟨k, rfl⟩ : ∃ m, k = m + 1 := ⟨k - 1, by omega⟩
    have hlt : i < x0.length := by omega
    simp only [laws_toEventS.l0, laws_toEvent.f, Option.bind_some]
    rw [if_pos (by omega), if_pos (by omega), if_pos (by omega), wrap_le (by omega) (by omega), show ((i : Int) + 1) = ((i + 1 : Nat) : Int) from rfl]
    rw [toEventS_l0 x0 hb d k (i + 1) _ (by simp [hl]) (by omega) (by omega)]
    congr 1
    have e : rd_T149 x0 (i : Int) = x0[i] := getD_at hlt
    rw [e]
    exact set_take (f := cEvent) hlt (by omega)
theorem toInput_f {es : List S149} {t u : Int} {k : Nat} (hb : es.length ≤ 1048576) (hk : 1048576 < k) : laws_toInput.f k es t u = some (es.map cEvent, t, u) := by
  unfold laws_toInput.f laws_toEventS.f
  rw [if_pos (by omega), if_pos (by omega)]
  have := toEventS_l0 es hb es.length k 0 (List.replicate ((es.length : Int)).toNat z74) (by simp) (by omega) (by omega)
  rw [show ((0 : Nat) : Int) = 0 from rfl] at this
  rw [this]
  simp
theorem eqEventS_l0 (x0 : List S74) (hb : x0.length ≤ 1048576) : ∀ (d k i : Nat), i + d = x0.length → d < k → laws_eqEventS.l0 k x0 x0 i = some true
  | 0, k, i, hi, hk => by
    obtain ⟨k, rfl⟩ : ∃ m, k = m + 1 := ⟨k - 1, by omega⟩
    simp only [laws_eqEventS.l0]
    rw [if_neg (by omega)]
  | d + 1, k, i, hi, hk => by
    obtain ⟨k, rfl⟩ : ∃ m, k = m + 1 := ⟨k - 1, by omega⟩
    simp only [laws_eqEventS.l0, laws_eqEvent.f, if_true, Option.bind_some]
    rw [if_pos (by omega), if_pos (by omega), if_pos (by omega), wrap_le (by omega) (by omega)]
    exact eqEventS_l0 x0 hb d k (i + 1) (by omega) (by omega)
theorem eqInput_f {es : List S74} {t u : Int} {k : Nat} (hb : es.length ≤ 1048576) (hk : 1048576 < k) : laws_eqInput.f k es t u es t u = some true := by
  unfold laws_eqInput.f laws_eqEventS.f
  rw [if_pos rfl, show (0 : Int) = ((0 : Nat) : Int) from rfl, eqEventS_l0 es hb es.length k 0 (by omega) (by omega)]
  simp
theorem szInput_f {es : List S149} {t u a : Int} (h0 : 0 ≤ a) (ha : a ≤ 1048576) (hm : es.length ≤ 9223372036854775807) : ∃ r, laws_szInput.f es t u a = some r ∧ (0 ≤ r → es.length ≤ 1048576) := by
  unfold laws_szInput.f laws_szEventS.f
  rw [wrap_le (by omega) (by omega)]
  by_cases h1 : a - (es.length : Int) < 0
  · rw [if_pos h1]
    exact ⟨-1, rfl, fun h => by omega⟩
  · rw [if_neg h1]
    simp only [Option.bind_some]
    rw [if_neg h1]
    exact ⟨_, rfl, fun _ => by omega⟩

theorem l1in_f (x a b : Int) : spec_l1in.f x a b = some (decide (a ≤ x ∧ x ≤ b)) := by
  unfold spec_l1in.f
  split
  · simp_all
  · simp_all
    omega

theorem loops (es : List S74) (bs bs' : List S98) (rs rs' : List Int) (sl sl' : Int) (hr : rs'.length = rs.length) (hb : es.length ≤ 1048576) (hrl : rs.length ≤ 1048576) : ∀ (d i : Nat) (last : Int), i + d = es.length →
    ∃ b, ∀ k, d < k → spec_InputOk.l0 k last es es.length i bs rs sl = some b ∧ impl_InputOk.l0 k last es es.length i bs' rs' sl' = some b
  | 0, i, last, hi => ⟨true, fun k hk => by
    obtain ⟨k, rfl⟩ : ∃ m, k = m + 1 := ⟨k - 1, by omega⟩
    simp only [spec_InputOk.l0, impl_InputOk.l0]
    rw [if_neg (by omega), if_neg (by omega)]
    exact ⟨rfl, rfl⟩⟩
  | d + 1, i, last, hi => by
    have hlt : i < es.length := by omega
    have e : rd_T74 es (i : Int) = es[i] := getD_at hlt
    obtain ⟨b, hb2⟩ := loops es bs bs' rs rs' sl sl' hr hb hrl d (i + 1) es[i].f0 (by omega)
    by_cases h1 : es[i].f0 < last ∨ es[i].f0 > 1000000 ∨ es[i].f1 < 0 ∨ es[i].f1 ≥ rs.length
    · refine ⟨false, fun k hk => ?_⟩
      obtain ⟨k, rfl⟩ : ∃ m, k = m + 1 := ⟨k - 1, by omega⟩
      simp only [spec_InputOk.l0, impl_InputOk.l0, e, l1in_f, Option.bind_some]
      refine ⟨?_, ?_⟩
      · rw [if_pos (by omega), if_pos (by omega), if_pos (by omega), wrap_le (x := (rs.length : Int) - 1) (by omega) (by omega)]
        by_cases h2 : es[i].f0 < last
        · rw [if_pos h2]
        · rw [if_neg h2]
          by_cases h3 : es[i].f0 > 1000000
          · rw [if_pos h3]
          · rw [if_neg h3, if_neg (by simp; omega)]
      · rw [if_pos (by omega), if_pos (by omega), if_pos (by omega), hr]
        by_cases h2 : es[i].f0 < last
        · rw [if_pos h2]
        · rw [if_neg h2]
          by_cases h3 : es[i].f0 > 1000000
          · rw [if_pos h3]
          · rw [if_neg h3]
            by_cases h4 : es[i].f1 < 0
            · rw [if_pos h4]
            · rw [if_neg h4, if_pos (by omega)]
    · refine ⟨b, fun k hk => ?_⟩
      obtain ⟨k, rfl⟩ : ∃ m, k = m + 1 := ⟨k - 1, by omega⟩
      obtain ⟨h5, h6⟩ := hb2 k (by omega)
      simp only [spec_InputOk.l0, impl_InputOk.l0, e, l1in_f, Option.bind_some]
      refine ⟨?_, ?_⟩
      · rw [if_pos (by omega), if_pos (by omega), if_pos (by omega), wrap_le (x := (rs.length : Int) - 1) (by omega) (by omega), if_neg (by omega), if_neg (by omega), if_pos (by simp; omega), wrap_le (x := (i : Int) + 1) (by omega) (by omega)]
        exact h5
      · rw [if_pos (by omega), if_pos (by omega), if_pos (by omega), hr, if_neg (by omega), if_neg (by omega), if_neg (by omega), if_neg (by omega), wrap_le (x := (i : Int) + 1) (by omega) (by omega)]
        exact h6

theorem inputOk (es : List S74) (bs bs' : List S98) (rs rs' : List Int) (sl sl' t u : Int) (hr : rs'.length = rs.length) (hb : es.length ≤ 1048576) (hrl : rs.length ≤ 1048576) :
    ∃ b, ∀ k, 3000000 < k → spec_InputOk.f k bs rs sl es t u = some b ∧ impl_InputOk.f k bs' rs' sl' es t u = some b := by
  obtain ⟨b, hb2⟩ := loops es bs bs' rs rs' sl sl' hr hb hrl es.length 0 0 (by omega)
  by_cases h1 : (es.length : Int) > 100 ∨ t < 0 ∨ t > 5000 ∨ u < 0 ∨ u > 1000000
  · refine ⟨false, fun k hk => ?_⟩
    obtain ⟨k, rfl⟩ : ∃ m, k = m + 1 := ⟨k - 1, by omega⟩
    unfold spec_InputOk.f impl_InputOk.f
    simp only [spec_InputOk.j0, impl_InputOk.j0, l1in_f, Option.bind_some, if_true]
    by_cases h2 : (es.length : Int) > 100
    · rw [if_pos h2, if_pos h2]
      exact ⟨rfl, rfl⟩
    · rw [if_neg h2, if_neg h2]
      by_cases h3 : t < 0
      · rw [if_neg (by simp; omega), if_pos h3]
        exact ⟨rfl, rfl⟩
      · by_cases h4 : t > 5000
        · rw [if_neg (by simp; omega), if_neg h3, if_pos h4]
          exact ⟨rfl, rfl⟩
        · rw [if_pos (by simp; omega), if_neg h3, if_neg h4]
          by_cases h5 : u < 0
          · rw [if_pos h5, if_pos h5]
            exact ⟨rfl, rfl⟩
          · rw [if_neg h5, if_neg h5, if_pos (by simp; omega), if_pos (by simp; omega)]
            exact ⟨rfl, rfl⟩
  · refine ⟨b, fun k hk => ?_⟩
    obtain ⟨k, rfl⟩ : ∃ m, k = m + 1 := ⟨k - 1, by omega⟩
    unfold spec_InputOk.f impl_InputOk.f
    simp only [spec_InputOk.j0, impl_InputOk.j0, l1in_f, Option.bind_some, if_true]
    obtain ⟨h5, h6⟩ := hb2 k (by omega)
    refine ⟨?_, ?_⟩
    · rw [if_neg (by omega), if_pos (by simp; omega), if_neg (by omega), if_neg (by simp; omega)]
      exact h5
    · rw [if_neg (by omega), if_neg (by omega), if_neg (by omega), if_neg (by omega), if_neg (by simp; omega)]
      exact h6

theorem pure_ok (bs : List S146) (rs : List Int) (sl : Int) (es : List S149) (t u : Int) (h1 : bs.length ≤ 9223372036854775807) (h2 : ∀ b ∈ bs, b.f0.length ≤ 9223372036854775807) (h3 : rs.length ≤ 9223372036854775807) (h4 : es.length ≤ 9223372036854775807) :
    laws_FnExactInputOk.f 3000001 bs rs sl es t u = some true := by
  unfold laws_FnExactInputOk.f
  obtain ⟨r, a1, a2, a3, a4⟩ := szPlan_f (bs := bs) (rs := rs) (sl := sl) (a := 1048576) (k := 3000001) (by omega) (by omega) h1 h2 h3 (by omega)
  rw [a1]
  simp only [Option.bind_some]
  by_cases c : r < 0
  · rw [if_pos c]
  · rw [if_neg c]
    obtain ⟨b1, b2, b3⟩ := a4 (by omega)
    obtain ⟨r2, d1, d2⟩ := szInput_f (es := es) (t := t) (u := u) (a := r) (by omega) (by omega) h4
    rw [d1]
    simp only [Option.bind_some]
    by_cases c2 : r2 < 0
    · rw [if_pos c2]
    · rw [if_neg c2]
      have e1 := d2 (by omega)
      have hbs : ∀ b ∈ bs.map cBody, b.f0.length ≤ 1048576 := by
        intro b hb
        obtain ⟨x, hx, rfl⟩ := List.mem_map.1 hb
        simpa [cBody] using b2 x hx
      obtain ⟨b, hk⟩ := inputOk (es.map cEvent) (bs.map cBody) (bs.map cBody) rs rs sl sl t u rfl (by simpa using e1) b3
      obtain ⟨k1, k2⟩ := hk 3000001 (by omega)
      simp only [toPlan_f b1 b2 b3 (show 3000000 < 3000001 by omega), toInput_f e1 (show 1048576 < 3000001 by omega), Option.bind_some, k1, k2, bne_self_eq_false]
      rw [if_neg (by simp), eqPlan_f (by simpa using b1) hbs b3 (by omega)]
      simp only [Option.bind_some, if_true]
      rw [eqInput_f (by simpa using e1) (by omega)]
      rfl

end Go.Proofs.Ytejjedooecephaa.PFnExactInputOk

/-! ### The row -/
namespace Go.Proofs.Ytejjedooecephaa.fnExactInputOk
open Go.ChangeShapes Go.WideShapes Go.ChangeAt Go.RowKit Go.Beat PFnExactInputOk
open Go.Proofs.YtejjedooecephaaW.PrintWords
set_option linter.unusedVariables false

section
variable {H : Type} {enc : TypeId × Value → H} {w : World}
def num (n : Int) : Prop := (Lit.int .i64 n).wf = true
theorem o_int : Opens enc Try.prog w 3 (Kd.int .i64) num := opens_int Try.underlying3
theorem o_int64 : Opens enc Try.prog w 2 (Kd.int .i64) num := opens_int Try.underlying2
theorem o_step : Opens enc Try.prog w 194 k194 (fun _ => True) := by
  intro base spare held n cs y h
  obtain ⟨x, hx, _⟩ := (opens_iso (fun x : S194 => (x.f0, x.f1, x.f2, x.f3, x.f4)) (fun x => ⟨x.1, x.2.1, x.2.2.1, x.2.2.2.1, x.2.2.2.2⟩) (fun _ => rfl)
    (opens_struct Try.underlying194 (by kernel_rfl) (opensF_cons rfl (by kernel_rfl) o_int (opensF_cons rfl (by kernel_rfl) o_int (opensF_cons rfl (by kernel_rfl) o_int (opensF_cons rfl (by kernel_rfl) o_int64 (opensF_one rfl (by kernel_rfl) o_int))))))) base spare held n cs y h
  exact ⟨x, hx, trivial⟩
theorem o_event : Opens enc Try.prog w 149 k149 (fun _ => True) := by
  intro base spare held n cs y h
  obtain ⟨x, hx, _⟩ := (opens_iso (fun x : S149 => (x.f0, x.f1, x.f2)) (fun x => ⟨x.1, x.2.1, x.2.2⟩) (fun _ => rfl)
    (opens_struct Try.underlying149 (by kernel_rfl) (opensF_cons rfl (by kernel_rfl) o_int64 (opensF_cons rfl (by kernel_rfl) o_int (opensF_one rfl (by kernel_rfl) o_int64))))) base spare held n cs y h
  exact ⟨x, hx, trivial⟩
theorem o_body : Opens enc Try.prog w 146 k146 (fun b => b.f0.length ≤ 9223372036854775807) := by
  intro base spare held n cs y h
  obtain ⟨x, hx, hq⟩ := (opens_iso (fun x : S146 => x.f0) (fun x => ⟨x⟩) (fun _ => rfl)
    (opens_struct Try.underlying146 (by kernel_rfl) (opensF_one rfl (by kernel_rfl) (opens_slice (d := k194) Try.underlying144 (by kernel_rfl) o_step)))) base spare held n cs y h
  exact ⟨x, hx, by simpa [maxLen] using hq.1⟩
def kPlan : Kd (List S146 × List Int × Int) := Kd.pair (Kd.slice 146 k146) (Kd.pair (Kd.slice 3 (Kd.int .i64)) (Kd.int .i64))
def kInput : Kd (List S149 × Int × Int) := Kd.pair (Kd.slice 149 k149) (Kd.pair (Kd.int .i64) (Kd.int .i64))
theorem o_plan : Opens enc Try.prog w 26 kPlan (fun x => (x.1.length ≤ 9223372036854775807 ∧ ∀ b ∈ x.1, b.f0.length ≤ 9223372036854775807) ∧ x.2.1.length ≤ 9223372036854775807) := by
  intro base spare held n cs y h
  obtain ⟨x, hx, h1, h2, _⟩ := opens_struct Try.underlying26 (by kernel_rfl) (opensF_cons rfl (by kernel_rfl) (opens_slice (d := k146) Try.underlying23 (by kernel_rfl) o_body) (opensF_cons rfl (by kernel_rfl) (opens_slice (d := Kd.int .i64) Try.underlying24 (by kernel_rfl) o_int) (opensF_one rfl (by kernel_rfl) o_int))) base spare held n cs y h
  exact ⟨x, hx, ⟨by simpa [maxLen] using h1.1, h1.2⟩, by simpa [maxLen] using h2.1⟩
theorem o_input : Opens enc Try.prog w 29 kInput (fun x => x.1.length ≤ 9223372036854775807) := by
  intro base spare held n cs y h
  obtain ⟨x, hx, h1, _⟩ := opens_struct Try.underlying29 (by kernel_rfl) (opensF_cons rfl (by kernel_rfl) (opens_slice (d := k149) Try.underlying27 (by kernel_rfl) o_event) (opensF_cons rfl (by kernel_rfl) o_int (opensF_one rfl (by kernel_rfl) o_int64))) base spare held n cs y h
  exact ⟨x, hx, by simpa [maxLen] using h1.1⟩
theorem kPlan_open {x : List S146 × List Int × Int} {cs : List Value} (h : kPlan.K w x cs) : ∃ A0 c0 A1 c1, cs = [.slice A0 x.1.length c0, .slice A1 x.2.1.length c1, .int .i64 x.2.2] ∧ k146.C w A0 x.1.length x.1 ∧ x.1.length ≤ c0 ∧ (Kd.int .i64).C w A1 x.2.1.length x.2.1 ∧ x.2.1.length ≤ c1 := by
  obtain ⟨_, _, rfl, ⟨A0, c0, rfl, h1, h2⟩, _, _, rfl, ⟨A1, c1, rfl, h3, h4⟩, h5⟩ := h
  rw [show _ = _ from h5]
  exact ⟨A0, c0, A1, c1, rfl, h2, h1, h4, h3⟩
theorem kInput_open {x : List S149 × Int × Int} {cs : List Value} (h : kInput.K w x cs) : ∃ A0 c0, cs = [.slice A0 x.1.length c0, .int .i64 x.2.1, .int .i64 x.2.2] ∧ k149.C w A0 x.1.length x.1 ∧ x.1.length ≤ c0 := by
  obtain ⟨_, _, rfl, ⟨A0, c0, rfl, h1, h2⟩, _, _, rfl, h4, h5⟩ := h
  rw [show _ = _ from h5, show _ = _ from h4]
  exact ⟨A0, c0, rfl, h2, h1⟩
end

theorem own : ownKnob Try.prog.godebug = none := by kernel_rfl
theorem laidOut : laidOutB Try.prog = true := by kernel_rfl

set_option maxRecDepth 100000 in
theorem lifted (os : Os) (started : os.Started) (H : Type) (enc : TypeId × Value → H) :
    ReturnsInHanded {} Try.checked os 4 .any (Rows.fnExactInputOkSpec.pre6 enc Try.prog Try.f4 Rows.fnExactInputOkRow.domain false) (Rows.fnExactInputOkSpec.post enc Try.prog Try.f4 false true false false) := by
  refine returnsInHanded_of_change (C := Try.checked) own started (by kernel_rfl) Try.func4
    (ChangeSpec.witness6 (enc := enc) (C := Try.checked) false ⟨#[], #[.agg #[.slice none 0 0, .slice none 0 0, .int .i64 0], .agg #[.slice none 0 0, .int .i64 0, .int .i64 0]], []⟩ 8 (by kernel_rfl) (by kernel_rfl) (by kernel_rfl) (by kernel_rfl)) ?_
  intro W base args ds gs before hval0 hW hcnd _
  have hW' := hW
  obtain ⟨p, q, hA0, hV, rfl, hfz, hnd⟩ := hW
  have hA : DataW.TrodAll enc Try.prog W 0 (fun _ => true) true Try.f4.params.toList args.toList ds p := hA0
  rw [Try.params4] at hA
  obtain ⟨v0, vs0, d0, ds0, p0, q0, hargs, rfl, rfl, h0, r0⟩ := trodAll_cons hA
  obtain ⟨v1, vs1, d1, ds1, p1, q1, rfl, rfl, rfl, h1, r1⟩ := trodAll_cons r0
  obtain ⟨rfl, rfl, rfl⟩ := trodAll_nil r1
  obtain rfl : args = #[v0, v1] := by cases args; simp_all
  obtain ⟨rfl, rfl⟩ := trodVars_none hV
  have k0 := h0
  have k1 := h1
  have lt0 : ∀ x ∈ p0, x.block < W.heap.size := by obtain ⟨m, hm⟩ := k0; exact DataW.trod_lt m _ _ _ hm
  have lt1 : ∀ x ∈ p1, x.block < W.heap.size := by obtain ⟨m, hm⟩ := k1; exact DataW.trod_lt m _ _ _ hm
  obtain ⟨m0, f0⟩ := h0
  obtain ⟨m1, f1⟩ := h1
  obtain ⟨⟨bs, rs, sl⟩, e0, ⟨b0, b1⟩, b2⟩ := o_plan _ _ _ _ _ _ f0
  obtain ⟨⟨es, t, u⟩, e1, b3⟩ := o_input _ _ _ _ _ _ f1
  obtain ⟨A0, c0, A1, c1, g0, g1, g2, g3, g4⟩ := kPlan_open e0
  obtain ⟨A2, c2, g5, g6, g7⟩ := kInput_open e1
  have z0 := agg_of_cells g0 (by simp)
  have z1 := agg_of_cells g5 (by simp)
  subst z0 z1
  clear hA0 hval0
  refine (laws_FnExactInputOk.calls 3000001 A0 c0 bs A1 c1 rs sl A2 c2 es t u W g1 g2 g3 g4 g6 g7 (pure_ok bs rs sl es t u b0 b1 b2 b3)).mono fun e W' ⟨he, bel⟩ => ?_
  subst he
  exact ⟨_, rfl, _, _, _, [], _, [], hW', trodAll_mk1 (shut_bool Try.underlying4 _), (trodAll_cons_mk (Below.trod laidOut (by kernel_rfl) (of_decide_eq_true (by kernel_rfl)) k0 bel lt0) (trodAll_cons_mk (Below.trod laidOut (by kernel_rfl) (of_decide_eq_true (by kernel_rfl)) k1 bel lt1) trodAll_mk0)), rfl, bel.frame _, fun h => by cases h⟩

theorem over : Rows.fnExactInputOkRow.holds Try.pinned (OpenSpec.ofChange Rows.fnExactInputOkSpec) :=
  OpenClaim.holds_of_wide 4 Try.f4 rfl rfl rfl rfl rfl rfl rfl ⟨rfl, rfl, rfl, rfl, rfl⟩ rfl rfl rfl rfl rfl (by kernel_rfl) Try.func4 (by kernel_rfl)
    (of_decide_eq_true (by kernel_rfl)) (by unfold Func.isWrapper; first | (rw [if_pos (by decide +kernel)]; kernel_rfl) | (rw [if_neg (by decide +kernel)]; exact ⟨rfl, rfl⟩))
    (fun os started H enc _ => lifted os started H enc)

/-- The statement. -/
theorem proved : Rows.FnExactInputOkSaid := over
#print axioms proved
end Go.Proofs.Ytejjedooecephaa.fnExactInputOk
