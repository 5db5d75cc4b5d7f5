/-
  Texts joined by a program (shake.py), without what the claim does not use; printed walks among them (print.sh), and own ones.
-/
import Derived.Test.YtejjedooecephaaPok0
import Derived.ChangeArms
section
namespace Go.Beat
open Go Go.RowKit Go.Proofs.YtejjedooecephaaW.PrintWords

section
variable {H : Type} {enc : TypeId × Value → H} {P : Program} {w : World} {α β : Type}

/-- Every datum of type t is of kind d, and what it holds satisfies q. -/
def Opens (enc : TypeId × Value → H) (P : Program) (w : World) (t : TypeId) (d : Kd α) (q : α → Prop) : Prop :=
  ∀ (base : Nat) (spare : Nat → Bool) (held : Bool) (n : Nat) (cs : List Value) (y : DataW H × List MemPlace), DataW.trod enc P w base spare held n t cs = some y → ∃ x, d.K w x cs ∧ q x

theorem opens_int {t : TypeId} {k : IntKind} (ht : P.underlying t = some (.int k)) : Opens enc P w t (Kd.int k) (fun n => (Lit.int k n).wf = true) := by
  intro base spare held n cs y h
  obtain ⟨m, rfl, _, hw⟩ := DataW.trod_int ht h
  exact ⟨m, rfl, hw⟩

theorem addr_add_add (a : Addr) (m n : Nat) : (a.add m).add n = a.add (m + n) := by
  by_cases h1 : m = 0
  · subst h1
    simp [Addr.add]
  · by_cases h2 : n = 0
    · subst h2
      simp [Addr.add]
    · have h3 : ¬ m + n = 0 := by omega
      simp [Addr.add, h1, h2, Nat.add_assoc]

theorem exists_list {R : Nat → α → Prop} : ∀ n : Nat, (∀ i, i < n → ∃ x, R i x) → ∃ xs : List α, xs.length = n ∧ ∀ i x, xs[i]? = some x → R i x
  | 0, _ => ⟨[], rfl, fun i x h => by simp at h⟩
  | n + 1, h => by
    obtain ⟨xs, hl, hx⟩ := exists_list n fun i hi => h i (by omega)
    obtain ⟨x, hx2⟩ := h n (by omega)
    refine ⟨xs ++ [x], by simp [hl], fun i y hy => ?_⟩
    by_cases hi : i < xs.length
    · rw [List.getElem?_append_left hi] at hy
      exact hx i y hy
    · rw [List.getElem?_append_right (by omega)] at hy
      have h0 : i - xs.length = 0 := by
        have := (List.getElem?_eq_some_iff.1 hy).1
        simp at this
        omega
      rw [h0] at hy
      have e : i = n := by omega
      simp at hy
      subst hy
      rw [e]
      exact hx2

theorem opens_slice {t e : TypeId} {d : Kd α} {q : α → Prop} (ht : P.underlying t = some (.slice e)) (hc : P.cellsOf e = d.sz) (ho : Opens enc P w e d q) :
    Opens enc P w t (Kd.slice e d) (fun xs => xs.length ≤ maxLen ∧ ∀ x ∈ xs, q x) := by
  intro base spare held n cs y h
  rcases DataW.trod_slice ht h with ⟨rfl, _⟩ | ⟨a, len, cap, elems, rest, m, _, rfl, _, _, hl, hm, hlen, hel, _, _⟩
  · exact ⟨[], ⟨none, 0, rfl, Nat.le_refl _, ⟨rfl, by simp, fun h => absurd h (by simp)⟩⟩, by simp [maxLen], fun x hx => by cases hx⟩
  · have each : ∀ i, i < len → ∃ x : α, (∃ c, c.length = d.sz ∧ d.K w x c ∧ ∀ j u, c[j]? = some u → w.cell? (a.add (i * d.sz + j)) = some u) ∧ q x := by
      intro i hi
      have h1 := hel i hi
      have hi2 : i < elems.length := by omega
      rw [List.getElem?_eq_getElem hi2, Option.bind_eq_some_iff] at h1
      obtain ⟨c, hcs, hy⟩ := h1
      obtain ⟨x, hk, hq⟩ := ho _ _ _ _ _ _ hy
      obtain ⟨_, hl2, hcell⟩ := World.cells?_some hcs
      refine ⟨x, ⟨c, by rw [hl2, hc], hk, fun j u hu => ?_⟩, hq⟩
      have hj : j < P.cellsOf e := by
        have := (List.getElem?_eq_some_iff.1 hu).1
        omega
      have h2 := hcell j hj
      rw [hu] at h2
      rw [← h2]
      rw [hc, addr_add_add]
    obtain ⟨xs, hxl, hx⟩ := exists_list len each
    subst hxl
    have hm' : xs.length ≤ maxLen := Nat.le_trans hl hm
    refine ⟨xs, ⟨some a, cap, rfl, hl, rfl, by simpa [maxLen] using hm', fun _ => ⟨a, rfl, fun j p hp => ?_⟩⟩, hm', fun x hx2 => ?_⟩
    · obtain ⟨c, h1, h2, h3⟩ := (hx j p hp).1
      exact ⟨c, h1, h2, h3⟩
    · obtain ⟨i, hi⟩ := List.getElem?_of_mem hx2
      exact (hx i x hi).2

/-- A struct's fields from one on. -/
def OpensF (enc : TypeId × Value → H) (P : Program) (w : World) (fs : List Field) (off : Nat) (d : Kd α) (q : α → Prop) : Prop :=
  ∀ (base : Nat) (spare : Nat → Bool) (held : Bool) (n : Nat) (cs : List Value), cs.length = off + d.sz → (∀ f ∈ fs, ∃ y, DataW.trod enc P w base spare held n f.type ((cs.drop f.offset).take (P.cellsOf f.type)) = some y) → ∃ x, d.K w x (cs.drop off) ∧ q x

theorem opensF_one {f : Field} {off : Nat} {d : Kd α} {q : α → Prop} (hf : f.offset = off) (hc : P.cellsOf f.type = d.sz) (ho : Opens enc P w f.type d q) : OpensF enc P w [f] off d q := by
  intro base spare held n cs hl h
  obtain ⟨y, hy⟩ := h f (by simp)
  rw [hf, hc, List.take_of_length_le (by simp; omega)] at hy
  exact ho _ _ _ _ _ _ hy

theorem opensF_cons {f : Field} {fs : List Field} {off : Nat} {d : Kd α} {q : α → Prop} {d' : Kd β} {q' : β → Prop} (hf : f.offset = off) (hc : P.cellsOf f.type = d.sz) (ho : Opens enc P w f.type d q)
    (hr : OpensF enc P w fs (off + d.sz) d' q') : OpensF enc P w (f :: fs) off (Kd.pair d d') (fun x => q x.1 ∧ q' x.2) := by
  intro base spare held n cs hl h
  obtain ⟨y, hy⟩ := h f (by simp)
  rw [hf, hc] at hy
  obtain ⟨x, hx, hq⟩ := ho _ _ _ _ _ _ hy
  obtain ⟨x', hx', hq'⟩ := hr base spare held n cs (by rw [hl]; show off + (d.sz + d'.sz) = _; omega) (fun g hg => h g (by simp [hg]))
  refine ⟨(x, x'), ⟨_, _, ?_, hx, hx'⟩, hq, hq'⟩
  rw [← List.drop_drop, List.take_append_drop]

theorem opens_struct {t : TypeId} {fs : Array Field} {d : Kd α} {q : α → Prop} (ht : P.underlying t = some (.struct fs)) (hc : P.cellsOf t = d.sz) (ho : OpensF enc P w fs.toList 0 d q) : Opens enc P w t d q := by
  intro base spare held n cs y h
  obtain ⟨xs, m, _, _, hl, hxl, hf⟩ := DataW.trod_struct ht h
  obtain ⟨x, hx, hq⟩ := ho base spare held m cs (by omega) (fun f hf2 => by
    obtain ⟨i, hi⟩ := List.getElem?_of_mem hf2
    have hi2 : fs[i]? = some f := by simpa using hi
    have h1 := hf i f hi2
    have hlt : i < xs.length := by
      rw [hxl]
      exact (Array.getElem?_eq_some_iff.1 hi2).1
    rw [List.getElem?_eq_getElem hlt] at h1
    exact ⟨_, h1⟩)
  exact ⟨x, by simpa using hx, hq⟩

theorem opens_iso {t : TypeId} {d : Kd α} {q : α → Prop} (f : β → α) (g : α → β) (hfg : ∀ x, f (g x) = x) (ho : Opens enc P w t d q) : Opens enc P w t (Kd.iso d f) (fun y => q (f y)) := by
  intro base spare held n cs y h
  obtain ⟨x, hx, hq⟩ := ho _ _ _ _ _ _ h
  refine ⟨g x, ?_, by show q (f (g x)); rw [hfg]; exact hq⟩
  show d.K w (f (g x)) cs
  rw [hfg]
  exact hx

/-- A value out of its cells, where there are several. -/
theorem agg_of_cells {v : Value} {cs : List Value} (h : v.cells.toList = cs) (hl : cs.length ≠ 1) : v = .agg cs.toArray := by
  cases v <;> simp only [Value.cells] at h <;> first | (subst h; simp at hl; done) | (subst h; simp)
end
end Go.Beat
end
