/-
  Texts joined by a program (shake.py), without what the claim does not use; printed walks among them (print.sh), and own ones.
-/
import Derived.Orders
import Derived.Tactics
import Derived.KernelRfl
section
namespace Go.Beat
open Go

section
variable {P : Program} {ops : Array Oper} {Q : Exit → Act → World → Prop} {md : Region.Mode}

/-- In state 'a', in every world of the class, operation 'o' leaves 'v' and the world as it was. -/
def YieldsC (P : Program) (ops : Array Oper) (C : World → Prop) (o : Oper) (v : Value) (a : Act) : Prop :=
  (Region.wanted o (yielded ops a.tmps) = true ∧ ∀ w, C w → (execOp a.eval o).run P w = .ok (.value v) w) ∨
  (Region.wanted o (yielded ops a.tmps) = false ∧ v = undef)


theorem YieldsC.wpOp {C : World → Prop} {i : Nat} {o : Oper} {v : Value} {a : Act} (hi : ops[i]? = some o) (hy : YieldsC P ops C o v a)
    {K : Act → World → Prop} {w : World} (hC : C w) (h : K (a.put o.dst v) w) : wpOp P ops Q i K a w := by
  unfold Go.wpOp
  simp only [hi]
  rcases hy with ⟨hw, hv⟩ | ⟨hw, rfl⟩
  · simp only [hw, if_true, Oper.wp, hv w hC, Oper.upon]; exact .inl h
  · simp only [hw, Bool.false_eq_true, if_false]; exact h









/-- The walk of the chosen order. -/
def wpSch (P : Program) (ops : Array Oper) (C : World → Prop) (Q : Exit → Act → World → Prop) (p : Nat) : Nat → List (Nat × Nat) → Act → World → Prop
  | _, [], a, w => Q .normal a w
  | k, (i, kind) :: rest, a, w =>
    match ops[i]? with
    | none => False
    | some o =>
      match kind with
      | 0 => if Region.wanted o (yielded ops a.tmps) then (o.wp P a w (fun a' w' => (k < p → C w') ∧ wpSch P ops C Q p (k + 1) rest a' w') Q) ∨ (o.asks P a w ∧ LetsOut Q)
          else (k < p → C w) ∧ wpSch P ops C Q p (k + 1) rest (a.put o.dst undef) w
      | 1 => ∃ v, YieldsC P ops (fun _ => True) o v a ∧ wpSch P ops C Q p (k + 1) rest (a.put o.dst v) w
      | _ => C w ∧ ∃ v, YieldsC P ops C o v a ∧ wpSch P ops C Q p (k + 1) rest (a.put o.dst v) w




end
end Go.Beat
end
