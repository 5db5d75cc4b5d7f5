/-
  Texts joined by a program (shake.py), without what the claim does not use; printed walks among them (print.sh), and own ones.
-/
import Derived.Test.YtejjedooecephaaPok9
import Derived.Deep.LoopGhost
section
namespace Go.Beat
open Go

/-- What is to be done from a place on. At a sequence a number n goes n times to the right, 0 to the left. -/
def contAt (K : List KI) : Code → List Nat → List KI
  | c, [] => .code c :: K
  | .seq x y, 0 :: p => contAt (.code y :: K) x p
  | .seq _ y, 1 :: p => contAt K y p
  | .seq _ y, (m + 2) :: p => contAt K y ((m + 1) :: p)
  | .cond _ x _, 0 :: p => contAt K x p
  | .cond _ _ y, _ :: p => contAt K y p
  | .block id c, _ :: p => contAt (.blk id :: K) c p
  | .loop c, _ :: p => contAt [] c p
  | .region _ ops _, k :: _ => .ops ops (ops.toList.drop k) :: K
  | c, _ => .code c :: K


def bd (fn : Func) : Code := fn.body.getD .skip
def at_ (fn : Func) (p : List Nat) : List KI := contAt [] (bd fn) p

def SH (w : World) : World → Prop := fun w' => w'.heap = w.heap

structure St {τ : Type} (M : Meta τ) (S0 : Sto τ) (w0 : World) (n : Nat) (ds : List Deferred) (S : Sto τ) (c : Cont τ) (fr : Fr) (a : Act) (w : World) : Prop where
  F : Frm n ds a fr
  H : Holds M S w.heap c
  fresh : Fresh S w
  kp : Kp S0 w0 S w

theorem map_fst_snd {α : Type} : ∀ {l : List (α × α)}, l.map (·.1) = l.map (·.2) → ∀ p ∈ l, p.1 = p.2
  | [], _, p, hp => by cases hp
  | x :: l, h, p, hp => by
    simp only [List.map_cons, List.cons.injEq] at h
    rcases List.mem_cons.1 hp with rfl | hp
    · exact h.1
    · exact map_fst_snd h.2 p hp

section
variable {P : Program} {D : World → Prop} {Q : Post} {T : Tab} {n : Nat} {ds : List Deferred} {τ : Type} {M : Meta τ} {S0 S : Sto τ} {w0 : World} {c : Cont τ} {fr fr' : Fr} {a : Act} {w : World} {K K' : List KI}

/-- A light stretch. -/
theorem seg0 {C : World → Prop} (hT : T.ok P = true) (hm : P.follows .mixedOrders = true) (hCd : ∀ w w', SameH w w' → C w → C w') {two : Bool} (htwo : two = true → C = D) (fuel : Nat) (hs : Hints P C)
    (hev : ((live (evalK T hs n two fuel fr K []).fr (fr'.map (·.1)), (evalK T hs n two fuel fr K []).K, (evalK T hs n two fuel fr K []).ps.map (·.1)) : Option Fr × List KI × List Chk) = (some fr', K', (evalK T hs n two fuel fr K []).ps.map (·.2)))
    (hF : Frm n ds a fr) (hC : C w) (next : ∀ a' w', Frm n ds a' fr' → SameH w w' → C w' → WPK P D K' Q a' w') : WPK P D K Q a w := by
  simp only [Prod.mk.injEq] at hev
  obtain ⟨h1, h2, h3⟩ := hev
  refine evalK_sound hT hm hCd (hs := hs) htwo fuel fr K [] a w (map_fst_snd h3) hF hC fun a' w' hF' hs' hC' => ?_
  rw [h2]
  exact next a' w' (hF'.live h1) hs' hC'

theorem St.same {a' : Act} {w' : World} (X : St M S0 w0 n ds S c fr a w) (hF : Frm n ds a' fr') (hs : SameH w w') : St M S0 w0 n ds S c fr' a' w' :=
  ⟨hF, by rw [hs.heap]; exact X.H, by unfold Fresh; rw [hs.heap]; exact X.fresh, X.kp.same hs⟩

theorem seg (hT : T.ok P = true) (hm : P.follows .mixedOrders = true) (X : St M S0 w0 n ds S c fr a w) (fuel : Nat) (fr' : Fr) (K' : List KI) (hs : Hints P (SH w))
    (hev : ((live (evalK T hs n false fuel fr K []).fr (fr'.map (·.1)), (evalK T hs n false fuel fr K []).K, (evalK T hs n false fuel fr K []).ps.map (·.1)) : Option Fr × List KI × List Chk) = (some fr', K', (evalK T hs n false fuel fr K []).ps.map (·.2)))
    (next : ∀ a' w', St M S0 w0 n ds S c fr' a' w' → SameH w w' → WPK P D K' Q a' w') : WPK P D K Q a w :=
  seg0 hT hm (fun _ _ h1 h2 => h1.heap.trans h2) (fun h => by cases h) fuel hs hev X.F rfl fun a' w' hF hs' _ => next a' w' (X.same hF hs') hs'

variable {t : τ} {cs : List Value}

/-- A cell of a block known whole. -/
def rb (P : Program) {b : Nat} {cells : Array Value} {e : TypeId} {f : Nat × Nat} (hb : w.heap[b]? = some (.cells cells e f)) (j : Nat) (v : Value) (hv : cells[j]? = some v) : Hint P (SH w) :=
  .ld ⟨b, j, none⟩ v fun w' hw => by
    unfold World.cell?
    rw [show w'.heap = w.heap from hw, hb]
    simpa using hv




structure Head where
  op : Op
  dst : Option Tmp
  ty : TypeId
  K : List KI
  dt : Bool

def headIs (n : Nat) (fr : Fr) : List KI → Option Head
  | .ops ops (o :: l) :: K => match wants n ops fr o with
    | some true => some ⟨o.op, o.dst, o.type, .ops ops l :: K, false⟩
    | _ => none
  | .sch ops p k ((i, 0) :: σ) :: K => match ops[i]? with
    | some o => match wants n ops fr o with
      | some true => some ⟨o.op, o.dst, o.type, .sch ops p (k + 1) σ :: K, decide (k < p)⟩
      | _ => none
    | none => none
  | _ => none

/-- What the operation's run must come to. -/
theorem head_wp {hd : Head} (hK : headIs n fr K = some hd) (hF : Frm n ds a fr)
    (h : ∀ (o : Oper) (Q' : Post), o.op = hd.op → o.dst = hd.dst → o.type = hd.ty → o.wp P a w (fun a' w' => (hd.dt = true → D w') ∧ WPK P D hd.K Q a' w') Q') : WPK P D K Q a w := by
  unfold headIs at hK
  split at hK
  · rename_i ops o l K1
    split at hK
    · rename_i hw
      injection hK with hK
      subst hK
      rw [WPK_ops]
      unfold wpList
      rw [if_pos (wants_sound hF hw)]
      refine .inl (Oper.wp_mono (fun a' w' hh => ?_) (h o _ rfl rfl rfl))
      have := hh.2
      rwa [WPK_ops] at this
    · cases hK
  · rename_i ops p k i σ K1
    split at hK
    · rename_i o ho
      split at hK
      · rename_i hw
        injection hK with hK
        subst hK
        rw [WPK_sch]
        unfold wpSch
        simp only [ho]
        rw [if_pos (wants_sound hF hw)]
        refine .inl (Oper.wp_mono (fun a' w' hh => ?_) (h o _ rfl rfl rfl))
        refine ⟨fun hkp => hh.1 (by simpa using hkp), ?_⟩
        have := hh.2
        rwa [WPK_sch] at this
      · cases hK
    · cases hK
  · cases hK

def putD (n : Nat) (dst : Option Tmp) (v : Value) (fr : Fr) : Option Fr :=
  match dst with
  | none => some fr
  | some d => if d < n then some ((d, v) :: fr) else none

theorem putD_sound {dst : Option Tmp} {v : Value} (hF : Frm n ds a fr) (h : putD n dst v fr = some fr') : Frm n ds (a.put dst v) fr' := by
  cases dst with
  | none =>
    injection h with h
    subst h
    exact hF
  | some d =>
    unfold putD at h
    dsimp only at h
    split at h
    · rename_i hlt
      injection h with h
      subst h
      exact hF.put hlt v
    · cases h

/-- An operation that yields a value and may turn the world. -/
theorem ev_val {op : Op} {dst : Option Tmp} {ty : TypeId} {dt : Bool} (hK : headIs n fr K = some ⟨op, dst, ty, K', dt⟩) (hF : Frm n ds a fr) (v : Value) (w' : World)
    (hrun : ∀ o : Oper, o.op = op → o.dst = dst → o.type = ty → (execOp a.eval o).run P w = .ok (.value v) w') (hput : putD n dst v fr = some fr')
    (next : ∀ a', Frm n ds a' fr' → (dt = true → D w') ∧ WPK P D K' Q a' w') : WPK P D K Q a w := by
  refine head_wp (D := D) hK hF fun o Q' h1 h2 h3 => ?_
  unfold Oper.wp
  rw [hrun o h1 h2 h3]
  simp only [Oper.upon]
  rw [h2]
  exact next _ (putD_sound hF hput)

end
end Go.Beat
end
