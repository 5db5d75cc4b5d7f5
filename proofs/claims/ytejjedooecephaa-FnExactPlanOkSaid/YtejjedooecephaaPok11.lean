/-
  Texts joined by a program (shake.py), without what the claim does not use; printed walks among them (print.sh), and own ones.
-/
import Derived.Test.YtejjedooecephaaPok10
import Derived.Laws.Entries
section
namespace Go.Beat
open Go

section
variable {P : Program} {D : World → Prop} {Q : Post} {T : Tab} {n : Nat} {ds : List Deferred} {τ : Type} {M : Meta τ} {S0 S : Sto τ} {w0 : World} {c : Cont τ} {fr fr' : Fr} {a : Act} {w : World} {K K' : List KI} {t : τ} {cs : List Value}






/-- A new block that nobody owns. -/
theorem St.alloc (X : St M S0 w0 n ds S c fr a w) (o : Obj) {a' : Act} (hF : Frm n ds a' fr') : St M S0 w0 n ds S c fr' a' (w.alloc o) :=
  ⟨hF, X.H.alloc o, fun b hb => X.fresh b (by simp at hb; omega), X.kp.trans (Kp.alloc S w o).toKp⟩

/-- A value laid into a new block: nobody owns it. -/
theorem ev_box {e : TypeId} {x : Operand} {dst : Option Tmp} {ty : TypeId} {dt : Bool} (X : St M S0 w0 n ds S c fr a w) (hK : headIs n fr K = some ⟨.box e x, dst, ty, K', dt⟩) (v : Value) (hx : ev fr x = some v)
    (fr' : Fr) (hput : putD n dst (.pointer (some ⟨w.heap.size, 0, none⟩)) fr = some fr')
    (next : ∀ a' w', St M S0 w0 n ds S c fr' a' w' → Evn S w S w' → w' = w.alloc (.cells v.cells e) → (dt = true → D w') ∧ WPK P D K' Q a' w') : WPK P D K Q a w := by
  refine ev_val hK X.F (.pointer (some ⟨w.heap.size, 0, none⟩)) (w.alloc (.cells v.cells e)) (fun o h1 _ _ => ?_) hput fun a' hF' => next a' _ (X.alloc _ hF') (Kp.alloc S w _) rfl
  simp [execOp, h1, X.F.eval hx, Instr.box, newVar, newRow, newObj, Sem.run]







def callOk (P : Program) (f : FuncId) : Bool :=
  match P.funcs[f]? with
  | some fn => (fn.name == "runtime.NumGoroutine") == false && fn.body.isSome
  | none => false

theorem run_call {f : FuncId} (h : callOk P f = true) (args : Array Value) (w : World) : (callFunc f args).run P w = .ok (.enter f args) w := by
  unfold callOk at h
  split at h
  · rename_i fn hf
    simp only [Bool.and_eq_true, beq_iff_eq] at h
    obtain ⟨h1, h2⟩ := h
    have h3 : ¬ fn.body = none := by cases hb : fn.body <;> simp_all
    have h4 : ¬ fn.name = "runtime.NumGoroutine" := by simpa using h1
    simp [callFunc, program, Sem.run, hf, h4, h3]
  · cases h

/-- A call by name. -/
theorem ev_call {f : FuncId} {args : Array Operand} {ats : Array TypeId} {dst : Option Tmp} {ty : TypeId} {dt : Bool} (hF : Frm n ds a fr) (hK : headIs n fr K = some ⟨.call { callee := .value (.func f), args := args, argTypes := ats }, dst, ty, K', dt⟩)
    (vs : List Value) (hvs : args.toList.mapM (ev fr) = some vs) (hok : callOk P f = true) {R : Value → World → Prop}
    (hcall : Calls P f vs.toArray w fun e w' => ∃ v, e = .returned v ∧ R v w')
    (next : ∀ v a' w', R v w' → a'.defers = a.defers → (∀ fr', putD n dst v fr = some fr' → Frm n ds a' fr') → (dt = true → D w') ∧ WPK P D K' Q a' w') : WPK P D K Q a w := by
  refine head_wp (D := D) hK hF fun o Q' h1 h2 h3 => ?_
  have e1 : args.map a.eval = vs.toArray := by apply Array.toList_inj.1; rw [Array.toList_map]; exact mapM_ev1 hF _ _ hvs
  have hr : (execOp a.eval o).run P w = .ok (.enter f vs.toArray) w := by
    simp [execOp, h1, resolve, Act.eval, Deferred.ofValue, invoke, run_call hok]
    exact e1
  unfold Oper.wp
  rw [hr]
  simp only [Oper.upon]
  refine hcall.mono fun e w' he => ?_
  obtain ⟨v, rfl, hR⟩ := he
  refine next v _ w' hR ?_ fun fr' hput => ?_
  · cases o.dst <;> rfl
  · rw [h2]
    exact putD_sound hF hput

/-- A call of a function value. -/
theorem ev_callv {g : Operand} {f : FuncId} {cap : Array Value} {args : Array Operand} {ats : Array TypeId} {dst : Option Tmp} {ty : TypeId} {dt : Bool} (hF : Frm n ds a fr) (hK : headIs n fr K = some ⟨.call { callee := .value g, args := args, argTypes := ats }, dst, ty, K', dt⟩)
    (hg : ev fr g = some (.func (.func f) #[] cap))
    (vs : List Value) (hvs : args.toList.mapM (ev fr) = some vs) (hok : callOk P f = true) {R : Value → World → Prop}
    (hcall : Calls P f (vs.toArray ++ cap) w fun e w' => ∃ v, e = .returned v ∧ R v w')
    (next : ∀ v a' w', R v w' → a'.defers = a.defers → (∀ fr', putD n dst v fr = some fr' → Frm n ds a' fr') → (dt = true → D w') ∧ WPK P D K' Q a' w') : WPK P D K Q a w := by
  refine head_wp (D := D) hK hF fun o Q' h1 h2 h3 => ?_
  have e1 : args.map a.eval = vs.toArray := by apply Array.toList_inj.1; rw [Array.toList_map]; exact mapM_ev1 hF _ _ hvs
  have hr : (execOp a.eval o).run P w = .ok (.enter f (vs.toArray ++ cap)) w := by
    simp [execOp, h1, resolve, hF.eval hg, Deferred.ofValue, invoke, run_call hok, e1]
  unfold Oper.wp
  rw [hr]
  simp only [Oper.upon]
  refine hcall.mono fun e w' he => ?_
  obtain ⟨v, rfl, hR⟩ := he
  refine next v _ w' hR ?_ fun fr' hput => ?_
  · cases o.dst <;> rfl
  · rw [h2]
    exact putD_sound hF hput







def zipF : Nat → List Value → Fr
  | _, [] => []
  | i, v :: vs => (i, v) :: zipF (i + 1) vs

theorem look_zipF : ∀ (vs : List Value) (i t : Nat) (v : Value), look (zipF i vs) t = some v → i ≤ t ∧ vs[t - i]? = some v
  | [], i, t, v, h => by simp [zipF, look] at h
  | u :: vs, i, t, v, h => by
    unfold zipF look at h
    by_cases hit : i = t
    · subst hit
      simp at h
      simp [h]
    · have hb : (i == t) = false := by simp [hit]
      rw [hb] at h
      simp only [Bool.false_eq_true, if_false] at h
      obtain ⟨h1, h2⟩ := look_zipF vs (i + 1) t v h
      refine ⟨by omega, ?_⟩
      rw [show t - i = (t - (i + 1)) + 1 from by omega]
      simpa using h2

/-- Into a function's body. -/
theorem enter {f : FuncId} {fn : Func} {R : Ending → World → Prop} (hf : P.funcs[f]? = some fn) (hb : fn.body.isSome = true) (vs : List Value) (hsz : vs.length ≤ fn.ntmps)
    (h : ∀ a, Frm fn.ntmps [] a (zipF 0 vs) → WPK P D (at_ fn []) (bodyPost P fn R) a w) : Calls P f vs.toArray w R := by
  obtain ⟨c, hc⟩ := Option.isSome_iff_exists.1 hb
  refine calls_of_wp hf hc ?_
  have h1 := h { tmps := vs.toArray ++ Array.replicate (fn.ntmps - vs.toArray.size) undef, defers := [] } ⟨rfl, by simp; omega, fun t v ht => ?_⟩
  · have e : at_ fn [] = [.code c] := by simp [at_, bd, hc, contAt]
    rw [e, WPK_code] at h1
    have e2 : postK P D [] (bodyPost P fn R) = bodyPost P fn R := by funext e a w; cases e <;> rfl
    rwa [e2] at h1
  · obtain ⟨_, h2⟩ := look_zipF vs 0 t v ht
    have hlt : t < vs.length := (List.getElem?_eq_some_iff.1 h2).1
    simp only [Nat.sub_zero] at h2
    have h3 : vs[t] = v := (List.getElem?_eq_some_iff.1 h2).2
    simp [Array.getElem?_append, hlt, h3]

theorem ret1 {fn : Func} {R : Ending → World → Prop} {t : Tmp} {v : Value} (hr : fn.results = #[.tmp t]) (hF : Frm n [] a fr) (hv : look fr t = some v) (h : R (.returned v) w) : bodyPost P fn R .ret a w := by
  refine ⟨hF.defs, _, results_tmp hr _ _ _, ?_⟩
  rw [hF.get t v hv]
  exact h

end
end Go.Beat
end
section
namespace Go.Beat
open Go

section
variable {P : Program} {D : World → Prop} {Q : Post} {T : Tab} {n : Nat} {ds : List Deferred} {τ : Type} {M : Meta τ} {S0 S : Sto τ} {w0 : World} {c : Cont τ} {fr fr' : Fr} {a : Act} {w : World} {K K' : List KI} {t : τ} {cs : List Value} {L : SL}



def isSlice (P : Program) (tt : TypeId) : Bool := match P.underlying tt with | some (.slice _) => true | _ => false
/-- The length of a slice known as a value. -/
def lenV (P : Program) {C : World → Prop} (tt ty : TypeId) (h : isSlice P tt = true) (ad : Option Addr) (n cap : Nat) : Hint P C :=
  .run (Builtin.len_ #[tt] ty #[.slice ad n cap]) (.int .i64 n) fun w _ => by
    unfold isSlice at h
    split at h
    · rename_i e he
      simp [Builtin.len_, run_underlying he, goInt]
    · cases h


theorem WPK_ret (h : Q .ret a w) : WPK P D (.code .ret :: K) Q a w := K_ret (postK_ret h)


end
end Go.Beat
end
