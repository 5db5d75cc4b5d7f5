/-
  No cell of these rows narrows 'for every input' (looked for: loops, veiled, ifaces, maps, wideKeys, modest, calm, conditions, laid).
  DERIVED. THE GIVEN ROWS OF THIS SEAT. 12 by the template 'for every input the law returns true; each argument reads behind the call as it read before'; 0 by the template 'total and deterministic' (their statements: YtejjedooecephaaTotals.lean).
  GIVEN WITH THE SEED: the statements are not yours to turn. If you find one false, say at which input.
  Laid BY PROGRAM, IN A SANDBOX (cutbox-rows.mjs): the forced cells as the released guide's own fill.sh prints them over the translation 1182163e2143763a… (all of the seat's roots in one cut). By AI agents, Wed Nov 11 2026. No macro, syntax, notation, axiom, sorry.
-/
import Derived.Test.YtejjedooecephaaChecked
import GoSem.Claim
import GoSem.ClaimJoined
import GoSem.ClaimMapViews
import Derived.JoinedTies
import Derived.KernelRfl
namespace Go.Proofs.Ytejjedooecephaa
/- THE CELL 'sum', in the pinned program and in every row, IS THE sha256 OF THE DUMP (.gsa) THAT YtejjedooecephaaProg.lean LOADS. Nothing in Lean hashes anything: it is a label: what it is worth is what the hold of that sum in a sandbox is worth. -/
noncomputable def Try.pinned : Pinned := { name := "ytejjedooecephaa", sum := "1182163e2143763afc9c08e3d1a455ea787ae925676ffebc6c72b0427af79b1a", checked := Try.checked }
namespace Rows
def none {H : Type} : Left H := { results := [], args := [] }

/-- 'laws.FnExactConstants': WHATEVER THE INPUT: true; the input reads as it did. -/
def fnExactConstantsSpec : ChangeSpec := { name := "fnExactConstants", fn := fun _ => fun
  | [] => { results := [.lit (.bool true)], args := [] }
  | _ => none }
def fnExactConstantsRow : OpenClaim := { program := "ytejjedooecephaa", sum := "1182163e2143763afc9c08e3d1a455ea787ae925676ffebc6c72b0427af79b1a", func := "loop.example/beat/laws.FnExactConstants", spec := "fnExactConstants", apart := false }
def FnExactConstantsSaid : Prop := fnExactConstantsRow.holds Try.pinned (OpenSpec.ofChange fnExactConstantsSpec)

/-- ITS FALSE NEIGHBOUR: 'it returns false'. Refute it at one input. -/
def fnExactConstantsWrong : ChangeSpec := { name := "fnExactConstants", fn := fun _ => fun
  | [] => { results := [.lit (.bool false)], args := [] }
  | _ => none }
def FnExactConstantsWrongFalsely : Prop := fnExactConstantsRow.holds Try.pinned (OpenSpec.ofChange fnExactConstantsWrong)

/-- 'laws.FnExactInputOk': WHATEVER THE INPUT: true; the input reads as it did. -/
def fnExactInputOkSpec : ChangeSpec := { name := "fnExactInputOk", fn := fun _ => fun
  | [d1, d2] => { results := [.lit (.bool true)], args := [d1, d2] }
  | _ => none }
def fnExactInputOkRow : OpenClaim := { program := "ytejjedooecephaa", sum := "1182163e2143763afc9c08e3d1a455ea787ae925676ffebc6c72b0427af79b1a", func := "loop.example/beat/laws.FnExactInputOk", spec := "fnExactInputOk", apart := false }
def FnExactInputOkSaid : Prop := fnExactInputOkRow.holds Try.pinned (OpenSpec.ofChange fnExactInputOkSpec)

/-- ITS FALSE NEIGHBOUR: 'it returns false'. Refute it at one input. -/
def fnExactInputOkWrong : ChangeSpec := { name := "fnExactInputOk", fn := fun _ => fun
  | [d1, d2] => { results := [.lit (.bool false)], args := [d1, d2] }
  | _ => none }
def FnExactInputOkWrongFalsely : Prop := fnExactInputOkRow.holds Try.pinned (OpenSpec.ofChange fnExactInputOkWrong)

/-- 'laws.FnExactPlanOk': WHATEVER THE INPUT: true; the input reads as it did. -/
def fnExactPlanOkSpec : ChangeSpec := { name := "fnExactPlanOk", fn := fun _ => fun
  | [d] => { results := [.lit (.bool true)], args := [d] }
  | _ => none }
def fnExactPlanOkRow : OpenClaim := { program := "ytejjedooecephaa", sum := "1182163e2143763afc9c08e3d1a455ea787ae925676ffebc6c72b0427af79b1a", func := "loop.example/beat/laws.FnExactPlanOk", spec := "fnExactPlanOk", unfollowed := true, recurses := true, apart := false }
def FnExactPlanOkSaid : Prop := fnExactPlanOkRow.holds Try.pinned (OpenSpec.ofChange fnExactPlanOkSpec)

/-- ITS FALSE NEIGHBOUR: 'it returns false'. Refute it at one input. -/
def fnExactPlanOkWrong : ChangeSpec := { name := "fnExactPlanOk", fn := fun _ => fun
  | [d] => { results := [.lit (.bool false)], args := [d] }
  | _ => none }
def FnExactPlanOkWrongFalsely : Prop := fnExactPlanOkRow.holds Try.pinned (OpenSpec.ofChange fnExactPlanOkWrong)

/-- 'laws.FnSleepers': WHATEVER THE INPUT: true; the input reads as it did. -/
def fnSleepersSpec : ChangeSpec := { name := "fnSleepers", fn := fun _ => fun
  | [d] => { results := [.lit (.bool true)], args := [d] }
  | _ => none }
def fnSleepersRow : OpenClaim := { program := "ytejjedooecephaa", sum := "1182163e2143763afc9c08e3d1a455ea787ae925676ffebc6c72b0427af79b1a", func := "loop.example/beat/laws.FnSleepers", spec := "fnSleepers", unfollowed := true, recurses := true, apart := false }
def FnSleepersSaid : Prop := fnSleepersRow.holds Try.pinned (OpenSpec.ofChange fnSleepersSpec)

/-- ITS FALSE NEIGHBOUR: 'it returns false'. Refute it at one input. -/
def fnSleepersWrong : ChangeSpec := { name := "fnSleepers", fn := fun _ => fun
  | [d] => { results := [.lit (.bool false)], args := [d] }
  | _ => none }
def FnSleepersWrongFalsely : Prop := fnSleepersRow.holds Try.pinned (OpenSpec.ofChange fnSleepersWrong)

/-- 'laws.FnPipe': WHATEVER THE INPUT: true; the input reads as it did. -/
def fnPipeSpec : ChangeSpec := { name := "fnPipe", fn := fun _ => fun
  | [d] => { results := [.lit (.bool true)], args := [d] }
  | _ => none }
def fnPipeRow : OpenClaim := { program := "ytejjedooecephaa", sum := "1182163e2143763afc9c08e3d1a455ea787ae925676ffebc6c72b0427af79b1a", func := "loop.example/beat/laws.FnPipe", spec := "fnPipe", unfollowed := true, recurses := true, apart := false }
def FnPipeSaid : Prop := fnPipeRow.holds Try.pinned (OpenSpec.ofChange fnPipeSpec)

/-- ITS FALSE NEIGHBOUR: 'it returns false'. Refute it at one input. -/
def fnPipeWrong : ChangeSpec := { name := "fnPipe", fn := fun _ => fun
  | [d] => { results := [.lit (.bool false)], args := [d] }
  | _ => none }
def FnPipeWrongFalsely : Prop := fnPipeRow.holds Try.pinned (OpenSpec.ofChange fnPipeWrong)

/-- 'laws.FnRing': WHATEVER THE INPUT: true; the input reads as it did. -/
def fnRingSpec : ChangeSpec := { name := "fnRing", fn := fun _ => fun
  | [d] => { results := [.lit (.bool true)], args := [d] }
  | _ => none }
def fnRingRow : OpenClaim := { program := "ytejjedooecephaa", sum := "1182163e2143763afc9c08e3d1a455ea787ae925676ffebc6c72b0427af79b1a", func := "loop.example/beat/laws.FnRing", spec := "fnRing", unfollowed := true, recurses := true, apart := false }
def FnRingSaid : Prop := fnRingRow.holds Try.pinned (OpenSpec.ofChange fnRingSpec)

/-- ITS FALSE NEIGHBOUR: 'it returns false'. Refute it at one input. -/
def fnRingWrong : ChangeSpec := { name := "fnRing", fn := fun _ => fun
  | [d] => { results := [.lit (.bool false)], args := [d] }
  | _ => none }
def FnRingWrongFalsely : Prop := fnRingRow.holds Try.pinned (OpenSpec.ofChange fnRingWrong)

/-- 'laws.FnTimes': WHATEVER THE INPUT: true; the input reads as it did. -/
def fnTimesSpec : ChangeSpec := { name := "fnTimes", fn := fun _ => fun
  | [d] => { results := [.lit (.bool true)], args := [d] }
  | _ => none }
def fnTimesRow : OpenClaim := { program := "ytejjedooecephaa", sum := "1182163e2143763afc9c08e3d1a455ea787ae925676ffebc6c72b0427af79b1a", func := "loop.example/beat/laws.FnTimes", spec := "fnTimes", unfollowed := true, recurses := true, apart := false }
def FnTimesSaid : Prop := fnTimesRow.holds Try.pinned (OpenSpec.ofChange fnTimesSpec)

/-- ITS FALSE NEIGHBOUR: 'it returns false'. Refute it at one input. -/
def fnTimesWrong : ChangeSpec := { name := "fnTimes", fn := fun _ => fun
  | [d] => { results := [.lit (.bool false)], args := [d] }
  | _ => none }
def FnTimesWrongFalsely : Prop := fnTimesRow.holds Try.pinned (OpenSpec.ofChange fnTimesWrong)

/-- 'laws.FnPrefix': WHATEVER THE INPUT: true; the input reads as it did. -/
def fnPrefixSpec : ChangeSpec := { name := "fnPrefix", fn := fun _ => fun
  | [d1, d2] => { results := [.lit (.bool true)], args := [d1, d2] }
  | _ => none }
def fnPrefixRow : OpenClaim := { program := "ytejjedooecephaa", sum := "1182163e2143763afc9c08e3d1a455ea787ae925676ffebc6c72b0427af79b1a", func := "loop.example/beat/laws.FnPrefix", spec := "fnPrefix", unfollowed := true, recurses := true, apart := false }
def FnPrefixSaid : Prop := fnPrefixRow.holds Try.pinned (OpenSpec.ofChange fnPrefixSpec)

/-- ITS FALSE NEIGHBOUR: 'it returns false'. Refute it at one input. -/
def fnPrefixWrong : ChangeSpec := { name := "fnPrefix", fn := fun _ => fun
  | [d1, d2] => { results := [.lit (.bool false)], args := [d1, d2] }
  | _ => none }
def FnPrefixWrongFalsely : Prop := fnPrefixRow.holds Try.pinned (OpenSpec.ofChange fnPrefixWrong)

/-- 'laws.FnFair': WHATEVER THE INPUT: true; the input reads as it did. -/
def fnFairSpec : ChangeSpec := { name := "fnFair", fn := fun _ => fun
  | [d] => { results := [.lit (.bool true)], args := [d] }
  | _ => none }
def fnFairRow : OpenClaim := { program := "ytejjedooecephaa", sum := "1182163e2143763afc9c08e3d1a455ea787ae925676ffebc6c72b0427af79b1a", func := "loop.example/beat/laws.FnFair", spec := "fnFair", unfollowed := true, recurses := true, apart := false }
def FnFairSaid : Prop := fnFairRow.holds Try.pinned (OpenSpec.ofChange fnFairSpec)

/-- ITS FALSE NEIGHBOUR: 'it returns false'. Refute it at one input. -/
def fnFairWrong : ChangeSpec := { name := "fnFair", fn := fun _ => fun
  | [d] => { results := [.lit (.bool false)], args := [d] }
  | _ => none }
def FnFairWrongFalsely : Prop := fnFairRow.holds Try.pinned (OpenSpec.ofChange fnFairWrong)

/-- 'laws.FnStill': WHATEVER THE INPUT: true; the input reads as it did. -/
def fnStillSpec : ChangeSpec := { name := "fnStill", fn := fun _ => fun
  | [d] => { results := [.lit (.bool true)], args := [d] }
  | _ => none }
def fnStillRow : OpenClaim := { program := "ytejjedooecephaa", sum := "1182163e2143763afc9c08e3d1a455ea787ae925676ffebc6c72b0427af79b1a", func := "loop.example/beat/laws.FnStill", spec := "fnStill", unfollowed := true, recurses := true, apart := false }
def FnStillSaid : Prop := fnStillRow.holds Try.pinned (OpenSpec.ofChange fnStillSpec)

/-- ITS FALSE NEIGHBOUR: 'it returns false'. Refute it at one input. -/
def fnStillWrong : ChangeSpec := { name := "fnStill", fn := fun _ => fun
  | [d] => { results := [.lit (.bool false)], args := [d] }
  | _ => none }
def FnStillWrongFalsely : Prop := fnStillRow.holds Try.pinned (OpenSpec.ofChange fnStillWrong)

/-- 'laws.FnExactRingAt': WHATEVER THE INPUT: true; the input reads as it did. -/
def fnExactRingAtSpec : ChangeSpec := { name := "fnExactRingAt", fn := fun _ => fun
  | [d1, d2] => { results := [.lit (.bool true)], args := [d1, d2] }
  | _ => none }
def fnExactRingAtRow : OpenClaim := { program := "ytejjedooecephaa", sum := "1182163e2143763afc9c08e3d1a455ea787ae925676ffebc6c72b0427af79b1a", func := "loop.example/beat/laws.FnExactRingAt", spec := "fnExactRingAt", unfollowed := true, recurses := true, apart := false }
def FnExactRingAtSaid : Prop := fnExactRingAtRow.holds Try.pinned (OpenSpec.ofChange fnExactRingAtSpec)

/-- ITS FALSE NEIGHBOUR: 'it returns false'. Refute it at one input. -/
def fnExactRingAtWrong : ChangeSpec := { name := "fnExactRingAt", fn := fun _ => fun
  | [d1, d2] => { results := [.lit (.bool false)], args := [d1, d2] }
  | _ => none }
def FnExactRingAtWrongFalsely : Prop := fnExactRingAtRow.holds Try.pinned (OpenSpec.ofChange fnExactRingAtWrong)

/-- 'laws.FnExactStuckAt': WHATEVER THE INPUT: true; the input reads as it did. -/
def fnExactStuckAtSpec : ChangeSpec := { name := "fnExactStuckAt", fn := fun _ => fun
  | [d1, d2] => { results := [.lit (.bool true)], args := [d1, d2] }
  | _ => none }
def fnExactStuckAtRow : OpenClaim := { program := "ytejjedooecephaa", sum := "1182163e2143763afc9c08e3d1a455ea787ae925676ffebc6c72b0427af79b1a", func := "loop.example/beat/laws.FnExactStuckAt", spec := "fnExactStuckAt", unfollowed := true, recurses := true, apart := false }
def FnExactStuckAtSaid : Prop := fnExactStuckAtRow.holds Try.pinned (OpenSpec.ofChange fnExactStuckAtSpec)

/-- ITS FALSE NEIGHBOUR: 'it returns false'. Refute it at one input. -/
def fnExactStuckAtWrong : ChangeSpec := { name := "fnExactStuckAt", fn := fun _ => fun
  | [d1, d2] => { results := [.lit (.bool false)], args := [d1, d2] }
  | _ => none }
def FnExactStuckAtWrongFalsely : Prop := fnExactStuckAtRow.holds Try.pinned (OpenSpec.ofChange fnExactStuckAtWrong)

/- THE SECOND FORM. 'bulk': how many values and letters a reading holds, each counted each time it is reached (what is shared counts as often as it is met; a slice's spare places count too). A statement '..UptoSaid' is the law's where the arguments, and the package variables that the reading takes, are together of bulk at most 1048576: NARROWER than '..Said'. Prove '..Said' where nothing that the law and all that it calls make is longer than what came in: it says more and counts as full. Else prove '..UptoSaid'. A law counts once. -/
mutual
def uptoBulk {H : Type} : DataW H → Nat
  | .lit (.string bytes) => bytes.length + 1
  | .lit _ => 1
  | .nil => 1
  | .ptr d => uptoBulk d + 1
  | .slice elems spare => uptoBulkAll elems + uptoBulkAll spare + 1
  | .agg parts => uptoBulkAll parts + 1
  | .iface _ d => uptoBulk d + 1
  | .map entries => uptoBulkEntries entries + 1
  | .held _ => 1
def uptoBulkAll {H : Type} : List (DataW H) → Nat
  | [] => 0
  | d :: r => uptoBulk d + uptoBulkAll r
def uptoBulkEntries {H : Type} : List (Lit × DataW H) → Nat
  | [] => 0
  | x :: r => uptoBulkEntry x + uptoBulkEntries r
def uptoBulkEntry {H : Type} : Lit × DataW H → Nat
  | (.string bytes, d) => bytes.length + uptoBulk d + 1
  | (_, d) => uptoBulk d + 1
 end
def uptoSmall : (H : Type) → List (DataW H) → Bool := fun _ ds => decide (uptoBulkAll ds ≤ 1048576)
def OpenSpec.upto (s : _root_.Go.ChangeSpec) : _root_.Go.OpenSpec := { _root_.Go.OpenSpec.ofChange s with cond := some uptoSmall }

/-- 'laws.FnExactConstants', WHERE WHAT IT READS IS OF BULK AT MOST 1048576: true; the input reads as it did. -/
def fnExactConstantsUptoRow : OpenClaim := { program := "ytejjedooecephaa", sum := "1182163e2143763afc9c08e3d1a455ea787ae925676ffebc6c72b0427af79b1a", func := "loop.example/beat/laws.FnExactConstants", spec := "fnExactConstants", apart := false, narrowed := true }
def FnExactConstantsUptoSaid : Prop := fnExactConstantsUptoRow.holds Try.pinned (OpenSpec.upto fnExactConstantsSpec)

/-- 'laws.FnExactInputOk', WHERE WHAT IT READS IS OF BULK AT MOST 1048576: true; the input reads as it did. -/
def fnExactInputOkUptoRow : OpenClaim := { program := "ytejjedooecephaa", sum := "1182163e2143763afc9c08e3d1a455ea787ae925676ffebc6c72b0427af79b1a", func := "loop.example/beat/laws.FnExactInputOk", spec := "fnExactInputOk", apart := false, narrowed := true }
def FnExactInputOkUptoSaid : Prop := fnExactInputOkUptoRow.holds Try.pinned (OpenSpec.upto fnExactInputOkSpec)

/-- 'laws.FnExactPlanOk', WHERE WHAT IT READS IS OF BULK AT MOST 1048576: true; the input reads as it did. -/
def fnExactPlanOkUptoRow : OpenClaim := { program := "ytejjedooecephaa", sum := "1182163e2143763afc9c08e3d1a455ea787ae925676ffebc6c72b0427af79b1a", func := "loop.example/beat/laws.FnExactPlanOk", spec := "fnExactPlanOk", unfollowed := true, recurses := true, apart := false, narrowed := true }
def FnExactPlanOkUptoSaid : Prop := fnExactPlanOkUptoRow.holds Try.pinned (OpenSpec.upto fnExactPlanOkSpec)

/-- 'laws.FnSleepers', WHERE WHAT IT READS IS OF BULK AT MOST 1048576: true; the input reads as it did. -/
def fnSleepersUptoRow : OpenClaim := { program := "ytejjedooecephaa", sum := "1182163e2143763afc9c08e3d1a455ea787ae925676ffebc6c72b0427af79b1a", func := "loop.example/beat/laws.FnSleepers", spec := "fnSleepers", unfollowed := true, recurses := true, apart := false, narrowed := true }
def FnSleepersUptoSaid : Prop := fnSleepersUptoRow.holds Try.pinned (OpenSpec.upto fnSleepersSpec)

/-- 'laws.FnPipe', WHERE WHAT IT READS IS OF BULK AT MOST 1048576: true; the input reads as it did. -/
def fnPipeUptoRow : OpenClaim := { program := "ytejjedooecephaa", sum := "1182163e2143763afc9c08e3d1a455ea787ae925676ffebc6c72b0427af79b1a", func := "loop.example/beat/laws.FnPipe", spec := "fnPipe", unfollowed := true, recurses := true, apart := false, narrowed := true }
def FnPipeUptoSaid : Prop := fnPipeUptoRow.holds Try.pinned (OpenSpec.upto fnPipeSpec)

/-- 'laws.FnRing', WHERE WHAT IT READS IS OF BULK AT MOST 1048576: true; the input reads as it did. -/
def fnRingUptoRow : OpenClaim := { program := "ytejjedooecephaa", sum := "1182163e2143763afc9c08e3d1a455ea787ae925676ffebc6c72b0427af79b1a", func := "loop.example/beat/laws.FnRing", spec := "fnRing", unfollowed := true, recurses := true, apart := false, narrowed := true }
def FnRingUptoSaid : Prop := fnRingUptoRow.holds Try.pinned (OpenSpec.upto fnRingSpec)

/-- 'laws.FnTimes', WHERE WHAT IT READS IS OF BULK AT MOST 1048576: true; the input reads as it did. -/
def fnTimesUptoRow : OpenClaim := { program := "ytejjedooecephaa", sum := "1182163e2143763afc9c08e3d1a455ea787ae925676ffebc6c72b0427af79b1a", func := "loop.example/beat/laws.FnTimes", spec := "fnTimes", unfollowed := true, recurses := true, apart := false, narrowed := true }
def FnTimesUptoSaid : Prop := fnTimesUptoRow.holds Try.pinned (OpenSpec.upto fnTimesSpec)

/-- 'laws.FnPrefix', WHERE WHAT IT READS IS OF BULK AT MOST 1048576: true; the input reads as it did. -/
def fnPrefixUptoRow : OpenClaim := { program := "ytejjedooecephaa", sum := "1182163e2143763afc9c08e3d1a455ea787ae925676ffebc6c72b0427af79b1a", func := "loop.example/beat/laws.FnPrefix", spec := "fnPrefix", unfollowed := true, recurses := true, apart := false, narrowed := true }
def FnPrefixUptoSaid : Prop := fnPrefixUptoRow.holds Try.pinned (OpenSpec.upto fnPrefixSpec)

/-- 'laws.FnFair', WHERE WHAT IT READS IS OF BULK AT MOST 1048576: true; the input reads as it did. -/
def fnFairUptoRow : OpenClaim := { program := "ytejjedooecephaa", sum := "1182163e2143763afc9c08e3d1a455ea787ae925676ffebc6c72b0427af79b1a", func := "loop.example/beat/laws.FnFair", spec := "fnFair", unfollowed := true, recurses := true, apart := false, narrowed := true }
def FnFairUptoSaid : Prop := fnFairUptoRow.holds Try.pinned (OpenSpec.upto fnFairSpec)

/-- 'laws.FnStill', WHERE WHAT IT READS IS OF BULK AT MOST 1048576: true; the input reads as it did. -/
def fnStillUptoRow : OpenClaim := { program := "ytejjedooecephaa", sum := "1182163e2143763afc9c08e3d1a455ea787ae925676ffebc6c72b0427af79b1a", func := "loop.example/beat/laws.FnStill", spec := "fnStill", unfollowed := true, recurses := true, apart := false, narrowed := true }
def FnStillUptoSaid : Prop := fnStillUptoRow.holds Try.pinned (OpenSpec.upto fnStillSpec)

/-- 'laws.FnExactRingAt', WHERE WHAT IT READS IS OF BULK AT MOST 1048576: true; the input reads as it did. -/
def fnExactRingAtUptoRow : OpenClaim := { program := "ytejjedooecephaa", sum := "1182163e2143763afc9c08e3d1a455ea787ae925676ffebc6c72b0427af79b1a", func := "loop.example/beat/laws.FnExactRingAt", spec := "fnExactRingAt", unfollowed := true, recurses := true, apart := false, narrowed := true }
def FnExactRingAtUptoSaid : Prop := fnExactRingAtUptoRow.holds Try.pinned (OpenSpec.upto fnExactRingAtSpec)

/-- 'laws.FnExactStuckAt', WHERE WHAT IT READS IS OF BULK AT MOST 1048576: true; the input reads as it did. -/
def fnExactStuckAtUptoRow : OpenClaim := { program := "ytejjedooecephaa", sum := "1182163e2143763afc9c08e3d1a455ea787ae925676ffebc6c72b0427af79b1a", func := "loop.example/beat/laws.FnExactStuckAt", spec := "fnExactStuckAt", unfollowed := true, recurses := true, apart := false, narrowed := true }
def FnExactStuckAtUptoSaid : Prop := fnExactStuckAtUptoRow.holds Try.pinned (OpenSpec.upto fnExactStuckAtSpec)

end Rows
end Go.Proofs.Ytejjedooecephaa
