/-
  Texts joined by a program (shake.py), without what the claim does not use; printed walks among them (print.sh), and own ones.
-/
import Derived.Test.YtejjedooecephaaPok11
import Derived.Test.YtejjedooecephaaChecked
section
namespace Go.Beat
open Go

noncomputable abbrev PG : Go.Program := Go.Proofs.Try.prog
def tabG : Tab := { fld := [(26, 0, 0), (26, 1, 1), (26, 2, 2), (29, 0, 0), (29, 1, 1), (29, 2, 2), (35, 0, 0), (35, 1, 1), (35, 2, 2), (39, 0, 0), (39, 1, 1), (39, 2, 2), (45, 0, 0), (45, 1, 1), (45, 2, 2), (53, 0, 0), (53, 1, 1), (53, 2, 2), (53, 3, 3), (53, 4, 4), (67, 0, 0), (67, 1, 1), (67, 2, 2), (72, 0, 0), (72, 1, 1), (72, 2, 2), (72, 3, 3), (74, 0, 0), (74, 1, 1), (74, 2, 2), (80, 0, 0), (80, 1, 1), (80, 2, 2), (80, 3, 3), (80, 4, 4), (80, 5, 5), (98, 0, 0), (100, 0, 0), (100, 1, 1), (100, 2, 2), (100, 3, 3), (100, 4, 4), (109, 0, 0), (109, 1, 3), (109, 2, 6), (109, 3, 11), (109, 4, 12), (109, 5, 13), (109, 6, 14), (109, 7, 15), (109, 8, 16), (109, 9, 17), (109, 10, 18), (116, 0, 0), (116, 1, 1), (116, 2, 2), (116, 3, 3), (116, 4, 7), (116, 5, 8), (116, 6, 9), (116, 8, 11), (116, 9, 12), (116, 10, 13), (116, 11, 14), (116, 12, 15), (121, 0, 0), (121, 1, 1), (121, 2, 2), (130, 0, 0), (130, 1, 3), (130, 2, 4), (130, 3, 5), (130, 4, 6), (130, 5, 7), (130, 6, 8), (130, 7, 9), (130, 8, 10), (130, 9, 11), (130, 10, 12), (130, 11, 13), (130, 12, 18), (130, 13, 19), (130, 14, 25), (134, 0, 0), (134, 1, 1), (134, 2, 2), (134, 3, 3), (134, 4, 4), (136, 0, 0), (136, 1, 1), (136, 2, 2), (136, 3, 3), (138, 0, 0), (138, 1, 1), (146, 0, 0), (149, 0, 0), (149, 1, 1), (149, 2, 2), (155, 0, 0), (162, 0, 0), (162, 1, 1), (162, 2, 2), (162, 3, 3), (162, 4, 4), (167, 0, 0), (167, 1, 1), (167, 2, 2), (167, 3, 3), (167, 4, 4), (171, 0, 0), (171, 1, 1), (171, 2, 2), (171, 3, 3), (171, 4, 4), (171, 5, 5), (171, 6, 6), (171, 7, 7), (178, 0, 0), (178, 1, 1), (187, 0, 0), (187, 1, 1), (187, 2, 2), (189, 0, 0), (189, 1, 1), (189, 2, 2), (192, 0, 0), (192, 1, 1), (192, 2, 2), (194, 0, 0), (194, 1, 1), (194, 2, 2), (194, 3, 3), (194, 4, 4)], sca := [2, 3, 4, 5, 23, 24, 27, 33, 37, 49, 51, 56, 64, 77, 78, 96, 104, 105, 106, 107, 110, 112, 117, 118, 119, 126, 127, 128, 131, 132, 139, 144, 164, 165, 168, 169], agg := [(26, 3), (29, 3), (35, 3), (39, 3), (45, 3), (53, 5), (67, 3), (72, 4), (74, 3), (80, 6), (98, 1), (100, 5), (114, 2), (136, 4), (138, 2), (146, 1), (149, 3), (155, 1), (178, 2), (189, 3), (192, 3), (194, 5)] }
theorem tabOk : tabG.ok PG = true := by kernel_rfl
theorem mixOk : PG.follows .mixedOrders = true := by kernel_rfl
end Go.Beat
end
section
namespace Beat

structure Step where
  op : Int
  a : Int
  b : Int
  n : Int
  size : Int
deriving DecidableEq, Inhabited, Repr

structure Plan where
  bodies : List (List Step)
  rooms : List Int
  slice : Int
deriving DecidableEq, Inhabited, Repr

structure Event where
  time : Int
  chan : Int
  num : Int
deriving DecidableEq, Inhabited, Repr

structure Input where
  feed : List Event
  ticks : Int
  until_ : Int
deriving DecidableEq, Inhabited, Repr

structure Rec where
  kind : Int
  time : Int
  task : Int
  num : Int
deriving DecidableEq, Inhabited, Repr

structure Fault where
  code : Int
  body : Int
  step : Int
deriving DecidableEq, Inhabited, Repr

structure Held where
  closed : Bool
  nums : List Int
  senders : List Int
  takers : List Int
deriving DecidableEq, Inhabited, Repr

structure Stand where
  ok : Bool
  time : Int
  ready : List Int
  states : List Int
  regs : List (List Int)
  chans : List Held
deriving DecidableEq, Inhabited, Repr

structure Report where
  code : Int
  recs : List Rec
  time : Int
  ticks : Int
  states : List Int
deriving DecidableEq, Inhabited, Repr

structure StuckRow where
  task : Int
  state : Int
  what : Int
deriving DecidableEq, Inhabited, Repr

/-- A length below this bound may grow by one. -/
def lim : Nat := 1000000
def push {α : Type} (xs : List α) (x : α) : Option (List α) := if xs.length < lim then some (xs ++ [x]) else none
def guardO (c : Prop) [Decidable c] : Option Unit := if c then some () else none


structure ITask where
  body : Int
  pc : Int := 0
  blocks : List (Int × Int) := []
  regs : List Int := [0, 0, 0, 0]
  state : Int := 0
  a : Int := 0
  op : Int := 0
  num : Int := 0
  due : Int := -1
  asked : Int := 0
  target : Int := 0
  chans : List Nat := []
  pick0 : Int := 0
  pick1 : Int := 0
deriving DecidableEq, Inhabited, Repr

structure IChan where
  room : Int
  closed : Bool := false
  nums : List Int := []
  senders : List (Int × Int) := []
  takers : List Nat := []
deriving DecidableEq, Inhabited, Repr

structure IM where
  p : Plan
  inp : Input
  code : Int := 0
  recs : List Rec := []
  time : Int := 0
  ticks : Int := 0
  states : List Int := []
  tasks : List ITask := []
  row : List Nat := []
  chans : List IChan := []
  now : Int := 0
  asks : Int := 0
  wait : Nat → List Nat := fun _ => []
  used : Int := 0
  hook : Option Int := none
  stand : Stand := { ok := false, time := 0, ready := [], states := [], regs := [], chans := [] }

def seeI (m : IM) : Stand :=
  { ok := true, time := m.now, ready := m.row.map Int.ofNat, states := m.tasks.map (·.state), regs := m.tasks.map (·.regs),
    chans := m.chans.map fun c => { closed := c.closed, nums := c.nums, senders := c.senders.map (·.1), takers := c.takers.map Int.ofNat } }

def IM.setT (m : IM) (i : Nat) (t : ITask) : IM := { m with tasks := m.tasks.set i t }
def IM.setC (m : IM) (c : Nat) (x : IChan) : IM := { m with chans := m.chans.set c x }

def IM.note (m : IM) (kind task num : Int) : Option IM := do
  let recs ← push m.recs ⟨kind, m.now, task, num⟩
  let m1 : IM := { m with recs }
  match m.hook with
  | none => some m1
  | some k => if k = (m.recs.length : Int) then some { m1 with stand := seeI m1 } else some m1

def IM.ready (m : IM) (i : Nat) : Option IM := do
  let t ← m.tasks[i]?
  let row ← push m.row i
  some { (m.setT i { t with state := 0, due := -1 }) with row := row }

def IM.spawn (m : IM) (body : Int) : Option IM := do
  let tasks ← push m.tasks { body := body }
  let row ← push m.row m.tasks.length
  some { m with tasks, row }

def setReg (regs : List Int) (a v : Int) : Option (List Int) := if 0 ≤ a ∧ a < 4 then some (regs.set a.toNat v) else none
def getReg (regs : List Int) (a : Int) : Option Int := if 0 ≤ a ∧ a < 4 then regs[a.toNat]? else none

def ITask.waited (t : ITask) (state : Int) : Option ITask := do
  let r ← setReg t.regs t.a 0
  some { t with regs := r.set 3 (if state = 6 then 1 else 0) }

def IM.finishLoop (state : Int) : List Nat → IM → Option IM
  | [], m => some m
  | k :: ks, m => do
    let t ← m.tasks[k]?
    let t1 ← t.waited state
    let m1 ← (m.setT k t1).ready k
    IM.finishLoop state ks m1

def IM.finish (m : IM) (i : Nat) (state : Int) : Option IM := do
  let t ← m.tasks[i]?
  let m1 := m.setT i { t with state }
  let m2 ← IM.finishLoop state (m1.wait i) m1
  some { m2 with wait := fun k => if k = i then [] else m2.wait k }

def IM.fail (m : IM) (i : Nat) (code : Int) : Option IM := do
  let m1 ← m.note 4 i code
  m1.finish i 7

def IM.unline (m : IM) (c i : Nat) : Option IM := do
  let x ← m.chans[c]?
  some (m.setC c { x with takers := x.takers.filter (· ≠ i) })

def IM.leaveLoop (i : Nat) : List Nat → IM → Option IM
  | [], m => some m
  | c :: cs, m => do
    let m1 ← m.unline c i
    IM.leaveLoop i cs m1

def IM.leave (m : IM) (i : Nat) : Option IM := do
  let t ← m.tasks[i]?
  let m1 ← IM.leaveLoop i t.chans m
  some (m1.setT i { t with chans := [] })

def ITask.flag (t : ITask) (c : Nat) (is : Bool) : Int := if is then (if t.op = 12 ∧ (c : Int) ≠ t.pick0 then 2 else 1) else 0

def IM.gets (m : IM) (i c : Nat) (num : Int) (is : Bool) : Option IM := do
  let t ← m.tasks[i]?
  let r ← setReg t.regs t.a num
  some (m.setT i { t with regs := r.set 3 (t.flag c is) })

def IM.send (m : IM) (c : Nat) (num : Int) : Option (IM × Bool) := do
  let x ← m.chans[c]?
  match x.takers with
  | k :: _ =>
    let m1 ← m.leave k
    let m2 ← m1.gets k c num true
    let m3 ← m2.ready k
    some (m3, true)
  | [] =>
    if (x.nums.length : Int) < x.room then do
      let nums ← push x.nums num
      some (m.setC c { x with nums }, true)
    else some (m, false)

def IM.readyIf (m : IM) (t : Int) : Option IM := if 0 ≤ t then m.ready t.toNat else some m

def IM.take (m : IM) (c : Nat) : Option (IM × Int × Bool) := do
  let x ← m.chans[c]?
  match x.nums, x.senders with
  | n :: ns, [] => some (m.setC c { x with nums := ns }, n, true)
  | n :: ns, w :: ws => do
    let nums ← push ns w.2
    let m1 ← (m.setC c { x with nums, senders := ws }).readyIf w.1
    some (m1, n, true)
  | [], w :: ws => do
    let m1 ← (m.setC c { x with senders := ws }).readyIf w.1
    some (m1, w.2, true)
  | [], [] => some (m, 0, false)

def IM.closeFail : List (Int × Int) → IM → Option IM
  | [], m => some m
  | w :: ws, m =>
    if 0 ≤ w.1 then do
      let m1 ← m.note 4 w.1 4
      let m2 ← m1.finish w.1.toNat 7
      IM.closeFail ws m2
    else IM.closeFail ws m

def IM.closeTake (c : Nat) : List Nat → IM → Option IM
  | [], m => some m
  | k :: ks, m => do
    let t ← m.tasks[k]?
    let rest := t.chans.filter (· ≠ c)
    let m1 ← m.unline c k
    let m2 := m1.setT k { t with chans := rest }
    if rest.length > 0 then IM.closeTake c ks m2
    else do
      let m3 ← m2.gets k c 0 false
      let m4 ← m3.ready k
      IM.closeTake c ks m4

def IM.close (m : IM) (c : Nat) : Option IM := do
  let x ← m.chans[c]?
  let m1 := m.setC c { x with closed := true, senders := [], takers := [] }
  let m2 ← IM.closeFail x.senders m1
  IM.closeTake c x.takers m2

def IM.lineLoop (i : Nat) : List Nat → IM → Option IM
  | [], m => some m
  | c :: cs, m => do
    let t ← m.tasks[i]?
    if c ∈ t.chans then IM.lineLoop i cs m
    else do
      let chans ← push t.chans c
      let x ← m.chans[c]?
      let takers ← push x.takers i
      IM.lineLoop i cs ((m.setT i { t with chans }).setC c { x with takers })

def IM.line (m : IM) (i : Nat) (cs : List Nat) : Option IM := do
  let t ← m.tasks[i]?
  IM.lineLoop i cs (m.setT i { t with state := 5 })

def ITask.block (t : ITask) (c : Bool) (at_ size : Int) : Option ITask :=
  if c then do
    let _ ← push t.blocks (at_, at_ + 1 + size)
    some { t with blocks := (at_, at_ + 1 + size) :: t.blocks }
  else some { t with pc := at_ + 1 + size }

/-- 'step', behind its four first assignments; t: the task as it stands then. -/
def IM.act (m : IM) (i : Nat) (t : ITask) (at_ : Int) (s : Step) : Option IM :=
  if s.op = 1 then do
    let r ← setReg t.regs s.a s.n
    some (m.setT i { t with regs := r })
  else if s.op = 2 then do
    let v ← getReg t.regs s.b
    let r ← setReg t.regs s.a ((v + s.n + 9223372036854775808) % 18446744073709551616 - 9223372036854775808)
    some (m.setT i { t with regs := r })
  else if s.op = 3 then do
    let v ← getReg t.regs s.a
    m.note 2 i v
  else if s.op = 4 then do
    let r ← setReg t.regs s.a m.now
    some (m.setT i { t with regs := r })
  else if s.op = 5 then do
    let v ← getReg t.regs s.a
    if v < 0 ∨ v > 1000000 then m.fail i 2
    else some (m.setT i { t with state := 2, due := m.now + v })
  else if s.op = 6 then m.ready i
  else if s.op = 7 then
    if m.tasks.length = 50 then m.fail i 1
    else do
      let m1 ← m.spawn s.b
      let r ← setReg t.regs s.a ((m1.tasks.length : Int) - 1)
      some (m1.setT i { t with regs := r })
  else if s.op = 8 then do
    let v ← getReg t.regs s.a
    if v < 0 ∨ v ≥ (m.tasks.length : Int) then m.fail i 3
    else do
      let u ← m.tasks[v.toNat]?
      if u.state = 6 ∨ u.state = 7 then do
        let t1 ← t.waited u.state
        some (m.setT i t1)
      else do
        let l ← push (m.wait v.toNat) i
        some { (m.setT i { t with state := 3, target := v }) with wait := fun k => if k = v.toNat then l else m.wait k }
  else if s.op = 9 then do
    guardO (0 ≤ s.b)
    let x ← m.chans[s.b.toNat]?
    if x.closed then m.fail i 4
    else do
      let v ← getReg t.regs s.a
      let (m1, ok) ← m.send s.b.toNat v
      if ok then some m1
      else do
        let t1 ← m1.tasks[i]?
        let x1 ← m1.chans[s.b.toNat]?
        let v1 ← getReg t1.regs s.a
        let senders ← push x1.senders ((i : Int), v1)
        some ((m1.setT i { t1 with state := 4, target := s.b }).setC s.b.toNat { x1 with senders })
  else if s.op = 10 ∨ s.op = 11 then do
    guardO (0 ≤ s.b)
    let (m1, n, ok) ← m.take s.b.toNat
    let x ← m1.chans[s.b.toNat]?
    if ok ∨ x.closed ∨ (s.op = 11 ∧ s.n = 0) then m1.gets i s.b.toNat n ok
    else do
      let t1 ← m1.tasks[i]?
      let m2 := if s.op = 11 then m1.setT i { t1 with due := m1.now + s.n } else m1
      m2.line i [s.b.toNat]
  else if s.op = 12 then do
    guardO (0 ≤ s.b ∧ 0 ≤ s.n)
    let c := s.b.toNat
    let d := s.n.toNat
    let m0 := m.setT i { t with pick0 := s.b, pick1 := s.n }
    let (m1, n, ok) ← m0.take c
    if ok then m1.gets i c n true
    else do
      let (m2, n2, ok2) ← m1.take d
      if ok2 then m2.gets i d n2 true
      else do
        let xc ← m2.chans[c]?
        let xd ← m2.chans[d]?
        let open_ := (if xc.closed then [] else [c]) ++ (if xd.closed then [] else [d])
        if open_.length = 0 then m2.gets i c 0 false
        else m2.line i open_
  else if s.op = 13 then do
    guardO (0 ≤ s.b)
    let x ← m.chans[s.b.toNat]?
    if x.closed then m.fail i 5 else m.close s.b.toNat
  else if s.op = 14 then do
    let m1 ← m.note 3 i 0
    m1.finish i 6
  else if s.op = 15 then do
    let v ← getReg t.regs s.a
    if v > 0 then do
      let r ← setReg t.regs s.a (v - 1)
      let t1 ← ({ t with regs := r }).block true at_ s.size
      some (m.setT i t1)
    else do
      let t1 ← t.block false at_ s.size
      some (m.setT i t1)
  else if s.op = 16 then do
    let v ← getReg t.regs s.a
    let t1 ← t.block (decide (v ≠ 0)) at_ s.size
    some (m.setT i t1)
  else some m

def IM.step (m : IM) (i : Nat) (s : Step) : Option IM := do
  let t ← m.tasks[i]?
  let t1 : ITask := { t with pc := t.pc + 1, a := s.a, op := s.op, asked := m.asks + 1 }
  ((IM.setT { m with asks := m.asks + 1 } i t1)).act i t1 t.pc s

/-- The blocks that end here are left; a loop's head is gone to. -/
def popBlocks (steps : List Step) : List (Int × Int) → Int → Option (List (Int × Int) × Int)
  | [], pc => some ([], pc)
  | b :: bs, pc =>
    if pc = b.2 then
      if 0 ≤ b.1 then
        match steps[b.1.toNat]? with
        | none => none
        | some s => if s.op = 15 then some (bs, b.1) else popBlocks steps bs pc
      else none
    else some (b :: bs, pc)

/-- A turn's rounds. none: out of fuel, or Go panics; a code: 'panic(over{code})'. -/
def IM.rounds (i : Nat) (steps : List Step) : Nat → IM → Option (IM × Option Int)
  | 0, _ => none
  | fuel + 1, m => do
    let t ← m.tasks[i]?
    if t.state ≠ 1 then some (m, none)
    else if m.used = m.p.slice then do
      let m1 ← m.ready i
      some (m1, none)
    else do
      let (bs, pc) ← popBlocks steps t.blocks t.pc
      let m1 := m.setT i { t with blocks := bs, pc := pc }
      if pc = (steps.length : Int) then do
        let m2 ← m1.note 3 i 0
        let m3 ← m2.finish i 6
        some (m3, none)
      else if m1.ticks = m1.inp.ticks then some (m1, some 2)
      else do
        guardO (0 ≤ pc)
        let s ← steps[pc.toNat]?
        let m2 ← IM.step { m1 with ticks := m1.ticks + 1, used := m1.used + 1 } i s
        IM.rounds i steps fuel m2

def IM.turn (fuel : Nat) (m : IM) (i : Nat) : Option (IM × Option Int) := do
  let t ← m.tasks[i]?
  let m1 ← (m.setT i { t with state := 1 }).note 1 i 0
  guardO (0 ≤ t.body)
  let steps ← m.p.bodies[t.body.toNat]?
  IM.rounds i steps fuel { m1 with used := 0 }

def minDue : List ITask → Int → Int
  | [], next => next
  | t :: ts, next => minDue ts (if t.due ≥ 0 ∧ (next < 0 ∨ t.due < next) then t.due else next)

def pickDue (now : Int) (all : List ITask) : List ITask → Nat → Int → Option Int
  | [], _, k => some k
  | t :: ts, i, k =>
    if t.due ≥ 0 ∧ t.due ≤ now then
      if k < 0 then pickDue now all ts (i + 1) i
      else match all[k.toNat]? with
        | none => none
        | some u => if t.asked < u.asked then pickDue now all ts (i + 1) i else pickDue now all ts (i + 1) k
    else pickDue now all ts (i + 1) k

def IM.wakeDue : Nat → IM → Option IM
  | 0, _ => none
  | fuel + 1, m => do
    let k ← pickDue m.now m.tasks m.tasks 0 (-1)
    if k < 0 then some m
    else do
      let t ← m.tasks[k.toNat]?
      if t.state = 5 then do
        let c ← t.chans.head?
        let m1 ← m.leave k.toNat
        let m2 ← m1.gets k.toNat c 0 false
        let m3 ← m2.ready k.toNat
        IM.wakeDue fuel m3
      else do
        let m3 ← m.ready k.toNat
        IM.wakeDue fuel m3

def IM.feedAll : List Event → Nat → IM → Option (IM × Nat)
  | [], fed, m => some (m, fed)
  | e :: es, fed, m =>
    if e.time ≤ m.now then do
      let m1 ← m.note 6 (-1) e.num
      guardO (0 ≤ e.chan)
      let x ← m1.chans[e.chan.toNat]?
      if x.closed then IM.feedAll es (fed + 1) m1
      else do
        let (m2, ok) ← m1.send e.chan.toNat e.num
        if ok then IM.feedAll es (fed + 1) m2
        else do
          let x2 ← m2.chans[e.chan.toNat]?
          let senders ← push x2.senders (-1, e.num)
          IM.feedAll es (fed + 1) (m2.setC e.chan.toNat { x2 with senders })
    else some (m, fed)

def waiting (s : Int) : Bool := s = 3 ∨ s = 4 ∨ s = 5

def IM.pass (fuel : Nat) (m : IM) (fed : Nat) : Option (IM × Nat × Option Int) := do
  let next0 := minDue m.tasks (-1)
  let next1 := match m.inp.feed[fed]? with
    | some e => if next0 < 0 ∨ e.time < next0 then e.time else next0
    | none => next0
  if next1 < 0 then some (m, fed, some (if m.tasks.any (fun t => waiting t.state) then 1 else 0))
  else do
    let next := if next1 < m.now then m.now else next1
    if next > m.inp.until_ then some (m, fed, some 4)
    else do
      let m1 ← if next > m.now then IM.note { m with now := next } 5 (-1) 0 else some m
      let m2 ← IM.wakeDue fuel m1
      let (m3, fed3) ← IM.feedAll (m2.inp.feed.drop fed) fed m2
      some (m3, fed3, none)




end Beat
end
section
namespace Go.Beat
open Go _root_.Beat

abbrev i64 (n : Int) : Value := .int .i64 n

inductive TI where
  | mach | recs | states | tasks | row | chans | wmap
  | task (i : Nat) | tblocks (i : Nat) | tchans (i : Nat)
  | chan (c : Nat) | nums (c : Nat) | senders (c : Nat) | takers (c : Nat)
  | waitL (k : Nat)
deriving DecidableEq


/-- What the machine's own cells hold besides: the arguments' slices, the map's block, the hook. -/
structure GI where
  bv : Value
  rv : Value
  fv : Value
  wb : Nat
  hv : Value

def encRec (r : Rec) : List Value := [i64 r.kind, i64 r.time, i64 r.task, i64 r.num]
def encRecs (rs : List Rec) : List Value := rs.flatMap encRec
def encPairs (ps : List (Int × Int)) : List Value := ps.flatMap fun p => [i64 p.1, i64 p.2]
def encInts (xs : List Int) : List Value := xs.map i64
def encNats (xs : List Nat) : List Value := xs.map fun (x : Nat) => i64 (Int.ofNat x)

def encMach (G : GI) (S : Sto TI) (m : IM) : List Value :=
  [G.bv, G.rv, i64 m.p.slice, G.fv, i64 m.inp.ticks, i64 m.inp.until_, i64 m.code, S.sv .recs m.recs.length, i64 m.time, i64 m.ticks, S.sv .states m.states.length,
   S.sv .tasks m.tasks.length, S.sv .row m.row.length, S.sv .chans m.chans.length, i64 m.now, i64 m.asks, .map (some G.wb), i64 m.used, G.hv]

def encTask (S : Sto TI) (i : Nat) (t : ITask) : List Value :=
  [i64 t.body, i64 t.pc, S.sv (.tblocks i) t.blocks.length, i64 (t.regs.getD 0 0), i64 (t.regs.getD 1 0), i64 (t.regs.getD 2 0), i64 (t.regs.getD 3 0), i64 t.state, i64 t.a, i64 t.op, i64 t.num,
   i64 t.due, i64 t.asked, i64 t.target, S.sv (.tchans i) t.chans.length, i64 t.pick0, i64 t.pick1]

def encChan (S : Sto TI) (c : Nat) (x : IChan) : List Value :=
  [i64 x.room, .bool x.closed, S.sv (.nums c) x.nums.length, S.sv (.senders c) x.senders.length, S.sv (.takers c) x.takers.length]

def encPtrs (S : Sto TI) (f : Nat → TI) (n : Nat) : List Value := (List.range n).map fun i => S.p (f i)

def contI (G : GI) (S : Sto TI) (m : IM) : Cont TI
  | .mach => some (encMach G S m)
  | .recs => some (encRecs m.recs)
  | .states => some (encInts m.states)
  | .tasks => some (encPtrs S .task m.tasks.length)
  | .row => some (encNats m.row)
  | .chans => some (encPtrs S .chan m.chans.length)
  | .wmap => none
  | .task i => (m.tasks[i]?).map fun t => encTask S i t
  | .tblocks i => (m.tasks[i]?).map fun t => encPairs t.blocks.reverse
  | .tchans i => (m.tasks[i]?).map fun t => encNats t.chans
  | .chan c => (m.chans[c]?).map fun x => encChan S c x
  | .nums c => (m.chans[c]?).map fun x => encInts x.nums
  | .senders c => (m.chans[c]?).map fun x => encPairs x.senders
  | .takers c => (m.chans[c]?).map fun x => encNats x.takers
  | .waitL k => some (encNats (m.wait k))

/-- A block that holds a map. -/
structure MapAt {τ : Type} (S : Sto τ) (w : World) (b : Nat) (es : Array MapEntry) (cl : Nat) : Prop where
  hb : w.heap[b]? = some (Obj.map es cl)
  own : S.own b ≠ none

/-- The map of who waits for whom. -/
def Entries (S : Sto TI) (wait : Nat → List Nat) (es : Array MapEntry) : Prop :=
  (∀ e ∈ es.toList, ∃ k : Nat, e.key = i64 k ∧ e.val = S.sv (.waitL k) (wait k).length) ∧
  (∀ k : Nat, (∀ e ∈ es.toList, e.key ≠ i64 k) → wait k = [] ∧ (S.loc (.waitL k)).nil = true)
theorem Entries.congr {S S' : Sto TI} {wait : Nat → List Nat} {es : Array MapEntry} (h : Entries S wait es) (e : ∀ k, S'.loc (.waitL k) = S.loc (.waitL k)) : Entries S' wait es := by
  refine ⟨fun x hx => ?_, fun k hk => ?_⟩
  · obtain ⟨k, h1, h2⟩ := h.1 x hx
    exact ⟨k, h1, by rw [h2]; simp [Sto.sv, e]⟩
  · rw [e]
    exact h.2 k hk

structure RI (G : GI) (S : Sto TI) (m : IM) (w : World) : Prop where
  H : Holds MI S w.heap (contI G S m)
  fresh : Fresh S w
  regs : ∀ (i : Nat) (t : ITask), m.tasks[i]? = some t → t.regs.length = 4
  map : ∃ es cl, MapAt S w G.wb es cl ∧ Entries S m.wait es

/-- Pointers stay. -/
structure Stab (S S' : Sto TI) (m : IM) : Prop where
  mach : S'.loc .mach = S.loc .mach
  task : ∀ i, i < m.tasks.length → S'.loc (.task i) = S.loc (.task i)
  chan : ∀ c, S'.loc (.chan c) = S.loc (.chan c)

end Go.Beat
end
section
namespace Go.Beat
open Go _root_.Beat

/-- A block known whole, that nobody owns. -/
structure RawAt {τ : Type} (S : Sto τ) (w : World) (b : Nat) (cells : Array Value) (e : TypeId) : Prop where
  hb : w.heap[b]? = some (.cells cells e (0, 0))
  own : S.own b = none
theorem raw_same {τ : Type} {S : Sto τ} {w w' : World} {b : Nat} {cells : Array Value} {e : TypeId} (hs : SameH w w') (r : RawAt S w b cells e) : RawAt S w' b cells e := ⟨by rw [hs.heap]; exact r.hb, r.own⟩
theorem raw_kp {τ : Type} {S S' : Sto τ} {w w' : World} {b : Nat} {cells : Array Value} {e : TypeId} (k : Kp S w S' w') (r : RawAt S w b cells e) : RawAt S' w' b cells e :=
  have hlt : b < w.heap.size := (Array.getElem?_eq_some_iff.1 r.hb).1
  ⟨(k.keep b hlt r.own).trans r.hb, (k.own b hlt).2 r.own⟩



end Go.Beat
end
