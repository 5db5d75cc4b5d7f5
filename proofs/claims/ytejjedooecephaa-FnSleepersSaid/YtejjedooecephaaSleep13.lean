/-
  Texts joined by a program (shake.py), without what the claim does not use; printed walks among them (print.sh), and own ones.
-/
import Derived.Test.YtejjedooecephaaSleep6
section
namespace Beat
structure Step where
  op:Int
  a:Int
  b:Int
  n:Int
  size:Int
deriving DecidableEq,Inhabited,Repr
structure Plan where
  bodies:List (List Step)
  rooms:List Int
  slice:Int
deriving DecidableEq,Inhabited,Repr
structure Event where
  time:Int
  chan:Int
  num:Int
deriving DecidableEq,Inhabited,Repr
structure Input where
  feed:List Event
  ticks:Int
  until_:Int
deriving DecidableEq,Inhabited,Repr
structure Rec where
  kind:Int
  time:Int
  task:Int
  num:Int
deriving DecidableEq,Inhabited,Repr
structure Fault where
  code:Int
  body:Int
  step:Int
deriving DecidableEq,Inhabited,Repr
structure Held where
  closed:Bool
  nums:List Int
  senders:List Int
  takers:List Int
deriving DecidableEq,Inhabited,Repr
structure Stand where
  ok:Bool
  time:Int
  ready:List Int
  states:List Int
  regs:List (List Int)
  chans:List Held
deriving DecidableEq,Inhabited,Repr
structure Report where
  code:Int
  recs:List Rec
  time:Int
  ticks:Int
  states:List Int
deriving DecidableEq,Inhabited,Repr
structure StuckRow where
  task:Int
  state:Int
  what:Int
deriving DecidableEq,Inhabited,Repr
def lim:Nat:=1000000
def push {α:Type}(xs:List α)(x:α):Option (List α):=if xs.length<lim then some (xs++[x]) else none
def guardO (c:Prop)[Decidable c]:Option Unit:=if c then some () else none
structure ITask where
  body:Int
  pc:Int:=0
  blocks:List (Int×Int):=[]
  regs:List Int:=[0,0,0,0]
  state:Int:=0
  a:Int:=0
  op:Int:=0
  num:Int:=0
  due:Int:= -1
  asked:Int:=0
  target:Int:=0
  chans:List Nat:=[]
  pick0:Int:=0
  pick1:Int:=0
deriving DecidableEq,Inhabited,Repr
structure IChan where
  room:Int
  closed:Bool:=false
  nums:List Int:=[]
  senders:List (Int×Int):=[]
  takers:List Nat:=[]
deriving DecidableEq,Inhabited,Repr
structure IM where
  p:Plan
  inp:Input
  code:Int:=0
  recs:List Rec:=[]
  time:Int:=0
  ticks:Int:=0
  states:List Int:=[]
  tasks:List ITask:=[]
  row:List Nat:=[]
  chans:List IChan:=[]
  now:Int:=0
  asks:Int:=0
  wait:Nat→List Nat:=fun _=>[]
  used:Int:=0
  hook:Option Int:=none
  stand:Stand:={ok:=false,time:=0,ready:=[],states:=[],regs:=[],chans:=[]}
  arg:List Nat:=[]
  fed:Option Int:=none
def seeI (m : IM) : Stand :=
  { ok := true, time := m.now, ready := m.row.map Int.ofNat, states := m.tasks.map (·.state), regs := m.tasks.map (·.regs),
    chans := m.chans.map fun c => { closed := c.closed, nums := c.nums, senders := c.senders.map (·.1), takers := c.takers.map Int.ofNat } }

def IM.setT (m:IM)(i:Nat)(t:ITask):IM:={m with tasks:=m.tasks.set i t}
def IM.setC (m:IM)(c:Nat)(x:IChan):IM:={m with chans:=m.chans.set c x}
def IM.wCode (m:IM)(x:Int):IM:={m with code:=x}
def IM.wTime (m:IM)(x:Int):IM:={m with time:=x}
def IM.wTicks (m:IM)(x:Int):IM:={m with ticks:=x}
def IM.wNow (m:IM)(x:Int):IM:={m with now:=x}
def IM.wAsks (m:IM)(x:Int):IM:={m with asks:=x}
def IM.wUsed (m:IM)(x:Int):IM:={m with used:=x}
def IM.wRecs (m:IM)(x:List Rec):IM:={m with recs:=x}
def IM.wStates (m:IM)(x:List Int):IM:={m with states:=x}
def IM.wRow (m:IM)(x:List Nat):IM:={m with row:=x}
def IM.wTasks (m:IM)(x:List ITask):IM:={m with tasks:=x}
def updW (wait:Nat→List Nat)(i:Nat)(l:List Nat):Nat→List Nat:=fun k=>if k=i then l else wait k
theorem updW_same (wait:Nat→List Nat)(i:Nat)(l:List Nat):updW wait i l i=l:=by simp[updW]
theorem updW_ne (wait:Nat→List Nat){i k:Nat}(l:List Nat)(h:k≠i):updW wait i l k=wait k:=by simp[updW,h]
def IM.wWait (m:IM)(i:Nat)(l:List Nat):IM:={m with wait:=updW m.wait i l}
def IM.wArg (m:IM)(x:List Nat):IM:={m with arg:=x}
def IM.wFed (m:IM)(x:Option Int):IM:={m with fed:=x}
def IM.wChansL (m:IM)(x:List IChan):IM:={m with chans:=x}
def IM.wStand (m:IM)(s:Stand):IM:={m with stand:=s}
def ITask.wBody (t:ITask)(x:Int):ITask:={t with body:=x}
def ITask.wPc (t:ITask)(x:Int):ITask:={t with pc:=x}
def ITask.wState (t:ITask)(x:Int):ITask:={t with state:=x}
def ITask.wA (t:ITask)(x:Int):ITask:={t with a:=x}
def ITask.wOp (t:ITask)(x:Int):ITask:={t with op:=x}
def ITask.wNum (t:ITask)(x:Int):ITask:={t with num:=x}
def ITask.wDue (t:ITask)(x:Int):ITask:={t with due:=x}
def ITask.wAsked (t:ITask)(x:Int):ITask:={t with asked:=x}
def ITask.wTarget (t:ITask)(x:Int):ITask:={t with target:=x}
def ITask.wBlocks (t:ITask)(x:List (Int×Int)):ITask:={t with blocks:=x}
def ITask.wChans (t:ITask)(x:List Nat):ITask:={t with chans:=x}
def ITask.wRegs (t:ITask)(x:List Int):ITask:={t with regs:=x}
def ITask.wPick (t:ITask)(x y:Int):ITask:={t with pick0:=x,pick1:=y}
def IChan.wClosed (c:IChan)(x:Bool):IChan:={c with closed:=x}
def IChan.wNums (c:IChan)(x:List Int):IChan:={c with nums:=x}
def IChan.wSenders (c:IChan)(x:List (Int×Int)):IChan:={c with senders:=x}
def IChan.wTakers (c:IChan)(x:List Nat):IChan:={c with takers:=x}
def w64 (x:Int):Int:=Go.IntKind.i64.wrap x
def IM.note (m:IM)(kind task num:Int):Option IM:=do
 let recs ←push m.recs ⟨kind,m.now,task,num⟩
 let m1:=m.wRecs recs
 match m.hook with
 |none=>some m1
 |some k=>if k=(m.recs.length:Int) then some (m1.wStand (seeI m1)) else some m1
def IM.ready (m:IM)(i:Nat):Option IM:=do
 let t ←m.tasks[i]?
 let row ←push m.row i
 some ((m.setT i ((t.wState 0).wDue (-1))).wRow row)
def IM.spawn (m:IM)(body:Int):Option IM:=do
 let tasks ←push m.tasks {body:=body}
 let row ←push m.row m.tasks.length
 some ((m.wTasks tasks).wRow row)
def ITask.setR (t:ITask)(a v:Int):Option ITask:=if 0≤a∧a<4∧t.regs.length=4 then some (t.wRegs (t.regs.set a.toNat v)) else none
def ITask.getR (t:ITask)(a:Int):Option Int:=if 0≤a∧a<4 then t.regs[a.toNat]? else none
def ITask.waited (t:ITask)(state:Int):Option ITask:=do
 let t1 ←t.setR t.a 0
 let t2 ←t1.setR 3 0
 if state=6 then t2.setR 3 1 else some t2
def IM.waited (m:IM)(k:Nat)(state:Int):Option IM:=do
 let t ←m.tasks[k]?
 let t1 ←t.waited state
 some (m.setT k t1)
def IM.finishLoop (state:Int):List Nat→IM→Option IM
 |[],m=>some m
 |k::ks,m=>do
  let m1 ←m.waited k state
  let m2 ←m1.ready k
  IM.finishLoop state ks m2
def IM.finish (m:IM)(i:Nat)(state:Int):Option IM:=do
 let t ←m.tasks[i]?
 let m1:=m.setT i (t.wState state)
 guardO ((m1.wait i).length<1000000)
 let m2 ←IM.finishLoop state (m1.wait i) m1
 some (m2.wWait i [])
def IM.fail (m:IM)(i:Nat)(code:Int):Option IM:=do
 let m1 ←m.note 4 i code
 m1.finish i 7
def without (xs:List Nat)(i:Nat):List Nat:=xs.filter (·≠i)
def IM.unline (m:IM)(c i:Nat):Option IM:=do
 let x ←m.chans[c]?
 guardO (x.takers.length<1000000)
 some (m.setC c (x.wTakers (without x.takers i)))
def IM.leaveLoop (i:Nat):List Nat→IM→Option IM
 |[],m=>some m
 |c::cs,m=>do
  let m1 ←m.unline c i
  IM.leaveLoop i cs m1
def IM.leave (m:IM)(i:Nat):Option IM:=do
 let t ←m.tasks[i]?
 guardO (t.chans.length<1000000)
 let m1 ←IM.leaveLoop i t.chans m
 let t1 ←m1.tasks[i]?
 some (m1.setT i (t1.wChans []))
def ITask.flag (t:ITask)(c:Nat)(is:Bool):Int:=if is then (if t.op=12∧(c:Int)≠t.pick0 then 2 else 1) else 0
def IM.gets (m:IM)(i c:Nat)(num:Int)(is:Bool):Option IM:=do
 let t ←m.tasks[i]?
 let t1 ←t.setR t.a num
 let t2 ←t1.setR 3 (t.flag c is)
 some (m.setT i t2)
def IM.send (m:IM)(c:Nat)(num:Int):Option (IM×Bool):=do
 let x ←m.chans[c]?
 match x.takers with
 |k::_=>
  let m1 ←m.leave k
  let m2 ←m1.gets k c num true
  let m3 ←m2.ready k
  some (m3,true)
 |[]=>
  if (x.nums.length:Int)<x.room then do
   let nums ←push x.nums num
   some (m.setC c (x.wNums nums),true)
  else some (m,false)
def IM.readyIf (m:IM)(t:Int):Option IM:=if 0≤t then m.ready t.toNat else some m
def IM.take (m:IM)(c:Nat):Option (IM×Int×Bool):=do
 let x ←m.chans[c]?
 guardO (x.nums.length<1000000∧x.senders.length<1000000)
 match x.nums,x.senders with
 |n::ns,[]=>some (m.setC c (x.wNums ns),n,true)
 |n::ns,w::ws=>do
  let nums ←push ns w.2
  let m1 ←(m.setC c ((x.wNums nums).wSenders ws)).readyIf w.1
  some (m1,n,true)
 |[],w::ws=>do
  let m1 ←(m.setC c (x.wSenders ws)).readyIf w.1
  some (m1,w.2,true)
 |[],[]=>some (m,0,false)
def IM.closeFail:List (Int×Int)→IM→Option IM
 |[],m=>some m
 |w::ws,m=>
  if 0≤w.1 then do
   let m1 ←m.note 4 w.1 4
   let m2 ←m1.finish w.1.toNat 7
   IM.closeFail ws m2
  else IM.closeFail ws m
def IM.closeTake (c:Nat):List Nat→IM→Option IM
 |[],m=>some m
 |k::ks,m=>do
  let t ←m.tasks[k]?
  guardO (t.chans.length<1000000)
  let rest:=without t.chans c
  let m1 ←m.unline c k
  let t1 ←m1.tasks[k]?
  let m2:=m1.setT k (t1.wChans rest)
  if rest.length>0 then IM.closeTake c ks m2
  else do
   let m3 ←m2.gets k c 0 false
   let m4 ←m3.ready k
   IM.closeTake c ks m4
def IM.close (m:IM)(c:Nat):Option IM:=do
 let x ←m.chans[c]?
 guardO (x.senders.length<1000000∧x.takers.length<1000000)
 let m1:=m.setC c (((x.wClosed true).wSenders []).wTakers [])
 let m2 ←IM.closeFail x.senders m1
 IM.closeTake c x.takers m2
def IM.lineLoop (i:Nat):List Nat→IM→Option IM
 |[],m=>some m
 |c::cs,m=>do
  let t ←m.tasks[i]?
  guardO (t.chans.length<1000000)
  if c∈t.chans then IM.lineLoop i cs m
  else do
   let chans ←push t.chans c
   let m1:=m.setT i (t.wChans chans)
   let x ←m1.chans[c]?
   let takers ←push x.takers i
   IM.lineLoop i cs (m1.setC c (x.wTakers takers))
def IM.line (m:IM)(i:Nat)(cs:List Nat):Option IM:=do
 let t ←m.tasks[i]?
 IM.lineLoop i cs (m.setT i (t.wState 5))
def ITask.block (t:ITask)(c:Bool)(at_ size:Int):Option ITask:=
 if c then do
  let _ ←push t.blocks (at_,w64 (w64 (at_+1)+size))
  some (t.wBlocks ((at_,w64 (w64 (at_+1)+size))::t.blocks))
 else some (t.wPc (w64 (w64 (at_+1)+size)))
def chanNo (b:Int):Option Nat:=if 0≤b then some b.toNat else none
def IM.act (m:IM)(i:Nat)(t:ITask)(at_:Int)(s:Step):Option IM:=
 if s.op=1 then do
  let t1 ←t.setR s.a s.n
  some (m.setT i t1)
 else if s.op=2 then do
  let v ←t.getR s.b
  let t1 ←t.setR s.a (w64 (v+s.n))
  some (m.setT i t1)
 else if s.op=3 then do
  let v ←t.getR s.a
  m.note 2 i v
 else if s.op=4 then do
  let t1 ←t.setR s.a m.now
  some (m.setT i t1)
 else if s.op=5 then do
  let v ←t.getR s.a
  if v<0∨1000000<v then m.fail i 2
  else some (m.setT i ((t.wState 2).wDue (w64 (m.now+v))))
 else if s.op=6 then m.ready i
 else if s.op=7 then
  if m.tasks.length=50 then m.fail i 1
  else do
   let m1 ←m.spawn s.b
   let t1 ←m1.tasks[i]?
   let t2 ←t1.setR s.a (w64 ((m1.tasks.length:Int) - 1))
   some (m1.setT i t2)
 else if s.op=8 then do
  let v ←t.getR s.a
  if v<0∨(m.tasks.length:Int)≤v then m.fail i 3
  else do
   let u ←m.tasks[v.toNat]?
   if u.state=6∨u.state=7 then m.waited i u.state
   else do
    let l ←push (m.wait v.toNat) i
    some ((m.setT i ((t.wState 3).wTarget v)).wWait v.toNat l)
 else if s.op=9 then do
  let c ←chanNo s.b
  let x ←m.chans[c]?
  if x.closed then m.fail i 4
  else do
   let v ←t.getR s.a
   let (m1,ok) ←m.send c v
   if ok then some m1
   else do
    let t1 ←m1.tasks[i]?
    let m2:=m1.setT i ((t1.wState 4).wTarget s.b)
    let x1 ←m2.chans[c]?
    let v1 ←t1.getR s.a
    let senders ←push x1.senders ((i:Int),v1)
    some (m2.setC c (x1.wSenders senders))
 else if s.op=10∨s.op=11 then do
  let c ←chanNo s.b
  let (m1,n,ok) ←m.take c
  let x ←m1.chans[c]?
  if ok∨x.closed∨(s.op=11∧s.n=0) then m1.gets i c n ok
  else do
   let t1 ←m1.tasks[i]?
   let m2:=if s.op=11 then m1.setT i (t1.wDue (w64 (m1.now+s.n))) else m1
   m2.line i [c]
 else if s.op=12 then do
  let c ←chanNo s.b
  let d ←chanNo s.n
  let m0:=m.setT i (t.wPick s.b s.n)
  let (m1,n,ok) ←m0.take c
  if ok then m1.gets i c n true
  else do
   let (m2,n2,ok2) ←m1.take d
   if ok2 then m2.gets i d n2 true
   else do
    let xc ←m2.chans[c]?
    let xd ←m2.chans[d]?
    let open_:=(if xc.closed then [] else [c])++(if xd.closed then [] else [d])
    if open_.length=0 then m2.gets i c 0 false
    else m2.line i open_
 else if s.op=13 then do
  let c ←chanNo s.b
  let x ←m.chans[c]?
  if x.closed then m.fail i 5 else m.close c
 else if s.op=14 then do
  let m1 ←m.note 3 i 0
  m1.finish i 6
 else if s.op=15 then do
  let v ←t.getR s.a
  if 0<v then do
   let t0 ←t.setR s.a (w64 (v - 1))
   let t1 ←t0.block true at_ s.size
   some (m.setT i t1)
  else do
   let t1 ←t.block false at_ s.size
   some (m.setT i t1)
 else if s.op=16 then do
  let v ←t.getR s.a
  let t1 ←t.block (decide (v≠0)) at_ s.size
  some (m.setT i t1)
 else none
def IM.step (m:IM)(i:Nat)(s:Step):Option IM:=do
 let t ←m.tasks[i]?
 let t1:=(((t.wPc (w64 (t.pc+1))).wA s.a).wOp s.op).wAsked (w64 (m.asks+1))
 ((m.wAsks (w64 (m.asks+1))).setT i t1).act i t1 t.pc s
def popBlocks (steps:List Step):List (Int×Int)→Int→Option (List (Int×Int)×Int)
 |[],pc=>some ([],pc)
 |b::bs,pc=>
  if pc=b.2 then
   if 0≤b.1 then
    match steps[b.1.toNat]? with
    |none=>none
    |some s=>if s.op=15 then some (bs,b.1) else popBlocks steps bs pc
   else none
  else some (b::bs,pc)
def IM.rounds (i:Nat)(steps:List Step):Nat→IM→Option (IM×Option Int)
 |0,_=>none
 |fuel+1,m=>do
  let t ←m.tasks[i]?
  if t.state≠1 then some (m,none)
  else if m.used=m.p.slice then do
   let m1 ←m.ready i
   some (m1,none)
  else do
   let (bs,pc) ←popBlocks steps t.blocks t.pc
   let m1:=m.setT i ((t.wBlocks bs).wPc pc)
   if pc=(steps.length:Int) then do
    let m2 ←m1.note 3 i 0
    let m3 ←m2.finish i 6
    some (m3,none)
   else if m1.ticks=m1.inp.ticks then some (m1,some 2)
   else do
    let k ←chanNo pc
    let s ←steps[k]?
    let m2 ←IM.step ((m1.wTicks (w64 (m1.ticks+1))).wUsed (w64 (m1.used+1))) i s
    IM.rounds i steps fuel m2
def IM.turn (fuel:Nat)(m:IM)(i:Nat):Option (IM×Option Int):=do
 let t ←m.tasks[i]?
 let m1 ←(m.setT i (t.wState 1)).note 1 i 0
 let t1 ←m1.tasks[i]?
 let b ←chanNo t1.body
 let steps ←m1.p.bodies[b]?
 IM.rounds i steps fuel (m1.wUsed 0)
def minDue:List ITask→Int→Int
 |[],next=>next
 |t::ts,next=>minDue ts (if t.due≥0∧(next<0∨t.due<next) then t.due else next)
def pickDue (now:Int)(all:List ITask):List ITask→Nat→Int→Option Int
 |[],_,k=>some k
 |t::ts,i,k=>
  if t.due≥0∧t.due≤now then
   if k<0 then pickDue now all ts (i+1) i
   else match all[k.toNat]? with
    |none=>none
    |some u=>if t.asked<u.asked then pickDue now all ts (i+1) i else pickDue now all ts (i+1) k
  else pickDue now all ts (i+1) k
def IM.wakeDue:Nat→IM→Option IM
 |0,_=>none
 |fuel+1,m=>do
  let k ←pickDue m.now m.tasks m.tasks 0 (-1)
  if k<0 then some m
  else do
   let t ←m.tasks[k.toNat]?
   if t.state=5 then do
    let c ←t.chans.head?
    let m1 ←m.leave k.toNat
    let m2 ←m1.gets k.toNat c 0 false
    let m3 ←m2.ready k.toNat
    IM.wakeDue fuel m3
   else do
    let m3 ←m.ready k.toNat
    IM.wakeDue fuel m3
def IM.feedAll:List Event→Nat→IM→Option (IM×Nat)
 |[],fed,m=>some (m,fed)
 |e::es,fed,m=>
  if e.time≤m.now then do
   let m1 ←m.note 6 (-1) e.num
   let c ←chanNo e.chan
   let x ←m1.chans[c]?
   if x.closed then IM.feedAll es (fed+1) m1
   else do
    let (m2,ok) ←m1.send c e.num
    if ok then IM.feedAll es (fed+1) m2
    else do
     let x2 ←m2.chans[c]?
     let senders ←push x2.senders (-1,e.num)
     IM.feedAll es (fed+1) (m2.setC c (x2.wSenders senders))
  else some (m,fed)
def waiting (s:Int):Bool:=s=3∨s=4∨s=5
def IM.pass (fuel:Nat)(m:IM)(fed:Nat):Option (IM×Nat×Option Int):=do
 let next0:=minDue m.tasks (-1)
 let next1:=match m.inp.feed[fed]? with
  |some e=>if next0<0∨e.time<next0 then e.time else next0
  |none=>next0
 if next1<0 then some (m,fed,some (if m.tasks.any (fun t=>waiting t.state) then 1 else 0))
 else do
  let next:=if next1<m.now then m.now else next1
  if next>m.inp.until_ then some (m,fed,some 4)
  else do
   let m1 ←if next>m.now then (m.wNow next).note 5 (-1) 0 else some m
   let m2 ←IM.wakeDue fuel m1
   let (m3,fed3) ←IM.feedAll (m2.inp.feed.drop fed) fed m2
   some (m3,fed3,none)
def IM.main:Nat→IM→Nat→Option (IM×Int)
 |0,_,_=>none
 |fuel+1,m,fed=>
  match m.row with
  |i::r=>do
   let (m1,c) ←(m.wRow r).turn fuel i
   match c with
   |some c=>some (m1,c)
   |none=>IM.main fuel m1 fed
  |[]=>do
   let (m1,fed1,c) ←m.pass fuel fed
   match c with
   |some c=>some (m1,c)
   |none=>IM.main fuel m1 fed1
end Beat
end
