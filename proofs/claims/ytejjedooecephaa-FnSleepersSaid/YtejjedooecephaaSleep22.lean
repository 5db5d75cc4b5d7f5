/-
  Texts joined by a program (shake.py), without what the claim does not use; printed walks among them (print.sh), and own ones.
-/
import Derived.Test.YtejjedooecephaaSleep14
import Derived.Test.YtejjedooecephaaSleep17
section
namespace Beat
inductive RQ where
 |go|out|ret|pan (c:Int)
deriving DecidableEq
def RQ.isOut:RQ→Bool|.out=>true|_=>false
def RQ.isRet:RQ→Bool|.ret=>true|_=>false
def RQ.isPan:RQ→Bool|.pan _=>true|_=>false
def RQ.num:RQ→Int|.pan c=>c|_=>0
def popQ (steps:List Step):List (Int×Int)→Int→Option (List (Int×Int)×Int×Bool)
 |[],pc=>some ([],pc,false)
 |b::bs,pc=>
  if pc=b.2 then
   if 0≤b.1 then
    match steps[b.1.toNat]? with
    |none=>none
    |some s=>if s.op=15 then some (bs,b.1,true) else popQ steps bs pc
   else none
  else some (b::bs,pc,false)
def IM.popT (m:IM)(i:Nat)(steps:List Step):Option (IM×Bool):=do
 let t ←m.tasks[i]?
 let (bs,pc,q) ←popQ steps t.blocks t.pc
 if t.blocks.length<1000000∧steps.length<1000000 then some (m.setT i ((t.wBlocks bs).wPc pc),q) else none
def IM.roundQ (i:Nat)(steps:List Step)(m:IM):Option (IM×RQ):=do
 let t ←m.tasks[i]?
 if t.state≠1 then some (m,.out)
 else if m.used=m.p.slice then do
  let m1 ←m.ready i
  some (m1,.ret)
 else do
  let (m1,_) ←m.popT i steps
  let t1 ←m1.tasks[i]?
  if t1.pc=(steps.length:Int) then do
   let m2 ←m1.note 3 i 0
   let m3 ←m2.finish i 6
   some (m3,.ret)
  else if m1.ticks=m1.inp.ticks then some (m1,.pan 2)
  else do
   let k ←chanNo t1.pc
   let s ←steps[k]?
   let m2 ←IM.step ((m1.wTicks (w64 (m1.ticks+1))).wUsed (w64 (m1.used+1))) i s
   some (m2,.go)
def IM.roundsQ (i:Nat)(steps:List Step):Nat→IM→Option (IM×RQ)
 |0,_=>none
 |f+1,m=>match IM.roundQ i steps m with
  |none=>none
  |some (m1,.go)=>IM.roundsQ i steps f m1
  |some q=>some q
def IM.turnQ (fuel:Nat)(m:IM)(i:Nat):Option (IM×RQ):=do
 let t ←m.tasks[i]?
 let m1 ←(m.setT i (t.wState 1)).note 1 i 0
 let t1 ←m1.tasks[i]?
 let b ←chanNo t1.body
 let steps ←m1.p.bodies[b]?
 if steps.length<1000000 then IM.roundsQ i steps fuel (m1.wUsed 0) else none
end Beat
namespace Go.Beat
open Go _root_.Beat Go.Proofs
attribute [local simp] int_beq int_bne ble_dec
abbrev stV (b n:Nat):TV TI:=.l (.sl (.m (.steps b)) 0 5 n)
def lPop (wb:Nat)(hv:Value)(hk:Option Int):LoopD (DM wb hv hk):=⟨2,[0,1,4,5,6],[0,1,4,5,6],0,0,none,fun vs m L dk κ=>match vs,L,dk with
 |[.l (.p (.m .mach) 0 1 0),.l (.v (.int .i64 i)),.l (.p (.m (.task i')) 0 1 0),.l (.sl (.m (.steps b)) 0 5 n),.l (.v (.bool false))],[],[]=>
  natOf i fun i=>if i'=i then (match (IM.p m).bodies[b]? with
   |none=>none
   |some l=>if n=l.length then (match IM.popT m i l with
    |none=>none
    |some q=>κ (.exit 2 ⟨[(0,mchV),(1,iV i),(4,tskV i),(5,stV b l.length),(6,bV q.2)],q.1,[],[]⟩)) else none) else none
 |_,_,_=>none⟩
def panV (c:Int):Value:=.iface 155 (.agg #[.int .i64 c])
def lTurn (F:Nat)(wb:Nat)(hv:Value)(hk:Option Int):LoopD (DM wb hv hk):=⟨0,[0,1,4,5],[],0,0,none,fun vs m L dk κ=>match vs,L,dk with
 |[.l (.p (.m .mach) 0 1 0),.l (.v (.int .i64 i)),.l (.p (.m (.task i')) 0 1 0),.l (.sl (.m (.steps b)) 0 5 n)],[],[]=>
  natOf i fun i=>if i'=i then (match (IM.p m).bodies[b]? with
   |none=>none
   |some l=>if n=l.length then (match IM.roundsQ i l F m with
    |none=>none
    |some q=>bif q.2.isOut then κ (.exit 0 ⟨[],q.1,[],[]⟩) else bif q.2.isRet then κ (.ret ⟨[],q.1,[],[]⟩) else bif q.2.isPan then κ (.pan (panV q.2.num) ⟨[],q.1,[],[]⟩) else none) else none) else none
 |_,_,_=>none⟩
def cTurn (F:Nat)(wb:Nat)(hv:Value)(hk:Option Int):PCtr (DM wb hv hk):=⟨fun vs m κ κp=>match vs with
 |[.l (.p (.m .mach) 0 1 0),.l (.v (.int .i64 i))]=>natOf i fun i=>match IM.turnQ F m i with
  |none=>none
  |some q=>bif q.2.isPan then κp (panV q.2.num) q.1 [1,3,4,7,8,10,11,12,13] [6,7,8] else κ (.tup []) [] q.1 [1,3,4,7,8,10,11,12,13] [6,7,8]
 |_=>none⟩
end Go.Beat
end
section
namespace Beat
def IM.feedR (m:IM):Option (IM×Bool):=do
 let fi ←m.fed
 let f ←chanNo fi
 guardO (m.inp.feed.length<1000000)
 match m.inp.feed[f]? with
 |none=>if f=m.inp.feed.length then some (m,false) else none
 |some e=>
  if e.time≤m.now then do
   let m1 ←m.note 6 (-1) e.num
   let m1:=m1.wFed (some (fi+1))
   let c ←chanNo e.chan
   let x ←m1.chans[c]?
   if x.closed then some (m1,true)
   else do
    let (m2,ok) ←m1.send c e.num
    if ok then some (m2,true)
    else do
     let x2 ←m2.chans[c]?
     let senders ←push x2.senders (-1,e.num)
     some (m2.setC c (x2.wSenders senders),true)
  else some (m,false)
def IM.feedQ:Nat→IM→Option IM
 |0,_=>none
 |f+1,m=>do
  let (m1,go) ←m.feedR
  if go then IM.feedQ f m1 else some m1
def IM.wakeR (m:IM):Option (IM×Bool):=do
 let k ←pickDue m.now m.tasks m.tasks 0 (-1)
 if k<0 then some (m,false)
 else do
  let t ←m.tasks[k.toNat]?
  if t.state=5 then do
   let c ←t.chans.head?
   let m1 ←m.leave k.toNat
   let m2 ←m1.gets k.toNat c 0 false
   let m3 ←m2.ready k.toNat
   some (m3,true)
  else do
   let m3 ←m.ready k.toNat
   some (m3,true)
def IM.wakeQ:Nat→IM→Option IM
 |0,_=>none
 |f+1,m=>do
  guardO (m.tasks.length<1000000)
  let (m1,go) ←m.wakeR
  if go then IM.wakeQ f m1 else some m1
def IM.anyW (m:IM):Bool:=m.tasks.any fun t=>waiting t.state
def IM.passQ (F:Nat)(m:IM):Option (IM×RQ):=do
 let fi ←m.fed
 let f ←chanNo fi
 guardO (m.tasks.length<1000000∧m.inp.feed.length<1000000)
 let next0:=minDue m.tasks (-1)
 let next1 ←(if fi<m.inp.feed.length then (match m.inp.feed[f]? with
  |some e=>some (if next0<0∨e.time<next0 then e.time else next0)
  |none=>none) else some next0)
 if next1<0 then some (m,.pan (if m.anyW then 1 else 0))
 else do
  let next:=if next1<m.now then m.now else next1
  if next>m.inp.until_ then some (m,.pan 4)
  else do
   let m1 ←if next>m.now then (m.wNow next).note 5 (-1) 0 else some m
   let m2 ←m1.wakeQ F
   let m3 ←m2.feedQ F
   some (m3,.out)
end Beat
namespace Go.Beat
open Go _root_.Beat Go.Proofs
attribute [local simp] int_beq int_bne ble_dec
abbrev fedV:TV TI:=.l (.p (.m .fed) 0 1 0)
abbrev tsV (n:Nat):TV TI:=.l (.sl (.m .tasks) 0 1 n)
def lMin (wb:Nat)(hv:Value)(hk:Option Int):LoopD (DM wb hv hk):=⟨0,[0,1,4,17,18,19],[0,1,4],0,0,none,fun vs m L dk κ=>match vs,L,dk with
 |[.l (.p (.m .mach) 0 1 0),.l (.p (.m .fed) 0 1 0),.l (.v (.int .i64 x)),.l (.sl (.m .tasks) 0 1 n),.l (.v (.int .i64 n')),.l (.v (.int .i64 0))],[],[]=>
  if n'=n∧n=(IM.tasks m).length∧n<1000000 then κ (.exit 0 ⟨[(0,mchV),(1,fedV),(4,iV (minDue (IM.tasks m) x))],m,[],[]⟩) else none
 |_,_,_=>none⟩
def lAny (wb:Nat)(hv:Value)(hk:Option Int):LoopD (DM wb hv hk):=⟨2,[90,91,92],[],0,0,none,fun vs m L dk κ=>match vs,L,dk with
 |[.l (.sl (.m .tasks) 0 1 n),.l (.v (.int .i64 n')),.l (.v (.int .i64 0))],[],[]=>
  if n'=n∧n=(IM.tasks m).length∧n<1000000 then (bif IM.anyW m then κ (.pan (panV 1) ⟨[],m,[],[]⟩) else κ (.exit 2 ⟨[],m,[],[]⟩)) else none
 |_,_,_=>none⟩
def lPickDue (wb:Nat)(hv:Value)(hk:Option Int):LoopD (DM wb hv hk):=⟨6,[0,1,9,154,155,156],[0,1,9],0,0,none,fun vs m L dk κ=>match vs,L,dk with
 |[.l (.p (.m .mach) 0 1 0),.l (.p (.m .fed) 0 1 0),.l (.v (.int .i64 x)),.l (.sl (.m .tasks) 0 1 n),.l (.v (.int .i64 n')),.l (.v (.int .i64 0))],[],[]=>
  if n'=n∧n=(IM.tasks m).length∧n<1000000 then (match pickDue (IM.now m) (IM.tasks m) (IM.tasks m) 0 x with
   |none=>none
   |some k=>κ (.exit 6 ⟨[(0,mchV),(1,fedV),(9,iV k)],m,[],[]⟩)) else none
 |_,_,_=>none⟩
def lWake (F:Nat)(wb:Nat)(hv:Value)(hk:Option Int):LoopD (DM wb hv hk):=⟨4,[0,1],[0,1],0,0,none,fun vs m L dk κ=>match vs,L,dk with
 |[.l (.p (.m .mach) 0 1 0),.l (.p (.m .fed) 0 1 0)],[],[]=>(match IM.wakeQ F m with
  |none=>none
  |some m'=>κ (.exit 4 ⟨[(0,mchV),(1,fedV)],m',[],[]⟩))
 |_,_,_=>none⟩
def lFeed (F:Nat)(wb:Nat)(hv:Value)(hk:Option Int):LoopD (DM wb hv hk):=⟨8,[0,1],[],0,0,none,fun vs m L dk κ=>match vs,L,dk with
 |[.l (.p (.m .mach) 0 1 0),.l (.p (.m .fed) 0 1 0)],[],[]=>(match IM.feedQ F m with
  |none=>none
  |some m'=>κ (.exit 8 ⟨[],m',[],[]⟩))
 |_,_,_=>none⟩
abbrev pkP:List Nat:=[1,4,8,10,11,12]
abbrev wk88:Nat→List Nat:=fun id=>bif Nat.beq id 43 then [11,99] else []
def cPass (F:Nat)(wb:Nat)(hv:Value)(hk:Option Int):PCtr (DM wb hv hk):=⟨fun vs m κ κp=>match vs with
 |[.l (.p (.m .mach) 0 1 0),.l (.p (.m .fed) 0 1 0)]=>match IM.passQ F m with
  |none=>none
  |some q=>bif q.2.isPan then κp (panV q.2.num) q.1 pkP [] else κ (.tup []) [] q.1 pkP []
 |_=>none⟩
end Go.Beat
end
