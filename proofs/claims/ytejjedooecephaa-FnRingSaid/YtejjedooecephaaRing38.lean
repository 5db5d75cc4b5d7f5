/-
  Texts joined by a program (shake.py), without what the claim does not use; printed walks among them (print.sh), and own ones.
-/
import Derived.Test.YtejjedooecephaaRing13
section
namespace Beat
def stuckRow (i:Nat)(t:ITask):Option (List StuckRow):=
 if t.state=3∨t.state=4 then some [⟨i,t.state,t.target⟩]
 else if t.state=5 then (match t.chans with|c::_=>some [⟨i,t.state,c⟩]|[]=>none)
 else some []
def stuckFromI:List ITask→Nat→Option (List StuckRow)
 |[],_=>some []
 |t::ts,i=>do
  let r ←stuckRow i t
  let rs ←stuckFromI ts (i+1)
  some (r++rs)
def IM.stuckOf (m:IM):Option (List StuckRow):=if m.code=1 then stuckFromI m.tasks 0 else some []
def ringWalk (tasks:List ITask)(i:Nat):Nat→Nat→List Nat→Option (Option (List Nat))
 |0,_,_=>none
 |f+1,k,ring=>do
  let t ←tasks[k]?
  if t.state=3∧ring.length≤tasks.length then do
   let k1 ←chanNo t.target
   if k1=i then some (some (ring++[k])) else ringWalk tasks i f k1 (ring++[k])
  else some none
def ringFromI (tasks:List ITask):Nat→Nat→Option (List Nat)
 |0,_=>some []
 |n+1,i=>do
  let r ←ringWalk tasks i (tasks.length+2) i []
  match r with
  |some ring=>some ring
  |none=>ringFromI tasks n (i+1)
def IM.ringOf (m:IM):Option (List Nat):=if m.code=1 then ringFromI m.tasks m.tasks.length 0 else some []
def madeRing (before n : Nat) : Plan :=
  { bodies := [(List.replicate before (⟨7, 0, 1, 0, 0⟩ : Step) ++ (List.range n).map fun (i : Nat) => (⟨7, 0, 2 + (i : Int), 0, 0⟩ : Step)) ++ [⟨8, 0, 0, 0, 0⟩], []] ++
      (List.range n).map fun (i : Nat) => [⟨1, 0, 0, ((before + 1 + (i + 1) % n : Nat) : Int), 0⟩, ⟨8, 0, 0, 0, 0⟩],
    rooms := [], slice := 100 }
end Beat
end
