/-
  Texts joined by a program (shake.py), without what the claim does not use; printed walks among them (print.sh), and own ones.
-/
import Derived.Test.YtejjedooecephaaSleep13
section
namespace Beat
def regB (a:Int):Bool:=decide (a≥0)&&decide (a<4)
def chanB (nr:Nat)(c:Int):Bool:=decide (c≥0)&&decide (c<nr)
def stepB (nb nr:Nat)(op a b m z:Int):Bool:=
 if op=1 then regB a&&((b==0)&&(z==0))
 else if op=2 then regB a&&(regB b&&(z==0))
 else if op=3∨op=4∨op=5∨op=8 then regB a&&((b==0)&&((m==0)&&(z==0)))
 else if op=6∨op=14 then (a==0)&&((b==0)&&((m==0)&&(z==0)))
 else if op=7 then regB a&&(decide (b≥0)&&(decide (b<nb)&&((m==0)&&(z==0))))
 else if op=9∨op=10 then regB a&&(chanB nr b&&((m==0)&&(z==0)))
 else if op=11 then regB a&&(chanB nr b&&(decide (m≥0)&&(decide (m≤1000000)&&(z==0))))
 else if op=12 then regB a&&(chanB nr b&&(chanB nr m&&(z==0)))
 else if op=13 then (a==0)&&(chanB nr b&&((m==0)&&(z==0)))
 else if op=15∨op=16 then regB a&&((b==0)&&((m==0)&&decide (z≥0)))
 else false
def stepOkI (p:Plan)(s:Step):Bool:=stepB p.bodies.length p.rooms.length s.op s.a s.b s.n s.size
def roomsOkI (rs:List Int):Bool:=rs.all fun r=>decide (0≤r)&&decide (r≤10)
def longI:List (List Step)→Nat→Option Nat
 |[],_=>none
 |l::ls,i=>if l.length>200 then some i else longI ls (i+1)
def badIn (p:Plan):List Step→Nat→Option Nat
 |[],_=>none
 |s::ss,k=>if stepOkI p s then badIn p ss (k+1) else some k
def badI (p:Plan):List (List Step)→Nat→Option (Nat×Nat)
 |[],_=>none
 |l::ls,i=>match badIn p l 0 with
  |some k=>some (i,k)
  |none=>badI p ls (i+1)
def popE (k:Int):List Int→List Int
 |t::u::r=>if t≤k then popE k (u::r) else t::u::r
 |r=>r
def nestIn:List Step→Nat→List Int→Option (Int×Nat)
 |[],_,_=>none
 |s::ss,k,es=>
  let es:=popE k es
  if s.op≠15∧s.op≠16 then nestIn ss (k+1) es
  else if s.size>w64 (w64 (es.headD 0 - k) - 1) then some (5,k)
  else if (es.length:Int) - 1≥10 then some (6,k)
  else nestIn ss (k+1) (w64 ((k:Int)+1+s.size)::es)
def nestI:List (List Step)→Nat→Option (Int×Nat×Nat)
 |[],_=>none
 |l::ls,i=>match nestIn l 0 [(l.length:Int)] with
  |some (c,k)=>some (c,i,k)
  |none=>nestI ls (i+1)
def planOkI (p:Plan):Fault:=
 if p.bodies.length=0∨p.bodies.length>20 then ⟨1,0,0⟩
 else if p.rooms.length>10∨p.slice<1∨p.slice>100 then ⟨2,0,0⟩
 else if roomsOkI p.rooms=false then ⟨2,0,0⟩
 else match longI p.bodies 0 with
  |some i=>⟨3,i,0⟩
  |none=>match badI p p.bodies 0 with
   |some (i,k)=>⟨4,i,k⟩
   |none=>match nestI p.bodies 0 with
    |some (c,i,k)=>⟨c,i,k⟩
    |none=>⟨0,0,0⟩
def feedOkI (nr:Nat):List Event→Int→Bool
 |[],_=>true
 |e::es,last=>if e.time<last∨e.time>1000000∨e.chan<0∨e.chan≥nr then false else feedOkI nr es e.time
def inputOkI (p:Plan)(inp:Input):Bool:=
 if inp.feed.length>100∨inp.ticks<0∨inp.ticks>5000∨inp.until_<0∨inp.until_>1000000 then false else feedOkI p.rooms.length inp.feed 0
end Beat
end
