/-
  Texts joined by a program (shake.py), without what the claim does not use; printed walks among them (print.sh), and own ones.
-/
import Derived.Test.YtejjedooecephaaRing37
import Derived.Test.YtejjedooecephaaRing38
section
namespace Go.Beat
open Go _root_.Beat
attribute [local simp] int_beq int_bne ble_dec
def ringQ (before n:Nat):Bool:=
 match IM.playQ 400 400 (madeRing before n) {feed:=[],ticks:=500,until_:=10} with
 |none=>false
 |some m=>m.code==1&&m.tasks.length.blt 1000000&&m.ringOf==some ((List.range n).map fun i=>before+1+i)&&
  m.stuckOf==some (⟨0,3,(before+n:Nat)⟩::(List.range n).map fun (i:Nat)=>⟨((before+1+i:Nat):Int),3,((before+1+(i+1) % n:Nat):Int)⟩)
theorem ring_0:(List.range 15).all (fun n=>ringQ 0 (n+1))=true:=by decide+kernel
theorem ring_1:(List.range 15).all (fun n=>ringQ 1 (n+1))=true:=by decide+kernel
theorem ring_2:(List.range 15).all (fun n=>ringQ 2 (n+1))=true:=by decide+kernel
theorem ring_3:(List.range 15).all (fun n=>ringQ 3 (n+1))=true:=by decide+kernel
theorem ring_4:(List.range 15).all (fun n=>ringQ 4 (n+1))=true:=by decide+kernel
theorem ring_5:(List.range 15).all (fun n=>ringQ 5 (n+1))=true:=by decide+kernel
theorem ring_6:(List.range 15).all (fun n=>ringQ 6 (n+1))=true:=by decide+kernel
theorem ring_7:(List.range 15).all (fun n=>ringQ 7 (n+1))=true:=by decide+kernel
theorem ring_8:(List.range 15).all (fun n=>ringQ 8 (n+1))=true:=by decide+kernel
theorem ring_9:(List.range 15).all (fun n=>ringQ 9 (n+1))=true:=by decide+kernel
theorem ring_10:(List.range 15).all (fun n=>ringQ 10 (n+1))=true:=by decide+kernel
theorem ring_11:(List.range 15).all (fun n=>ringQ 11 (n+1))=true:=by decide+kernel
theorem ring_12:(List.range 15).all (fun n=>ringQ 12 (n+1))=true:=by decide+kernel
theorem ring_13:(List.range 15).all (fun n=>ringQ 13 (n+1))=true:=by decide+kernel
theorem ring_14:(List.range 15).all (fun n=>ringQ 14 (n+1))=true:=by decide+kernel
theorem ring_15:(List.range 15).all (fun n=>ringQ 15 (n+1))=true:=by decide+kernel
theorem ring_16:(List.range 15).all (fun n=>ringQ 16 (n+1))=true:=by decide+kernel
theorem ring_17:(List.range 15).all (fun n=>ringQ 17 (n+1))=true:=by decide+kernel
theorem ring_18:(List.range 15).all (fun n=>ringQ 18 (n+1))=true:=by decide+kernel
theorem ring_19:(List.range 15).all (fun n=>ringQ 19 (n+1))=true:=by decide+kernel
theorem ring_all {b n:Nat}(hb:b<20)(hn:n<15):ringQ b (n+1)=true:=by
 have key:∀{b:Nat},(List.range 15).all (fun n=>ringQ b (n+1))=true→ringQ b (n+1)=true:=fun h=>List.all_eq_true.1 h n (List.mem_range.2 hn)
 match b,hb with
 |0,_=>exact key ring_0
 |1,_=>exact key ring_1
 |2,_=>exact key ring_2
 |3,_=>exact key ring_3
 |4,_=>exact key ring_4
 |5,_=>exact key ring_5
 |6,_=>exact key ring_6
 |7,_=>exact key ring_7
 |8,_=>exact key ring_8
 |9,_=>exact key ring_9
 |10,_=>exact key ring_10
 |11,_=>exact key ring_11
 |12,_=>exact key ring_12
 |13,_=>exact key ring_13
 |14,_=>exact key ring_14
 |15,_=>exact key ring_15
 |16,_=>exact key ring_16
 |17,_=>exact key ring_17
 |18,_=>exact key ring_18
 |19,_=>exact key ring_19
 |b+20,h=>exact absurd h (by omega)
end Go.Beat
end
