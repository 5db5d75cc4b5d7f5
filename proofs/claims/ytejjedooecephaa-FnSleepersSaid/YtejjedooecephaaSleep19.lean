/-
  Texts joined by a program (shake.py), without what the claim does not use; printed walks among them (print.sh), and own ones.
-/
import Derived.Test.YtejjedooecephaaSleep17
import Derived.Test.YtejjedooecephaaSleep18
section
namespace Go.Beat
open Go _root_.Beat Go.Proofs
attribute [local simp] int_beq int_bne ble_dec
abbrev plnV (nb nr:Nat)(sl:Int):TV TI:=.agg [.sl (.m .bodies) 0 1 nb,.sl (.m .rooms) 0 1 nr,.v (i64 sl)]
abbrev inpV (n:Nat)(t u:Int):TV TI:=.agg [.sl (.m .feed) 0 3 n,.v (i64 t),.v (i64 u)]
abbrev obPl (nb nr:Nat)(sl:Int):LObj TI:=⟨35,1,true,some (.cells [.sl (.m .bodies) 0 1 nb,.sl (.m .rooms) 0 1 nr,.v (i64 sl)])⟩
abbrev obIn (n:Nat)(t u:Int):LObj TI:=⟨39,1,true,some (.cells [.sl (.m .feed) 0 3 n,.v (i64 t),.v (i64 u)])⟩
abbrev obFa (c b s:Int):LObj TI:=⟨45,1,true,some (.cells [.v (i64 c),.v (i64 b),.v (i64 s)])⟩
abbrev lcV (j:Nat):TV TI:=.l (.p (.loc j) 0 1 0)
def cStepOk (wb:Nat)(hv:Value)(hk:Option Int):CM wb hv hk:=⟨fun vs m κ=>match vs with
 |[.agg [.sl (.m .bodies) 0 1 nb,.sl (.m .rooms) 0 1 nr,.v (.int .i64 sl)],.agg [.v (.int .i64 op),.v (.int .i64 a),.v (.int .i64 b),.v (.int .i64 n),.v (.int .i64 z)]]=>κ (.l (.v (.bool (stepB nb nr op a b n z)))) [] m [] []
 |_=>none⟩
def cInputOk (wb:Nat)(hv:Value)(hk:Option Int):CM wb hv hk:=⟨fun vs m κ=>match vs with
 |[.agg [.sl (.m .bodies) 0 1 nb,.sl (.m .rooms) 0 1 nr,.v (.int .i64 sl)],.agg [.sl (.m .feed) 0 3 n,.v (.int .i64 t),.v (.int .i64 u)]]=>
  if nr=(IM.p m).rooms.length∧n=(IM.inp m).feed.length∧t=(IM.inp m).ticks∧u=(IM.inp m).until_ then κ (.l (.v (.bool (inputOkI (IM.p m) (IM.inp m))))) [] m [] [] else none
 |_=>none⟩
def lInput (wb:Nat)(hv:Value)(hk:Option Int):LoopD (DM wb hv hk):=⟨0,[2,3,5,33,34,35],[4],2,0,none,fun vs m L dk κ=>match vs,L,dk with
 |[.l (.p (.loc 0) 0 1 0),.l (.p (.loc 1) 0 1 0),.l (.v (.int .i64 last)),.l (.sl (.m .feed) 0 3 n),.l (.v (.int .i64 n')),.l (.v (.int .i64 0))],[⟨35,1,true,some (.cells [.sl (.m .bodies) 0 1 nb,.sl (.m .rooms) 0 1 nr,.v (.int .i64 sl)])⟩,⟨39,1,true,some (.cells [.sl (.m .feed) 0 3 n2,.v (.int .i64 t),.v (.int .i64 u)])⟩],[]=>
  if n'=n∧n2=n∧n=(IM.inp m).feed.length∧n<1000000 then
   (bif feedOkI nr (IM.inp m).feed last then κ (.exit 0 ⟨[],m,[],[]⟩) else κ (.ret ⟨[(4,bV false)],m,[],[]⟩)) else none
 |_,_,_=>none⟩
end Go.Beat
end
