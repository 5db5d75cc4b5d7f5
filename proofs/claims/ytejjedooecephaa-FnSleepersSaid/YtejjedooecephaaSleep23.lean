/-
  Texts joined by a program (shake.py), without what the claim does not use; printed walks among them (print.sh), and own ones.
-/
import Derived.Test.YtejjedooecephaaSleep20
import Derived.Test.YtejjedooecephaaSleep21
import Derived.Test.YtejjedooecephaaSleep22
section
namespace Go.Beat
open Go _root_.Beat Go.Proofs
attribute [local simp] int_beq int_bne ble_dec
section
variable {wb:Nat} {hv:Value} {hk:Option Int}
def segM (H:OpH (DM wb hv hk))(T:TabA)(l:List (FuncId×CM wb hv hk))(li:List (LoopD (DM wb hv hk)))(wk:Nat→List Nat)(N:Nat)(n:Nat)(d:SegD)(vs:List (TV TI))(m:IM)(L:List (LObj TI))(dk:List TI):Option (SM_ wb hv hk):=segF (D:=DM wb hv hk) H T l li wk N n d vs m L dk
end
abbrev pkA:List Nat:=[1,2,3,4,5,7,8,10,11,12,13]
abbrev gkA:List Nat:=[6,7,8,9,10,11,12]
abbrev pmV:TV TI:=.l (.p (.m .mach) 0 1 0)
abbrev lc36:List (TV TI):=[lcV 0,lcV 1,lcV 2,clV]
noncomputable def c3:Code:=seqR c2
noncomputable def cA:Code:=seqL c2
noncomputable def gA:SegD:=⟨seqL cA,[3,4,5,6],[3,4,5,6,25],[6],3,3⟩
noncomputable def cA3:Code:=match seqR cA with
 |.cond _ x _=>x
 |c=>c
noncomputable def gA3:SegD:=⟨seqL cA3,[3,4,5,6],[3,4,5,6],[6],3,3⟩
noncomputable def cA4:Code:=seqL (seqR cA3)
noncomputable def gB:SegD:=⟨seqL c3,[3,4,5,6],[3,4,5,6],[6],3,3⟩
noncomputable def gC:SegD:=⟨seqL (seqR c3),[3,4,5,6],[6],[6],3,3⟩
noncomputable def c4:Code:=seqR (seqR c3)
noncomputable def c12:Code:=seqL c4
noncomputable def gD:SegD:=⟨seqL (seqR c4),[6],[6],[6],3,3⟩
noncomputable def gE:SegD:=⟨seqL (seqR (seqR c4)),[6],[6,9],[6],4,4⟩
noncomputable def cL:Code:=seqR (seqR (seqR c4))
theorem cA_eq:cA=.seq gA.c (.cond (.tmp 25) cA3 .skip):=by kernel_rfl
theorem cA3_eq:cA3=.seq gA3.c (.seq cA4 .ret):=by kernel_rfl
theorem c2_eq:c2=.seq cA (.seq gB.c (.seq gC.c (.seq c12 (.seq gD.c (.seq gE.c cL))))):=by kernel_rfl
def wk66:Nat→List Nat
 |10=>[5,99]
 |17=>[4,99]
 |_=>[]
def lChan (wb:Nat)(hv:Value)(hk:Option Int):LoopD (DM wb hv hk):=⟨0,[3,4,5,6,38,39,40],[6],3,3,none,fun vs m L dk κ=>match vs,L,dk with
 |[.l (.p (.loc 0) 0 1 0),.l (.p (.loc 1) 0 1 0),.l (.p (.loc 2) 0 1 0),.l (.p (.m .cell) 0 1 0),.l (.sl (.m .rooms) 0 1 n),.l (.v (.int .i64 n')),.l (.v (.int .i64 0))],[⟨35,1,true,some (.cells [.sl (.m .bodies) 0 1 nb,.sl (.m .rooms) 0 1 nr,.v (.int .i64 sl)])⟩,⟨39,1,true,some (.cells [.sl (.m .feed) 0 3 nf,.v (.int .i64 t),.v (.int .i64 u)])⟩,⟨139,1,true,some (.cells [.v hv'])⟩],[]=>
  if n'=n∧n=(IM.p m).rooms.length∧n<100∧(IM.chans m)=[] then
   κ (.exit 0 ⟨[(6,clV)],m.wChansL ((IM.p m).rooms.map fun r=>{room:=r}),[obPl nb nr sl,obIn nf t u,obHk hv'],[]⟩) else none
 |_,_,_=>none⟩
end Go.Beat
end
