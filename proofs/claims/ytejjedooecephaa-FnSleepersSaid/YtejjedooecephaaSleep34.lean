/-
  Texts joined by a program (shake.py), without what the claim does not use; printed walks among them (print.sh), and own ones.
-/
import Derived.Test.YtejjedooecephaaSleep29
section
namespace Go.Beat
open Go _root_.Beat Go.Proofs
attribute [local simp] int_beq int_bne ble_dec
noncomputable def b85:Code:=bd Try.f85
noncomputable def e0:Code:=seqL (seqL b85)
noncomputable def e1:Code:=seqR (seqL b85)
noncomputable def e2:Code:=seqR b85
def condT:Code→Code
 |.cond _ x _=>x
 |c=>c
noncomputable def r1:Code:=seqL e1
noncomputable def r2:Code:=seqL (condT (seqR e1))
noncomputable def gK:SegD:=⟨seqR (condT (seqR e1)),[0,2,3],[0],[],1,1⟩
noncomputable def gJ:SegD:=⟨e2,[0],[0],[],0,0⟩
theorem b85_eq:b85=.seq (.seq e0 e1) e2:=by kernel_rfl
theorem e0_eq:e0=.region 0 (opsOf e0) false:=by kernel_rfl
theorem e1_eq:e1=.seq r1 (.cond (.tmp 8) (.seq r2 gK.c) .skip):=by kernel_rfl
theorem r1_eq:r1=.region 1 (opsOf r1) false:=by kernel_rfl
theorem r2_eq:r2=.region 2 (opsOf r2) false:=by kernel_rfl
def wk85:Nat→List Nat
 |10=>[2,99]
 |_=>[]
abbrev obOv (c:Int):LObj TI:=⟨155,1,true,some (.cells [.v (i64 c)])⟩
def lStates (wb:Nat)(hv:Value)(hk:Option Int):LoopD (DM wb hv hk):=⟨0,[0,34,35,36],[0],0,0,none,fun vs m L dk κ=>match vs,L,dk with
 |[.l (.p (.m .cell) 0 1 0),.l (.sl (.m .tasks) 0 1 n),.l (.v (.int .i64 n')),.l (.v (.int .i64 0))],[],[]=>
  if n'=n∧n=(IM.tasks m).length∧n<1000000∧(IM.states m).length<1000000 then
   κ (.exit 0 ⟨[(0,clV)],m.wStates (IM.states m++(IM.tasks m).map (·.state)),[],[]⟩) else none
 |_,_,_=>none⟩
end Go.Beat
end
