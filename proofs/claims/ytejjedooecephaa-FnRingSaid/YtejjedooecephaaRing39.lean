/-
  Texts joined by a program (shake.py), without what the claim does not use; printed walks among them (print.sh), and own ones.
-/
import Derived.Test.YtejjedooecephaaRing23
import Derived.Test.YtejjedooecephaaRing24
import Derived.Test.YtejjedooecephaaRing37
import Derived.Test.YtejjedooecephaaRing38
section
namespace Go.Beat
open Go _root_.Beat Go.Proofs
attribute [local simp] int_beq int_bne ble_dec
abbrev noSV:TV TI:=.l (.v (.slice none 0 0))
def stRow (r:StuckRow):List Int:=[r.task,r.state,r.what]
abbrev obRows (rs:List (List Int)):LObj TI:=⟨67,3,false,some (.rows k3 rs)⟩
def lStuck (wb:Nat)(hv:Value)(hk:Option Int):LoopD (DM wb hv hk):=⟨0,[5,6,22,23,24],[6],0,1,some 6,fun vs m L dk κ=>match vs,L,dk with
 |[.l (.p (.m .mach) 0 1 0),.l (.v (.slice none 0 0)),.l (.sl (.m .tasks) 0 1 n),.l (.v (.int .i64 n')),.l (.v (.int .i64 0))],[],[]=>
  if n'=n∧n=(IM.tasks m).length∧n<1000000 then (match stuckFromI (IM.tasks m) 0 with
   |none=>none
   |some rs=>bif rs.isEmpty then κ (.exit 0 ⟨[(6,noSV)],m,[],[]⟩) else κ (.exit 0 ⟨[(6,.l (.sl (.loc 0) 0 3 rs.length))],m,[obRows (rs.map stRow)],[]⟩)) else none
 |_,_,_=>none⟩
noncomputable def stD:SegD:=⟨st2,[5],[5],[4],0,1⟩
end Go.Beat
end
section
namespace Go.Beat
open Go _root_.Beat Go.Proofs
attribute [local simp] int_beq int_bne ble_dec
set_option maxRecDepth 100000
variable {wb:Nat} {hv:Value} {hk:Option Int}
theorem rawS0 {wb:Nat}{hv:Value}{hk:Option Int}(m:IM)(n j:Nat):roundM (wb:=wb) (hv:=hv) (hk:=hk) (noOp _) (tabA.at [] []) [] [] wk0 900 Try.f35 (loopsOf stD.c) (lStuck wb hv hk) [pmV,noSV,.l (.sl (.m .tasks) 0 1 n),iV n,iV j] m [] []=bif decide ((↑j:Int)<(↑n:Int)) then if 0+n≤m.tasks.length∧(0:Int)≤(↑j:Int)∧(↑j:Int)<(↑n:Int) then if 0+(↑j:Int).toNat<m.tasks.length then m.tasks[0+(↑j:Int).toNat]?.bind fun (val:ITask)=>bif val.state==(3:Int) then bif val.state==(3:Int) then m.tasks[0+(↑j:Int).toNat]?.bind fun (val:ITask)=>m.tasks[0+(↑j:Int).toNat]?.bind fun (val_1:ITask)=>some (nrmM [(5,TV.l (AL.p (Tg.m TI.mach) 0 1 0)),(6,TV.l (AL.sl (Tg.loc 0) 0 3 1)),(22,TV.l (AL.sl (Tg.m TI.tasks) 0 1 n)),(23,TV.l (AL.v (Value.int IntKind.i64 (↑n:Int)))),(24,TV.l (AL.v (Value.int IntKind.i64 (IntKind.i64.wrap ((↑j:Int)+(1:Int))))))] m [{ty:=67,sz:=3,fix:=false,o:=some (LO.rows [IntKind.i64,IntKind.i64,IntKind.i64] [[(↑j:Int),val.state,val_1.target]]):LObj (DM wb hv hk).τ}] []) else bif val.state==(5:Int) then m.tasks[0+(↑j:Int).toNat]?.bind fun (val:ITask)=>m.tasks[0+(↑j:Int).toNat]?.bind fun (val_1:ITask)=>if 0+val.chans.length≤val_1.chans.length∧(0:Int)≤(0:Int)∧(0:Int)<(↑val.chans.length:Int) then m.tasks[0+(↑j:Int).toNat]?.bind fun (val:ITask)=>(List.map Int.ofNat val.chans)[0+Int.toNat (0:Int)]?.bind fun (val:Int)=>m.tasks[0+(↑j:Int).toNat]?.bind fun (val_2:ITask)=>some (nrmM [(5,TV.l (AL.p (Tg.m TI.mach) 0 1 0)),(6,TV.l (AL.sl (Tg.loc 0) 0 3 1)),(22,TV.l (AL.sl (Tg.m TI.tasks) 0 1 n)),(23,TV.l (AL.v (Value.int IntKind.i64 (↑n:Int)))),(24,TV.l (AL.v (Value.int IntKind.i64 (IntKind.i64.wrap ((↑j:Int)+(1:Int))))))] m [{ty:=67,sz:=3,fix:=false,o:=some (LO.rows [IntKind.i64,IntKind.i64,IntKind.i64] [[(↑j:Int),val_2.state,val]]):LObj (DM wb hv hk).τ}] []) else none else some (nrmM [(5,TV.l (AL.p (Tg.m TI.mach) 0 1 0)),(6,TV.l (AL.v (Value.slice none 0 0))),(22,TV.l (AL.sl (Tg.m TI.tasks) 0 1 n)),(23,TV.l (AL.v (Value.int IntKind.i64 (↑n:Int)))),(24,TV.l (AL.v (Value.int IntKind.i64 (IntKind.i64.wrap ((↑j:Int)+(1:Int))))))] m [] []) else bif val.state==(4:Int) then m.tasks[0+(↑j:Int).toNat]?.bind fun (val:ITask)=>m.tasks[0+(↑j:Int).toNat]?.bind fun (val_1:ITask)=>some (nrmM [(5,TV.l (AL.p (Tg.m TI.mach) 0 1 0)),(6,TV.l (AL.sl (Tg.loc 0) 0 3 1)),(22,TV.l (AL.sl (Tg.m TI.tasks) 0 1 n)),(23,TV.l (AL.v (Value.int IntKind.i64 (↑n:Int)))),(24,TV.l (AL.v (Value.int IntKind.i64 (IntKind.i64.wrap ((↑j:Int)+(1:Int))))))] m [{ty:=67,sz:=3,fix:=false,o:=some (LO.rows [IntKind.i64,IntKind.i64,IntKind.i64] [[(↑j:Int),val.state,val_1.target]]):LObj (DM wb hv hk).τ}] []) else bif val.state==(5:Int) then m.tasks[0+(↑j:Int).toNat]?.bind fun (val:ITask)=>m.tasks[0+(↑j:Int).toNat]?.bind fun (val_1:ITask)=>if 0+val.chans.length≤val_1.chans.length∧(0:Int)≤(0:Int)∧(0:Int)<(↑val.chans.length:Int) then m.tasks[0+(↑j:Int).toNat]?.bind fun (val:ITask)=>(List.map Int.ofNat val.chans)[0+Int.toNat (0:Int)]?.bind fun (val:Int)=>m.tasks[0+(↑j:Int).toNat]?.bind fun (val_2:ITask)=>some (nrmM [(5,TV.l (AL.p (Tg.m TI.mach) 0 1 0)),(6,TV.l (AL.sl (Tg.loc 0) 0 3 1)),(22,TV.l (AL.sl (Tg.m TI.tasks) 0 1 n)),(23,TV.l (AL.v (Value.int IntKind.i64 (↑n:Int)))),(24,TV.l (AL.v (Value.int IntKind.i64 (IntKind.i64.wrap ((↑j:Int)+(1:Int))))))] m [{ty:=67,sz:=3,fix:=false,o:=some (LO.rows [IntKind.i64,IntKind.i64,IntKind.i64] [[(↑j:Int),val_2.state,val]]):LObj (DM wb hv hk).τ}] []) else none else some (nrmM [(5,TV.l (AL.p (Tg.m TI.mach) 0 1 0)),(6,TV.l (AL.v (Value.slice none 0 0))),(22,TV.l (AL.sl (Tg.m TI.tasks) 0 1 n)),(23,TV.l (AL.v (Value.int IntKind.i64 (↑n:Int)))),(24,TV.l (AL.v (Value.int IntKind.i64 (IntKind.i64.wrap ((↑j:Int)+(1:Int))))))] m [] []) else none else none else some (exM 0 [(6,TV.l (AL.v (Value.slice none 0 0)))] m [] []):=by kernel_rfl
theorem rawS1 {wb:Nat}{hv:Value}{hk:Option Int}(m:IM)(n j k:Nat)(rs:List (List Int)):roundM (wb:=wb) (hv:=hv) (hk:=hk) (noOp _) (tabA.at [] []) [] [] wk0 900 Try.f35 (loopsOf stD.c) (lStuck wb hv hk) [pmV,.l (.sl (.loc 0) 0 3 k),.l (.sl (.m .tasks) 0 1 n),iV n,iV j] m [obRows rs] []=bif decide ((↑j:Int)<(↑n:Int)) then if 0+n≤m.tasks.length∧(0:Int)≤(↑j:Int)∧(↑j:Int)<(↑n:Int) then if 0+(↑j:Int).toNat<m.tasks.length then m.tasks[0+(↑j:Int).toNat]?.bind fun (val:ITask)=>bif val.state==(3:Int) then bif val.state==(3:Int) then m.tasks[0+(↑j:Int).toNat]?.bind fun (val_1:ITask)=>m.tasks[0+(↑j:Int).toNat]?.bind fun (val_2:ITask)=>if 0+k≤rs.length∧(k+1)*24≤140737488355328∧k+1≤9223372036854775807 then bif (List.take k (List.drop 0 rs)++[[(↑j:Int),val_1.state,val_2.target]]).length.ble 9223372036854775807 then some (nrmM [(5,TV.l (AL.p (Tg.m TI.mach) 0 1 0)),(6,TV.l (AL.sl (Tg.loc 0) 0 3 (k+1))),(22,TV.l (AL.sl (Tg.m TI.tasks) 0 1 n)),(23,TV.l (AL.v (Value.int IntKind.i64 (↑n:Int)))),(24,TV.l (AL.v (Value.int IntKind.i64 (IntKind.i64.wrap ((↑j:Int)+(1:Int))))))] m [{ty:=67,sz:=3,fix:=false,o:=some (LO.rows [IntKind.i64,IntKind.i64,IntKind.i64] (List.take k (List.drop 0 rs)++[[(↑j:Int),val_1.state,val_2.target]])):LObj (DM wb hv hk).τ}] []) else none else none else bif val.state==(5:Int) then m.tasks[0+(↑j:Int).toNat]?.bind fun (val_1:ITask)=>m.tasks[0+(↑j:Int).toNat]?.bind fun (val_2:ITask)=>if 0+val_1.chans.length≤val_2.chans.length∧(0:Int)≤(0:Int)∧(0:Int)<(↑val_1.chans.length:Int) then m.tasks[0+(↑j:Int).toNat]?.bind fun (val_3:ITask)=>(List.map Int.ofNat val_3.chans)[0+Int.toNat (0:Int)]?.bind fun (val_4:Int)=>m.tasks[0+(↑j:Int).toNat]?.bind fun (val_5:ITask)=>if 0+k≤rs.length∧(k+1)*24≤140737488355328∧k+1≤9223372036854775807 then bif (List.take k (List.drop 0 rs)++[[(↑j:Int),val_5.state,val_4]]).length.ble 9223372036854775807 then some (nrmM [(5,TV.l (AL.p (Tg.m TI.mach) 0 1 0)),(6,TV.l (AL.sl (Tg.loc 0) 0 3 (k+1))),(22,TV.l (AL.sl (Tg.m TI.tasks) 0 1 n)),(23,TV.l (AL.v (Value.int IntKind.i64 (↑n:Int)))),(24,TV.l (AL.v (Value.int IntKind.i64 (IntKind.i64.wrap ((↑j:Int)+(1:Int))))))] m [{ty:=67,sz:=3,fix:=false,o:=some (LO.rows [IntKind.i64,IntKind.i64,IntKind.i64] (List.take k (List.drop 0 rs)++[[(↑j:Int),val_5.state,val_4]])):LObj (DM wb hv hk).τ}] []) else none else none else none else some (nrmM [(5,TV.l (AL.p (Tg.m TI.mach) 0 1 0)),(6,TV.l (AL.sl (Tg.loc 0) 0 3 k)),(22,TV.l (AL.sl (Tg.m TI.tasks) 0 1 n)),(23,TV.l (AL.v (Value.int IntKind.i64 (↑n:Int)))),(24,TV.l (AL.v (Value.int IntKind.i64 (IntKind.i64.wrap ((↑j:Int)+(1:Int))))))] m [{ty:=67,sz:=3,fix:=false,o:=some (LO.rows [IntKind.i64,IntKind.i64,IntKind.i64] rs):LObj TI}] []) else bif val.state==(4:Int) then m.tasks[0+(↑j:Int).toNat]?.bind fun (val_1:ITask)=>m.tasks[0+(↑j:Int).toNat]?.bind fun (val_2:ITask)=>if 0+k≤rs.length∧(k+1)*24≤140737488355328∧k+1≤9223372036854775807 then bif (List.take k (List.drop 0 rs)++[[(↑j:Int),val_1.state,val_2.target]]).length.ble 9223372036854775807 then some (nrmM [(5,TV.l (AL.p (Tg.m TI.mach) 0 1 0)),(6,TV.l (AL.sl (Tg.loc 0) 0 3 (k+1))),(22,TV.l (AL.sl (Tg.m TI.tasks) 0 1 n)),(23,TV.l (AL.v (Value.int IntKind.i64 (↑n:Int)))),(24,TV.l (AL.v (Value.int IntKind.i64 (IntKind.i64.wrap ((↑j:Int)+(1:Int))))))] m [{ty:=67,sz:=3,fix:=false,o:=some (LO.rows [IntKind.i64,IntKind.i64,IntKind.i64] (List.take k (List.drop 0 rs)++[[(↑j:Int),val_1.state,val_2.target]])):LObj (DM wb hv hk).τ}] []) else none else none else bif val.state==(5:Int) then m.tasks[0+(↑j:Int).toNat]?.bind fun (val_1:ITask)=>m.tasks[0+(↑j:Int).toNat]?.bind fun (val_2:ITask)=>if 0+val_1.chans.length≤val_2.chans.length∧(0:Int)≤(0:Int)∧(0:Int)<(↑val_1.chans.length:Int) then m.tasks[0+(↑j:Int).toNat]?.bind fun (val_3:ITask)=>(List.map Int.ofNat val_3.chans)[0+Int.toNat (0:Int)]?.bind fun (val_4:Int)=>m.tasks[0+(↑j:Int).toNat]?.bind fun (val_5:ITask)=>if 0+k≤rs.length∧(k+1)*24≤140737488355328∧k+1≤9223372036854775807 then bif (List.take k (List.drop 0 rs)++[[(↑j:Int),val_5.state,val_4]]).length.ble 9223372036854775807 then some (nrmM [(5,TV.l (AL.p (Tg.m TI.mach) 0 1 0)),(6,TV.l (AL.sl (Tg.loc 0) 0 3 (k+1))),(22,TV.l (AL.sl (Tg.m TI.tasks) 0 1 n)),(23,TV.l (AL.v (Value.int IntKind.i64 (↑n:Int)))),(24,TV.l (AL.v (Value.int IntKind.i64 (IntKind.i64.wrap ((↑j:Int)+(1:Int))))))] m [{ty:=67,sz:=3,fix:=false,o:=some (LO.rows [IntKind.i64,IntKind.i64,IntKind.i64] (List.take k (List.drop 0 rs)++[[(↑j:Int),val_5.state,val_4]])):LObj (DM wb hv hk).τ}] []) else none else none else none else some (nrmM [(5,TV.l (AL.p (Tg.m TI.mach) 0 1 0)),(6,TV.l (AL.sl (Tg.loc 0) 0 3 k)),(22,TV.l (AL.sl (Tg.m TI.tasks) 0 1 n)),(23,TV.l (AL.v (Value.int IntKind.i64 (↑n:Int)))),(24,TV.l (AL.v (Value.int IntKind.i64 (IntKind.i64.wrap ((↑j:Int)+(1:Int))))))] m [{ty:=67,sz:=3,fix:=false,o:=some (LO.rows [IntKind.i64,IntKind.i64,IntKind.i64] rs):LObj TI}] []) else none else none else some (exM 0 [(6,TV.l (AL.sl (Tg.loc 0) 0 3 k))] m [{ty:=67,sz:=3,fix:=false,o:=some (LO.rows [IntKind.i64,IntKind.i64,IntKind.i64] rs):LObj TI}] []):=by kernel_rfl
theorem rawS {wb:Nat}{hv:Value}{hk:Option Int}(m:IM):segM (wb:=wb) (hv:=hv) (hk:=hk) (noOp _) (tabA.at [] []) [] [lStuck wb hv hk] wk0 900 Try.f35.ntmps stD [pmV] m [] []=bif m.code !=(1:Int) then some (retM [(4,TV.l (AL.v (Value.slice none 0 0)))] m [] []) else if (↑m.tasks.length:Int)=(↑m.tasks.length:Int)∧m.tasks.length=m.tasks.length∧m.tasks.length<1000000 then (stuckFromI m.tasks 0).bind fun (val:List StuckRow)=>bif val.isEmpty then some (retM [(4,TV.l (AL.v (Value.slice none 0 0)))] m [] []) else some (retM [(4,TV.l (AL.sl (Tg.loc 0) 0 3 val.length))] m [{ty:=67,sz:=3,fix:=false,o:=some (LO.rows [IntKind.i64,IntKind.i64,IntKind.i64] (List.map stRow val)):LObj TI}] []) else none:=by kernel_rfl
def skV (ra:List StuckRow):TV TI:=bif ra.isEmpty then noSV else .l (.sl (.loc 0) 0 3 ra.length)
def skL (ra:List StuckRow):List (LObj TI):=bif ra.isEmpty then [] else [obRows (ra.map stRow)]
theorem stuck_round (m:IM)(hn:m.tasks.length<1000000)(j:Nat)(t:ITask)(hg:m.tasks[j]?=some t)(ra r:List StuckRow)(hra:ra.length≤j)(hr:stuckRow j t=some r):
  roundM (wb:=wb) (hv:=hv) (hk:=hk) (noOp _) (tabA.at [] []) [] [] wk0 900 Try.f35 (loopsOf stD.c) (lStuck wb hv hk) [pmV,skV ra,.l (.sl (.m .tasks) 0 1 m.tasks.length),iV m.tasks.length,iV j] m (skL ra) []=
   some (nrmM (zipK [5,6,22,23,24] [pmV,skV (ra++r),.l (.sl (.m .tasks) 0 1 m.tasks.length),iV m.tasks.length,iV (j+1:Nat)]) m (skL (ra++r)) []):=by
 have hlt:j<m.tasks.length:=(List.getElem?_eq_some_iff.1 hg).1
 have hlt':(j:Int)<(m.tasks.length:Int):=by omega
 have hw:=wrap_succ (j:=j) (by omega)
 have hw':IntKind.i64.wrap ((j:Int)+1)=((j+1:Nat):Int):=by rw[hw];omega
 unfold stuckRow at hr
 cases ra with
 |nil=>
  show roundM (wb:=wb) (hv:=hv) (hk:=hk) (noOp _) (tabA.at [] []) [] [] wk0 900 Try.f35 (loopsOf stD.c) (lStuck wb hv hk) [pmV,noSV,.l (.sl (.m .tasks) 0 1 m.tasks.length),iV m.tasks.length,iV j] m [] []=_
  rw[rawS0];simp only[hlt,hlt',decide_true,cond_true,Nat.zero_add,Nat.le_refl,Int.natCast_nonneg,and_self,true_and,if_true,Int.toNat_natCast,hg,Option.bind_some,hw']
  by_cases h34:t.state=3∨t.state=4
  ·rw[if_pos h34] at hr
   cases hr
   rcases h34 with h3|h4
   ·simp[h3,skV,skL,zipK,stRow]
    rfl
   ·simp[h4,skV,skL,zipK,stRow]
    rfl
  ·rw[if_neg h34] at hr
   have n3:¬t.state=3:=fun h=>h34 (.inl h)
   have n4:¬t.state=4:=fun h=>h34 (.inr h)
   by_cases h5:t.state=5
   ·rw[if_pos h5] at hr
    split at hr
    ·rename_i c cs hc
     cases hr
     simp[h5,hc,skV,skL,zipK,stRow];rfl
    ·cases hr
   ·rw[if_neg h5] at hr
    cases hr
    simp[n3,n4,h5,skV,skL,zipK]
 |cons x xs=>
  have e0:skV (x::xs)=.l (.sl (.loc 0) 0 3 (x::xs).length):=rfl;have e1:skL (x::xs)=[obRows ((x::xs).map stRow)]:=rfl;rw[e0,e1,rawS1];generalize hk0:(x::xs).length=k at hra
  have hlen:((x::xs).map stRow).length=k:=by rw[List.length_map,hk0]
  have htk:List.take k (List.drop 0 ((x::xs).map stRow))=(x::xs).map stRow:=List.take_of_length_le (by rw[List.drop_zero,hlen];exact Nat.le_refl _)
  have g1:(k+1)*24≤140737488355328:=by omega
  have g2:k+1≤9223372036854775807:=by omega
  have hb:∀v:List Int,Nat.ble ((x::xs).map stRow++[v]).length 9223372036854775807=true:=fun v=>Nat.ble_eq_true_of_le (by rw[List.length_append,hlen];exact g2)
  have fin:∀r:StuckRow,skV (x::xs++[r])=.l (.sl (.loc 0) 0 3 (k+1))∧skL (x::xs++[r])=[obRows ((x::xs).map stRow++[stRow r])]:=fun r=>by
   refine⟨?_,?_⟩
   ·show TV.l (.sl (.loc 0) 0 3 (x::xs++[r]).length)=_
    rw[List.length_append,hk0];rfl
   ·show [obRows ((x::xs++[r]).map stRow)]=_
    rw[List.map_append];rfl
  simp only[hlt,hlt',decide_true,cond_true,Nat.zero_add,Nat.le_refl,Int.natCast_nonneg,and_self,true_and,if_true,Int.toNat_natCast,hg,Option.bind_some,hw',hlen,htk,g1,g2,hb]
  by_cases h34:t.state=3∨t.state=4
  ·rw[if_pos h34] at hr
   cases hr
   rw[(fin _).1,(fin _).2]
   rcases h34 with h3|h4
   ·simp[h3,zipK,stRow]
    rfl
   ·simp[h4,zipK,stRow]
    rfl
  ·rw[if_neg h34] at hr
   have n3:¬t.state=3:=fun h=>h34 (.inl h)
   have n4:¬t.state=4:=fun h=>h34 (.inr h)
   by_cases h5:t.state=5
   ·rw[if_pos h5] at hr
    split at hr
    ·rename_i c cs hc
     cases hr
     rw[(fin _).1,(fin _).2];simp[h5,hc,zipK,stRow];rfl
    ·cases hr
   ·rw[if_neg h5] at hr
    cases hr
    rw[List.append_nil,e0,e1,hk0];simp[n3,n4,h5,zipK]
theorem stuck_iter (m:IM)(hn:m.tasks.length<1000000):∀(rest pre:List ITask) (ra rs:List StuckRow),m.tasks=pre++rest→ra.length≤pre.length→stuckFromI rest pre.length=some rs→
  iterM (wb:=wb) (hv:=hv) (hk:=hk) (noOp _) (tabA.at [] []) [] [] wk0 900 Try.f35 (loopsOf stD.c) (lStuck wb hv hk) (rest.length+1) [pmV,skV ra,.l (.sl (.m .tasks) 0 1 m.tasks.length),iV m.tasks.length,iV pre.length] m (skL ra) []=
   some (exM 0 [(6,skV (ra++rs))] m (skL (ra++rs)) [])
 |[],pre,ra,rs,h,hra,hs=>by
  simp only[stuckFromI,Option.some.injEq] at hs;subst hs;simp only[List.append_nil] at h ⊢
  refine iterM_exit ?_ (fun s h=>by cases h)
  cases ra with
  |nil=>
   show roundM (wb:=wb) (hv:=hv) (hk:=hk) (noOp _) (tabA.at [] []) [] [] wk0 900 Try.f35 (loopsOf stD.c) (lStuck wb hv hk) [pmV,noSV,.l (.sl (.m .tasks) 0 1 m.tasks.length),iV m.tasks.length,iV pre.length] m [] []=_
   rw[rawS0];simp[h];rfl
  |cons x xs=>
   show roundM (wb:=wb) (hv:=hv) (hk:=hk) (noOp _) (tabA.at [] []) [] [] wk0 900 Try.f35 (loopsOf stD.c) (lStuck wb hv hk) [pmV,.l (.sl (.loc 0) 0 3 (x::xs).length),.l (.sl (.m .tasks) 0 1 m.tasks.length),iV m.tasks.length,iV pre.length] m [obRows ((x::xs).map stRow)] []=_
   rw[rawS1];simp[h];rfl
 |t::rest,pre,ra,rs,h,hra,hs=>by
  simp only[stuckFromI,bind,Option.bind_eq_some_iff,Option.some.injEq] at hs;obtain⟨r,hr,rs',hs',rfl⟩:=hs
  have hg:m.tasks[pre.length]?=some t:=by rw[h];simp
  have hr1:r.length≤1:=by
   unfold stuckRow at hr
   split at hr
   ·cases hr;simp
   ·split at hr
    ·split at hr
     ·cases hr;simp
     ·cases hr
    ·cases hr;simp
  have hp:(pre++[t]).length=pre.length+1:=by simp
  have ih:=stuck_iter m hn rest (pre++[t]) (ra++r) rs' (by simp[h]) (by rw[hp,List.length_append];omega) (by rw[hp];exact hs');rw[←List.append_assoc,←ih]
  refine iterM_succ [pmV,skV (ra++r),.l (.sl (.m .tasks) 0 1 m.tasks.length),iV m.tasks.length,iV (pre++[t]).length] ?_
  rw[hp];exact stuck_round m hn pre.length t hg ra r hra hr
theorem stuck_lp {LS:List (Nat×Code)}{ld:List (LoopD (DM wb hv hk))}(hld:LpOk PG (tabA.at [] []) (DM wb hv hk) Try.f35.ntmps LS ld)(hLS:LS=(loopsOf stD.c)):LpOk PG (tabA.at [] []) (DM wb hv hk) Try.f35.ntmps LS (lStuck wb hv hk::ld):=by
 subst hLS
 refine mkLp (tabAOk.at _ _) (mdI_ok _) mixOk noOp_ok EnvOk.nil hld (wk:=wk0) (N:=900) LpOk.nil (by kernel_rfl) fun vs m L dk κ x h0=>?_
 simp only[lStuck] at h0
 split at h0
 ·split at h0
  case isFalse=>cases h0
  rename_i n n' hc;obtain⟨rfl,rfl,hn⟩:=hc
  split at h0
  ·cases h0
  ·rename_i rs hs
   have:=stuck_iter (wb:=wb) (hv:=hv) (hk:=hk) m hn m.tasks [] [] rs rfl (Nat.le_refl _) hs;refine⟨_,_,this,?_⟩;rw[List.nil_append]
   cases rs with
   |nil=>exact h0
   |cons x xs=>exact h0
 ·cases h0
end Go.Beat
end
section
namespace Go.Beat
open Go _root_.Beat Go.Proofs
attribute [local simp] int_beq int_bne ble_dec
set_option maxRecDepth 100000
def leftR (S0:Sto (Tg TI))(w:World)(v:TV TI)(L:List (LObj TI)):Ending→World→Prop:=fun e w'=>∃(wb:Nat) (B:Base (DM wb .nilFunc none)) (m':IM) (S':Sto (Tg TI)),e=.returned (encT S' v)∧Rel B m' L [] S' w'∧Kp S0 w S' w'
theorem stuck_calls {F g:Nat}{p:_root_.Beat.Plan}{inp:_root_.Beat.Input}{S0:Sto (Tg TI)}{w:World}{m':IM}{rs:List StuckRow}(hro:∀t cs,roI (mNew p inp none) t=some cs→RoAt S0 w t ((MI YM).sz t) cs)(hown:∀b,S0.own b=none)(hnil:∀t:TI,(mdI (GM 0 .nilFunc none)).isro t=false→S0.loc (.m t)=SL.none)(h:IM.playQ F g p inp=some m')(ht:m'.tasks.length<1000000)(hs:m'.stuckOf=some rs):
  Calls PG 35 #[encT S0 (plnV p.bodies.length p.rooms.length p.slice),encT S0 (inpV inp.feed.length inp.ticks inp.until_)] w (leftR S0 w (skV rs) (skL rs)):=by
 refine calls_of_wp (fn:=Try.f35) (c:=bd Try.f35) (by kernel_rfl) (by kernel_rfl) ?_
 have hF0:FrmA Try.f35.ntmps [] {tmps:=#[encT S0 (plnV p.bodies.length p.rooms.length p.slice),encT S0 (inpV inp.feed.length inp.ticks inp.until_)]++Array.replicate (Try.f35.ntmps - #[encT S0 (plnV p.bodies.length p.rooms.length p.slice),encT S0 (inpV inp.feed.length inp.ticks inp.until_)].size) undef,defers:=[]} S0 (argsFr 0 [plnV p.bodies.length p.rooms.length p.slice,inpV inp.feed.length inp.ticks inp.until_]):=frm_args (vs:=[plnV p.bodies.length p.rooms.length p.slice,inpV inp.feed.length inp.ticks inp.until_]) (of_decide_eq_true rfl)
 refine st_enter hro hown hnil h hF0 fun wb S1 a1 w1 R1 hF1 k1=>?_
 have hseg:segF (D:=DM wb .nilFunc none) (noOp _) (tabA.at [] []) [] [lStuck wb .nilFunc none] wk0 900 Try.f35.ntmps stD [pmV] m' [] []=some (retM [(4,skV rs)] m' (skL rs) []):=(rawS (wb:=wb) (hv:=.nilFunc) (hk:=none) m').trans (by
  unfold IM.stuckOf at hs
  by_cases hc:m'.code=1
  ·rw[if_pos hc] at hs
   rw[hc,if_pos ⟨rfl,rfl,ht⟩,hs]
   cases rs<;>rfl
  ·rw[if_neg hc] at hs
   cases hs
   have:(m'.code !=1)=true:=by simp[hc]
   rw[this]
   rfl)
 refine seg_wp (D:=DM wb .nilFunc none) (d:=stD) (tabAOk.at _ _) (mdI_ok _) mixOk noOp_ok EnvOk.nil (stuck_lp LpOk.nil rfl) (by kernel_rfl) rfl rfl hseg body_put (fun S2 a2 w2 hF2 R2=>?_) hF1 R1
 have hres:(results Try.f35 a2.tmps).run PG w2=.ok (encT S2 (skV rs)) w2:=by
  cases rs with
  |nil=>
   obtain⟨xs,h1,h2⟩:=run_results (s:=⟨[(4,skV [])],m',skL [],[]⟩) (fn:=Try.f35) (tabAOk.at [] []) (mdI_ok _) hF2 R2 (κ:=some) (x:=[.inl (.v (.slice none 0 0))]) (by kernel_rfl)
   cases h1
   exact h2
  |cons x xs=>
   obtain⟨xs',h1,h2⟩:=run_results (s:=⟨[(4,skV (x::xs))],m',skL (x::xs),[]⟩) (fn:=Try.f35) (tabAOk.at [] []) (mdI_ok _) hF2 R2 (κ:=some) (x:=[.inl (.sl (.loc 0) 0 3 (x::xs).length)]) (by kernel_rfl)
   cases h1
   exact h2
 exact⟨hF2.defs,_,hres,wb,_,m',S2,rfl,R2,k1.trans R2.kp⟩
end Go.Beat
end
section
namespace Go.Beat
open Go _root_.Beat Go.Proofs
attribute [local simp] int_beq int_bne ble_dec
set_option maxRecDepth 100000
variable {wb:Nat}
theorem Rel.own {D:Md}{B:Base D}{st:D.σ}{S:Sto (Tg D.τ)}{w:World}(R:Rel B st [] [] S w)(O:MdOk D){ob:LObj D.τ}{o:LO D.τ}(ho:ob.o=some o)(hob:ob.has (isLoc 0)=false){sl:SL}(hlen:∃n,o.flat.length=n*ob.sz∧n≤sl.cap)(hcap:sl.cap≤9223372036854775807)(hpos:0<ob.sz)(hnil:sl.nil=false)(hfix:ob.fix=true→sl.off=0)(hblk:∃pre post:List Value,w.heap[sl.b]?=some (.cells (pre++o.flat.map (encL S)++post).toArray ob.ty (0,0))∧pre.length=sl.off∧sl.cap*ob.sz≤(o.flat.map (encL S)++post).length)(hown:S.own sl.b=none)(hro:∀t cs,D.ro st t=some cs→cs≠[]→(S.loc (.m t)).b≠sl.b)(pk gk:List Nat):
  Rel ⟨S.put (.loc 0) sl,w,st,pk,gk⟩ st [ob] [] (S.put (.loc 0) sl) w∧(∀t,(S.put (.loc 0) sl).loc (.m t)=S.loc (.m t))∧Kp ⟨fun b=>if b=sl.b then none else S.own b,S.loc⟩ w ⟨fun b=>if b=sl.b then none else (S.put (.loc 0) sl).own b,S.loc⟩ w:=by
 have hl:∀t,isLoc 0 t=false→(S.put (.loc 0) sl).loc t=S.loc t:=fun t ht=>Sto.put_loc_ne S _ (locne ht)
 have hlm:∀t:D.τ,(S.put (.loc 0) sl).loc (.m t)=S.loc (.m t):=fun t=>hl (.m t) rfl
 have hne:∀{b:Nat},b≠sl.b→(S.put (.loc 0) sl).own b=S.own b:=fun h=>Sto.put_own S _ sl h
 have hsame:(S.put (.loc 0) sl).own sl.b=some (.loc 0):=by simp[Sto.put,hnil]
 have hcm:∀t,contA st [] [ob] (.m t)=contA (D:=D) st [] [] (.m t):=fun t=>rfl
 have hb:sl.b<w.heap.size:=by
  obtain⟨pre,post,h1,_⟩:=hblk;exact (Array.getElem?_eq_some_iff.1 h1).1
 refine⟨⟨fun t cs ht=>?_,fun b hb'=>?_,Kp.refl _ _,fun t cs ht=>?_,?_,fun _ _=>rfl,fun _ _ h=>h,rfl,fun _ _ _=>rfl⟩,hlm,⟨rfl,rfl,rfl,Nat.le_refl _,fun b _=>?_,fun _ _ _=>rfl⟩⟩
 ·cases t with
  |loc j=>
   match j,ht with
   |0,ht=>
    have e:encC (S.put (.loc 0) sl) (contA (D:=D) st [] [ob]) (.loc 0)=some (o.flat.map (encL (S.put (.loc 0) sl))):=by simp[encC,contA,ho]
    rw[e] at ht;simp only[Option.some.injEq] at ht;subst ht;rw[flat_enc hl hob ho];have hloc:(S.put (.loc 0) sl).loc (.loc 0)=sl:=Sto.put_loc S _ sl;have e1:(metaA D [ob]).ty (.loc 0)=ob.ty:=rfl;have e2:(metaA D [ob]).sz (.loc 0)=ob.sz:=rfl;have e3:(metaA D [ob]).fix (.loc 0)=ob.fix:=rfl;refine⟨?_,?_,?_,?_,?_,?_⟩
    ·rw[hloc,e2,List.length_map];exact hlen
    ·rw[hloc];exact hcap
    ·rw[e2];exact hpos
    ·rw[hloc,e3];exact fun h=>⟨hnil,hfix h⟩
    ·rw[hloc,hnil];exact fun h=>by cases h
    ·rw[hloc,e1,e2];exact fun _=>⟨hsame,hblk⟩
   |j+1,ht=>simp[encC,contA] at ht
  |m t=>
   have e:encC (S.put (.loc 0) sl) (contA (D:=D) st [] [ob]) (.m t)=encC S (contA (D:=D) st [] []) (.m t):=by
    have:=congrFun (cont_new (D:=D) (st:=st) (dk:=[]) (L:=[]) (S:=S) (S':=S.put (.loc 0) sl) O (j:=0) hl rfl) (.m t);exact (by simp only[encC,hcm]:encC (S.put (.loc 0) sl) (contA (D:=D) st [] [ob]) (.m t)=encC (S.put (.loc 0) sl) (contA (D:=D) st [] []) (.m t)).trans this
   rw[e] at ht;have H:=R.H (.m t) cs ht;refine⟨?_,?_,H.pos,?_,?_,?_⟩
   ·rw[hlm];exact H.len
   ·rw[hlm];exact H.cap
   ·rw[hlm];exact H.fix
   ·rw[hlm];exact H.nil
   ·rw[hlm]
    intro hn;obtain⟨h1,h2⟩:=H.blk hn;refine⟨?_,h2⟩;rw[hne (fun hh=>by rw[hh,hown] at h1;cases h1)];exact h1
 ·rw[hne (by omega)]
  exact R.fresh b hb'
 ·have r:=R.ro t cs ht
  refine r.moved (hlm t) (fun a ha=>?_) fun h _=>?_
  ·have:=O.rocell st t cs ht a ha
   cases a with
   |v x=>rfl
   |p=>exact this.elim
   |sl t' k s n=>
    cases t' with
    |m z=>simp only[encL,hlm]
    |loc j=>exact this.elim
  ·rw[hne (hro t cs ht h)]
   exact (r.own h).1
 ·refine O.exd st S w _ R.ex (fun b hb'=>?_) fun t _=>hlm t
  obtain⟨pre,post,h1,_⟩:=hblk;rw[hne (fun hh=>hb' _ _ _ (by rw[hh];exact h1))]
 ·by_cases h:b=sl.b
  ·simp[h]
  ·simp only[if_neg h,hne h]
noncomputable def rp0:SegD:=⟨seqL (bd Try.f27),[0,1],[2,3,4],[],3,0⟩
noncomputable def rp1:Code:=seqL (seqR (bd Try.f27))
noncomputable def rp2:Code:=seqR (seqR (bd Try.f27))
theorem rp_eq:bd Try.f27=.seq rp0.c (.seq rp1 rp2):=by kernel_rfl
theorem rp1_eq:rp1=.region 1 (opsOf rp1) false:=by kernel_rfl
theorem rp2_eq:rp2=.ret:=by kernel_rfl
noncomputable def rpc:Oper:=(opsOf rp1).toList.getD 2 (default:Oper)
theorem rpc_eq:(opsOf rp1).toList=(opsOf rp1).toList.take 2++(rpc::(opsOf rp1).toList.drop 3):=by kernel_rfl
theorem rpc_op:rpc.op=.call {callee:=.value (.func 66),args:=#[.tmp 5,.tmp 6,.const .nilFunc],argTypes:=#[35,39,139]}:=by kernel_rfl
theorem rpc_dst:rpc.dst=some 7:=by kernel_rfl
theorem rpc_guard:rpc.guard=none:=by kernel_rfl
abbrev obRp (cs:List (AL TI)):LObj TI:=⟨53,1,true,some (.cells cs)⟩
abbrev rp0C:List (AL TI):=[.v (i64 0),.v (.slice none 0 0),.v (i64 0),.v (i64 0),.v (.slice none 0 0)]
abbrev rpC (m:IM):List (AL TI):=[.v (i64 m.code),.sl (.m .recs) 0 4 m.recs.length,.v (i64 m.time),.v (i64 m.ticks),.sl (.m .states) 0 1 m.states.length]
theorem rp_r0 (m:IM)(nb nr n:Nat)(sl t u:Int):
 segF (D:=D0) (noOp _) (tabA.at [] []) [] [] wk0 100 Try.f27.ntmps rp0 [plnV nb nr sl,inpV n t u] m [] []=
  some (.norm ⟨[(2,lcV 0),(3,lcV 1),(4,lcV 2)],m,[obPl nb nr sl,obIn n t u,obRp rp0C],[]⟩):=by kernel_rfl
theorem rp_r1 (m:IM)(nb nr n:Nat)(sl t u:Int):
 opsP (D:=D0) (tabA.at [] []) (envOf (noOp _) [] (AS D0)) Try.f27.ntmps (opsOf rp1) ((opsOf rp1).toList.take 2) ⟨[(2,lcV 0),(3,lcV 1),(4,lcV 2)],m,[obPl nb nr sl,obIn n t u,obRp rp0C],[]⟩ some (fun _ _=>none)=
  some ⟨(6,inpV n t u)::(5,plnV nb nr sl)::[(2,lcV 0),(3,lcV 1),(4,lcV 2)],m,[obPl nb nr sl,obIn n t u,obRp rp0C],[]⟩:=by kernel_rfl
theorem rp_r2 {wb:Nat}(m:IM):opsP (D:=DM wb .nilFunc none) (tabA.at [] []) (envOf (noOp _) [] (AS (DM wb .nilFunc none))) Try.f27.ntmps (opsOf rp1) ((opsOf rp1).toList.drop 3) ⟨[(7,pmV),(4,lcV 0)],m,[obRp rp0C],[]⟩ some (fun _ _=>none)=
 some ⟨[(10,.agg (rpC m)),(9,.l (.p (.m .mach) 0 1 6)),(8,pmV),(7,pmV),(4,lcV 0)],m,[obRp (rpC m)],[]⟩:=by kernel_rfl
def leftM (S0:Sto (Tg TI))(w:World)(m':IM)(v:TV TI)(L:List (LObj TI)):Ending→World→Prop:=fun e w'=>∃(wb:Nat) (B:Base (DM wb .nilFunc none)) (S':Sto (Tg TI)),e=.returned (encT S' v)∧Rel B m' L [] S' w'∧Kp S0 w S' w'
theorem runplan_calls {F g:Nat}{p:_root_.Beat.Plan}{inp:_root_.Beat.Input}{S0:Sto (Tg TI)}{w:World}{m':IM}(hro:∀t cs,roI (mNew p inp none) t=some cs→RoAt S0 w t ((MI YM).sz t) cs)(hown:∀b,S0.own b=none)(hnil:∀t:TI,(mdI (GM 0 .nilFunc none)).isro t=false→S0.loc (.m t)=SL.none)(h:IM.playQ F g p inp=some m'):
  Calls PG 27 #[encT S0 (plnV p.bodies.length p.rooms.length p.slice),encT S0 (inpV inp.feed.length inp.ticks inp.until_)] w (leftM S0 w m' (.agg (rpC m')) [obRp (rpC m')]):=by
 refine calls_of_wp (fn:=Try.f27) (c:=bd Try.f27) (by kernel_rfl) (by kernel_rfl) ?_
 have hF:FrmA Try.f27.ntmps [] {tmps:=#[encT S0 (plnV p.bodies.length p.rooms.length p.slice),encT S0 (inpV inp.feed.length inp.ticks inp.until_)]++Array.replicate (Try.f27.ntmps - #[encT S0 (plnV p.bodies.length p.rooms.length p.slice),encT S0 (inpV inp.feed.length inp.ticks inp.until_)].size) undef,defers:=[]} S0 (argsFr 0 [plnV p.bodies.length p.rooms.length p.slice,inpV inp.feed.length inp.ticks inp.until_]):=frm_args (vs:=[plnV p.bodies.length p.rooms.length p.slice,inpV inp.feed.length inp.ticks inp.until_]) (of_decide_eq_true rfl);generalize ({tmps:=#[encT S0 (plnV p.bodies.length p.rooms.length p.slice),encT S0 (inpV inp.feed.length inp.ticks inp.until_)]++Array.replicate (Try.f27.ntmps - #[encT S0 (plnV p.bodies.length p.rooms.length p.slice),encT S0 (inpV inp.feed.length inp.ticks inp.until_)].size) undef,defers:=[]}:Act)=a at hF;rw[rp_eq]
 refine wp_seq (endQ_then' (seg_wp (D:=D0) (d:=rp0) (tabAOk.at [] []) (mdS_ok _) mixOk noOp_ok EnvOk.nil LpOk.nil (by kernel_rfl) rfl rfl (rp_r0 (mNew p inp none) _ _ _ _ _ _) (endQ_put (J:=(Code.seq rp1 rp2).wp PG _)) (fun S1 a1 w1 hF1 R1=>?_) hF (start0 hro hown)))
 show (Code.seq rp1 rp2).wp PG _ a1 w1
 refine wp_seq ?_
 rw[rp1_eq]
 refine wp_region_list ?_
 rw[rpc_eq]
 refine wpList_append ?_
 have hC0:CallOk (D:=D0) PG (envOf (noOp _) [] (AS D0)):=envOf_ok noOp_ok EnvOk.nil _
 refine opsP_ok (D:=D0) (tabAOk.at _ _) (mdS_ok _) hC0 (n:=Try.f27.ntmps) (ds:=[]) (B:=⟨S0,w,mNew p inp none,[],[]⟩) rfl rfl (κ:=some) (κp:=fun _ _=>none) (fun s' S2 a2 w2 h2 hF2 R2=>?_) (fun _ _ _ _ _ h=>by cases h) _ _ _ _ _ (rp_r1 (mNew p inp none) _ _ _ _ _ _) hF1 R1
 cases h2
 show wpList PG _ _ (rpc::(opsOf rp1).toList.drop 3) a2 w2
 unfold wpList;rw[if_pos (wanted_of rpc_guard)]
 refine .inl ?_
 unfold Oper.wp;rw[call66 rpc_op];have ei:a2.eval (.tmp 5)=encT S2 (plnV p.bodies.length p.rooms.length p.slice):=hF2.eval (x:=.tmp 5) (v:=plnV p.bodies.length p.rooms.length p.slice) rfl;have ej:a2.eval (.tmp 6)=encT S2 (inpV inp.feed.length inp.ticks inp.until_):=hF2.eval (x:=.tmp 6) (v:=inpV inp.feed.length inp.ticks inp.until_) rfl;rw[ei,ej];simp only[Oper.upon]
 -- the report's box
 have H2:=R2.atLoc (j:=2) (ob:=obRp rp0C) (o:=.cells rp0C) rfl rfl;have hfx:=H2.fix rfl;obtain⟨hown2,hblk2⟩:=H2.blk hfx.1
 refine (play_called hnil R2 h).mono fun e w3 he=>?_
 obtain⟨wb,B,S3,rfl,R3,k3,l3,ro3⟩:=he;simp only[rpc_dst]
 have hsz2:(S2.loc (.loc 2)).b<w2.heap.size:=by
  obtain⟨pre,post,h1,_⟩:=hblk2;exact (Array.getElem?_eq_some_iff.1 h1).1
 have hown3:S3.own (S2.loc (.loc 2)).b=none:=(k3.own _ hsz2).2 rfl;have hheap3:w3.heap[(S2.loc (.loc 2)).b]?=w2.heap[(S2.loc (.loc 2)).b]?:=k3.keep _ hsz2 rfl
 have hro3:∀(t:TI) cs,(DM wb .nilFunc none).ro m' t=some cs→cs≠[]→(S3.loc (.m t)).b≠(S2.loc (.loc 2)).b:=fun t cs ht hne=>by
  have hisro:(mdI (GM 0 .nilFunc none)).isro t=true:=(mdI_ok (GM wb .nilFunc none)).rois m' t cs ht;have ht0:roI (mNew p inp none) t=some cs:=(congrFun ro3 t).symm.trans ht;rw[l3 t hisro]
  show (S2.loc (.m t)).b≠_
  intro hh;have r2:=(R2.ro t cs ht0).own hne;rw[hh,hown2] at r2
  cases r2.1
 obtain⟨R3',hm3,hk3⟩:=Rel.own (ob:=obRp rp0C) (o:=.cells rp0C) (R3.rebase [] []) (mdI_ok _) rfl rfl (sl:=S2.loc (.loc 2)) (by have:=H2.len;rw[List.length_map] at this;exact this) H2.cap (of_decide_eq_true rfl) hfx.1 (fun _=>hfx.2) (by
  obtain⟨pre,post,h1,h2,h3⟩:=hblk2
  exact⟨pre,post,hheap3.trans h1,h2,h3⟩) hown3 hro3 [] []
 have hF3:FrmA Try.f27.ntmps [] (a2.put (some 7) (encT S3 pmV)) (S3.put (.loc 0) (S2.loc (.loc 2))) [(7,pmV),(4,lcV 0)]:=by
  have h0:FrmA Try.f27.ntmps [] a2 (S3.put (.loc 0) (S2.loc (.loc 2))) [(4,lcV 0)]:=⟨hF2.defs,hF2.size,fun t v ht=>by
   by_cases h4:t=4
   ·subst h4
    cases ht
    refine (hF2.get 4 (lcV 2) rfl).trans ?_
    exact enc_p (Sto.put_loc S3 (.loc 0) (S2.loc (.loc 2)))
   ·simp[lookA,Ne.symm h4] at ht⟩
  exact h0.put (d:=7) (of_decide_eq_true rfl) (v:=pmV) (u:=encT S3 pmV) (fun v' h=>by cases h;exact enc_p (hm3 TI.mach))
 have hC:CallOk (D:=DM wb .nilFunc none) PG (envOf (noOp _) [] (AS (DM wb .nilFunc none))):=envOf_ok noOp_ok EnvOk.nil _
 refine opsP_ok (D:=DM wb .nilFunc none) (tabAOk.at _ _) (mdI_ok _) hC (n:=Try.f27.ntmps) (ds:=[]) (B:=⟨S3.put (.loc 0) (S2.loc (.loc 2)),w3,m',[],[]⟩) rfl rfl (κ:=some) (κp:=fun _ _=>none) (fun s' S4 a4 w4 h4 hF4 R4=>?_) (fun _ _ _ _ _ h=>by cases h) _ _ _ _ _ (rp_r2 m') hF3 R3'
 cases h4
 show rp2.wp PG _ a4 w4
 rw[rp2_eq]
 refine wp_ret ?_
 have hres:(results Try.f27 a4.tmps).run PG w4=.ok (encT S4 (.agg (rpC m'))) w4:=by
  obtain⟨xs,h1,h2⟩:=run_results (D:=DM wb .nilFunc none) (s:=⟨[(10,.agg (rpC m')),(9,.l (.p (.m .mach) 0 1 6)),(8,pmV),(7,pmV),(4,lcV 0)],m',[obRp (rpC m')],[]⟩) (fn:=Try.f27) (tabAOk.at [] []) (mdI_ok _) hF4 R4 (κ:=some) (x:=[.inr (rpC m')]) (by kernel_rfl)
  cases h1
  exact h2
 refine⟨hF4.defs,_,hres,wb,_,S4,rfl,R4,?_⟩;have kk:=play_kept hown R2.kp k3;refine⟨R4.kp.os.trans kk.os,R4.kp.tape.trans kk.tape,R4.kp.output.trans kk.output,Nat.le_trans kk.size R4.kp.size,fun b hb=>?_,fun b hb ho=>?_⟩
 ·have hb4:b≠(S2.loc (.loc 2)).b:=fun hh=>by
   have:=(R2.kp.own b hb).2 (hown b);rw[hh,hown2] at this
   cases this
  have h3:(S3.put (.loc 0) (S2.loc (.loc 2))).own b=S3.own b:=Sto.put_own S3 _ _ hb4;have h5:=R4.kp.own b (Nat.lt_of_lt_of_le hb kk.size)
  have h6:S4.own b=none↔S3.own b=none:=by rw[←h3];exact h5
  exact h6.trans (kk.own b hb)
 ·have hb4:b≠(S2.loc (.loc 2)).b:=fun hh=>by
   have:=(R2.kp.own b hb).2 (hown b);rw[hh,hown2] at this
   cases this
  have h3:(S3.put (.loc 0) (S2.loc (.loc 2))).own b=S3.own b:=Sto.put_own S3 _ _ hb4;exact (R4.kp.keep b (Nat.lt_of_lt_of_le hb kk.size) (h3.trans ((kk.own b hb).2 ho))).trans (kk.keep b hb ho)
end Go.Beat
end
section
namespace Beat
def ringW (tasks:List ITask)(i:Nat):Nat→Nat→List Nat→Option (List Nat×Bool)
 |0,_,_=>none
 |f+1,k,ring=>do
  let t ←tasks[k]?
  if t.state=3∧ring.length≤tasks.length then do
   let k1 ←chanNo t.target
   if k1=i then some (ring++[k],true) else ringW tasks i f k1 (ring++[k])
  else some (ring,false)
theorem ringW_walk (tasks:List ITask)(i:Nat):∀(f k:Nat) (ring:List Nat),ringWalk tasks i f k ring=(ringW tasks i f k ring).map fun q=>if q.2 then some q.1 else none
 |0,_,_=>rfl
 |f+1,k,ring=>by
  simp only[ringWalk,ringW,bind]
  cases tasks[k]? with
  |none=>rfl
  |some t=>
   simp only[Option.bind_some]
   by_cases hc:t.state=3∧ring.length≤tasks.length
   ·rw[if_pos hc,if_pos hc]
    cases chanNo t.target with
    |none=>rfl
    |some k1=>
     simp only[Option.bind_some]
     by_cases h1:k1=i
     ·rw[if_pos h1,if_pos h1];rfl
     ·rw[if_neg h1,if_neg h1];exact ringW_walk tasks i f k1 _
   ·rw[if_neg hc,if_neg hc];rfl
end Beat
namespace Go.Beat
open Go _root_.Beat Go.Proofs
attribute [local simp] int_beq int_bne ble_dec
def rgV (ring:List Nat):TV TI:=bif ring.isEmpty then noSV else bif Nat.beq ring.length 1 then .l (.sl (.loc 1) 0 1 1) else .l (.sl (.loc 2) 0 1 ring.length)
def rgL (ring:List Nat):List (LObj TI):=bif ring.isEmpty then [] else bif Nat.beq ring.length 1 then [obE1 (ring.getLastD 0:Nat),obI (ring.map Int.ofNat)] else [⟨3,1,false,none⟩,obE1 (ring.getLastD 0:Nat),obI (ring.map Int.ofNat)]
def lRingIn (wb:Nat)(hv:Value)(hk:Option Int):LoopD (DM wb hv hk):=⟨2,[5,6,7,8,22,23],[4,5,22,23],0,3,some 7,fun vs m L dk κ=>match vs,L,dk with
 |[.l (.p (.m .mach) 0 1 0),.l (.v (.int .i64 i)),.l (.v (.slice none 0 0)),.l (.v (.int .i64 i')),.l (.v (.int .i64 n)),.l (.v (.int .i64 j))],[],[]=>
  natOf i fun i=>if i'=i∧(IM.tasks m).length<1000000 then (match ringW (IM.tasks m) i ((IM.tasks m).length+2) i [] with
   |none=>none
   |some q=>bif q.2 then κ (.ret ⟨[(4,rgV q.1),(5,pmV),(22,iV n),(23,iV j)],m,rgL q.1,[]⟩)
    else bif q.1.isEmpty then κ (.exit 2 ⟨[(5,pmV),(22,iV n),(23,iV j)],m,[],[]⟩) else κ (.exit 2 ⟨[(5,pmV),(22,iV n),(23,iV j)],m,[obI (q.1.map Int.ofNat)],[]⟩)) else none
 |_,_,_=>none⟩
def lRing (wb:Nat)(hv:Value)(hk:Option Int):LoopD (DM wb hv hk):=⟨0,[5,22,23],[4],0,3,none,fun vs m L dk κ=>match vs,L,dk with
 |[.l (.p (.m .mach) 0 1 0),.l (.v (.int .i64 n)),.l (.v (.int .i64 0))],[],[]=>
  if n=(IM.tasks m).length∧(IM.tasks m).length<1000000 then (match ringFromI (IM.tasks m) (IM.tasks m).length 0 with
   |none=>none
   |some ring=>bif ring.isEmpty then κ (.exit 0 ⟨[],m,[],[]⟩) else κ (.ret ⟨[(4,rgV ring)],m,rgL ring,[]⟩)) else none
 |_,_,_=>none⟩
noncomputable def rgE:SegD:=⟨rg2,[5],[5],[4],0,3⟩
end Go.Beat
end
section
namespace Go.Beat
open Go _root_.Beat Go.Proofs
attribute [local simp] int_beq int_bne ble_dec
set_option maxRecDepth 100000
variable {wb:Nat} {hv:Value} {hk:Option Int}
theorem rawRg0 {wb:Nat}{hv:Value}{hk:Option Int}(m:IM)(i k:Nat)(n j:Int):roundM (wb:=wb) (hv:=hv) (hk:=hk) (noOp _) (tabA.at [] []) [] [] wk0 900 Try.f34 (loopsOf (loopC (loopsOf rgE.c) 0)) (lRingIn wb hv hk) [pmV,iV i,noSV,iV k,iV n,iV j] m [] []=if 0+m.tasks.length≤m.tasks.length∧(0:Int)≤(↑k:Int)∧(↑k:Int)<(↑m.tasks.length:Int) then if 0+(↑k:Int).toNat<m.tasks.length then m.tasks[0+(↑k:Int).toNat]?.bind fun (val:ITask)=>bif val.state==(3:Int) then if 0+m.tasks.length≤m.tasks.length∧(0:Int)≤(↑k:Int)∧(↑k:Int)<(↑m.tasks.length:Int) then if 0+(↑k:Int).toNat<m.tasks.length then m.tasks[0+(↑k:Int).toNat]?.bind fun (val:ITask)=>bif val.target==(↑i:Int) then some (retM [(4,TV.l (AL.sl (Tg.loc 1) 0 1 1)),(5,TV.l (AL.p (Tg.m TI.mach) 0 1 0)),(22,TV.l (AL.v (Value.int IntKind.i64 n))),(23,TV.l (AL.v (Value.int IntKind.i64 j)))] m [{ty:=3,sz:=1,fix:=false,o:=some (LO.cells [AL.v (Value.int IntKind.i64 (↑k:Int))]):LObj (DM wb hv hk).τ},{ty:=3,sz:=1,fix:=false,o:=some (LO.ints IntKind.i64 [(↑k:Int)]):LObj (DM wb hv hk).τ}] []) else some (nrmM [(5,TV.l (AL.p (Tg.m TI.mach) 0 1 0)),(6,TV.l (AL.v (Value.int IntKind.i64 (↑i:Int)))),(7,TV.l (AL.sl (Tg.loc 0) 0 1 1)),(8,TV.l (AL.v (Value.int IntKind.i64 val.target))),(22,TV.l (AL.v (Value.int IntKind.i64 n))),(23,TV.l (AL.v (Value.int IntKind.i64 j)))] m [{ty:=3,sz:=1,fix:=false,o:=some (LO.ints IntKind.i64 [(↑k:Int)]):LObj (DM wb hv hk).τ}] []) else none else none else some (exM 2 [(5,TV.l (AL.p (Tg.m TI.mach) 0 1 0)),(22,TV.l (AL.v (Value.int IntKind.i64 n))),(23,TV.l (AL.v (Value.int IntKind.i64 j)))] m [] []) else none else none:=by kernel_rfl
theorem rawRg1 {wb:Nat}{hv:Value}{hk:Option Int}(m:IM)(i k q:Nat)(n j:Int)(ys:List Int):roundM (wb:=wb) (hv:=hv) (hk:=hk) (noOp _) (tabA.at [] []) [] [] wk0 900 Try.f34 (loopsOf (loopC (loopsOf rgE.c) 0)) (lRingIn wb hv hk) [pmV,iV i,.l (.sl (.loc 0) 0 1 q),iV k,iV n,iV j] m [obI ys] []=if 0+m.tasks.length≤m.tasks.length∧(0:Int)≤(↑k:Int)∧(↑k:Int)<(↑m.tasks.length:Int) then if 0+(↑k:Int).toNat<m.tasks.length then m.tasks[0+(↑k:Int).toNat]?.bind fun (val:ITask)=>bif val.state==(3:Int) then bif decide ((↑q:Int)≤(↑m.tasks.length:Int)) then if 0+q≤ys.length∧(q+1)*8≤140737488355328∧q+1≤9223372036854775807 then bif (List.take q (List.drop 0 ys)++[(↑k:Int)]).length.ble 9223372036854775807 then if 0+m.tasks.length≤m.tasks.length∧(0:Int)≤(↑k:Int)∧(↑k:Int)<(↑m.tasks.length:Int) then if 0+(↑k:Int).toNat<m.tasks.length then m.tasks[0+(↑k:Int).toNat]?.bind fun (val:ITask)=>bif val.target==(↑i:Int) then some (retM [(4,TV.l (AL.sl (Tg.loc 2) 0 1 (q+1))),(5,TV.l (AL.p (Tg.m TI.mach) 0 1 0)),(22,TV.l (AL.v (Value.int IntKind.i64 n))),(23,TV.l (AL.v (Value.int IntKind.i64 j)))] m [{ty:=3,sz:=1,fix:=false,o:=none:LObj (DM wb hv hk).τ},{ty:=3,sz:=1,fix:=false,o:=some (LO.cells [AL.v (Value.int IntKind.i64 (↑k:Int))]):LObj (DM wb hv hk).τ},{ty:=3,sz:=1,fix:=false,o:=some (LO.ints IntKind.i64 (List.take q (List.drop 0 ys)++[(↑k:Int)])):LObj (DM wb hv hk).τ}] []) else some (nrmM [(5,TV.l (AL.p (Tg.m TI.mach) 0 1 0)),(6,TV.l (AL.v (Value.int IntKind.i64 (↑i:Int)))),(7,TV.l (AL.sl (Tg.loc 0) 0 1 (q+1))),(8,TV.l (AL.v (Value.int IntKind.i64 val.target))),(22,TV.l (AL.v (Value.int IntKind.i64 n))),(23,TV.l (AL.v (Value.int IntKind.i64 j)))] m [{ty:=3,sz:=1,fix:=false,o:=some (LO.ints IntKind.i64 (List.take q (List.drop 0 ys)++[(↑k:Int)])):LObj (DM wb hv hk).τ}] []) else none else none else none else none else some (exM 2 [(5,TV.l (AL.p (Tg.m TI.mach) 0 1 0)),(22,TV.l (AL.v (Value.int IntKind.i64 n))),(23,TV.l (AL.v (Value.int IntKind.i64 j)))] m [{ty:=3,sz:=1,fix:=false,o:=some (LO.ints IntKind.i64 ys):LObj TI}] []) else some (exM 2 [(5,TV.l (AL.p (Tg.m TI.mach) 0 1 0)),(22,TV.l (AL.v (Value.int IntKind.i64 n))),(23,TV.l (AL.v (Value.int IntKind.i64 j)))] m [{ty:=3,sz:=1,fix:=false,o:=some (LO.ints IntKind.i64 ys):LObj TI}] []) else none else none:=by kernel_rfl
theorem rawRgO {wb:Nat}{hv:Value}{hk:Option Int}(m:IM)(n:Nat)(j:Nat):roundM (wb:=wb) (hv:=hv) (hk:=hk) (noOp _) (tabA.at [] []) [] [lRingIn wb hv hk] wk0 900 Try.f34 (loopsOf rgE.c) (lRing wb hv hk) [pmV,iV n,iV j] m [] []=bif decide ((↑j:Int)<(↑n:Int)) then if (↑j:Int)=(↑(↑j:Int).toNat:Int)∧m.tasks.length<1000000 then (ringW m.tasks (↑j:Int).toNat (m.tasks.length+2) (↑j:Int).toNat []).bind fun (val:List Nat×Bool)=>bif val.snd then some (retM (keepO [(4,rgV val.fst),(5,pmV),(22,iV (↑n:Int)),(23,iV (↑j:Int))] [4]) m (List.take 3 (rgL val.fst)) []) else bif val.fst.isEmpty then some (nrmM [(5,TV.l (AL.p (Tg.m TI.mach) 0 1 0)),(22,TV.l (AL.v (Value.int IntKind.i64 (↑n:Int)))),(23,TV.l (AL.v (Value.int IntKind.i64 (IntKind.i64.wrap ((↑j:Int)+(1:Int))))))] m [] []) else some (nrmM [(5,TV.l (AL.p (Tg.m TI.mach) 0 1 0)),(22,TV.l (AL.v (Value.int IntKind.i64 (↑n:Int)))),(23,TV.l (AL.v (Value.int IntKind.i64 (IntKind.i64.wrap ((↑j:Int)+(1:Int))))))] m [] []) else none else some (exM 0 [] m [] []):=by kernel_rfl
theorem rawRg {wb:Nat}{hv:Value}{hk:Option Int}(m:IM):segM (wb:=wb) (hv:=hv) (hk:=hk) (noOp _) (tabA.at [] []) [] [lRing wb hv hk] wk0 900 Try.f34.ntmps rgE [pmV] m [] []=bif m.code !=(1:Int) then some (retM [(4,TV.l (AL.v (Value.slice none 0 0)))] m [] []) else if (↑m.tasks.length:Int)=(↑m.tasks.length:Int)∧m.tasks.length<1000000 then (ringFromI m.tasks m.tasks.length 0).bind fun (val:List Nat)=>bif val.isEmpty then some (retM [(4,TV.l (AL.v (Value.slice none 0 0)))] m [] []) else some (retM (keepO [(4,rgV val)] [4]) m (List.take 3 (rgL val)) []) else none:=by kernel_rfl
theorem rgV_more {ring:List Nat}(h:ring≠[])(k:Nat):rgV (ring++[k])=.l (.sl (.loc 2) 0 1 (ring.length+1))∧rgL (ring++[k])=[⟨3,1,false,none⟩,obE1 (k:Nat),obI (ring.map Int.ofNat++[(k:Int)])]:=by
 cases ring with
 |nil=>exact absurd rfl h
 |cons x xs=>
  have e1:((x::xs)++[k]).isEmpty=false:=rfl
  have e2:Nat.beq ((x::xs)++[k]).length 1=false:=by
   cases hb:Nat.beq ((x::xs)++[k]).length 1 with
   |false=>rfl
   |true=>have:=Nat.eq_of_beq_eq_true hb;simp at this
  have e3:((x::xs)++[k]).length=(x::xs).length+1:=by simp
  have e4:((x::xs)++[k]).getLastD 0=k:=List.getLastD_concat ..
  have e5:((x::xs)++[k]).map Int.ofNat=(x::xs).map Int.ofNat++[(k:Int)]:=by simp
  unfold rgV rgL;rw[e1,e2,e3,e4,e5];exact⟨rfl,rfl⟩
def inO (q:List Nat×Bool)(m:IM)(n j:Int):SM_ wb hv hk:=bif q.2 then retM [(4,rgV q.1),(5,pmV),(22,iV n),(23,iV j)] m (rgL q.1) [] else exM 2 [(5,pmV),(22,iV n),(23,iV j)] m (outL q.1) []
theorem ringIn_iter (m:IM)(hn:m.tasks.length<1000000)(i:Nat)(n j:Int):∀(f k:Nat) (ring:List Nat) (q:List Nat×Bool),ringW m.tasks i f k ring=some q→
  iterM (wb:=wb) (hv:=hv) (hk:=hk) (noOp _) (tabA.at [] []) [] [] wk0 900 Try.f34 (loopsOf (loopC (loopsOf rgE.c) 0)) (lRingIn wb hv hk) f [pmV,iV i,outV 0 ring,iV k,iV n,iV j] m (outL ring) []=some (inO q m n j)
 |0,_,_,_,h=>by cases h
 |f+1,k,ring,q,h=>by
  simp only[ringW,bind,Option.bind_eq_some_iff] at h;obtain⟨t,ht,h⟩:=h;have hkl:=get_some ht
  have hkl':(k:Int)<(m.tasks.length:Int):=by omega
  have e0:0+k=k:=Nat.zero_add k;have e1:0+m.tasks.length=m.tasks.length:=Nat.zero_add _
  by_cases hc:t.state=3∧ring.length≤m.tasks.length
  ·rw[if_pos hc] at h
   simp only[Option.bind_eq_some_iff] at h;obtain⟨k1,h1,h⟩:=h
   have htg:t.target=(k1:Int):=by
    unfold chanNo at h1
    split at h1
    ·cases h1;omega
    ·cases h1
   have hs:(t.state==3)=true:=by rw[hc.1];rfl
   cases ring with
   |nil=>
    by_cases hi:k1=i
    ·rw[if_pos hi] at h
     cases h
     refine iterM_exit (o:=inO ([]++[k],true) m n j) ?_ (fun s h=>by cases h)
     show roundM (wb:=wb) (hv:=hv) (hk:=hk) (noOp _) (tabA.at [] []) [] [] wk0 900 Try.f34 (loopsOf (loopC (loopsOf rgE.c) 0)) (lRingIn wb hv hk) [pmV,iV i,noSV,iV k,iV n,iV j] m [] []=_
     rw[rawRg0];subst hi;obtain⟨_,ht'⟩:=List.getElem?_eq_some_iff.1 ht;simp[ht',hkl,hc.1,htg,inO,rgV,rgL,retM];rfl
    ·rw[if_neg hi] at h
     rw[←ringIn_iter m hn i n j f k1 [k] q h]
     refine iterM_succ [pmV,iV i,outV 0 [k],iV k1,iV n,iV j] ?_
     show roundM (wb:=wb) (hv:=hv) (hk:=hk) (noOp _) (tabA.at [] []) [] [] wk0 900 Try.f34 (loopsOf (loopC (loopsOf rgE.c) 0)) (lRingIn wb hv hk) [pmV,iV i,noSV,iV k,iV n,iV j] m [] []=_
     rw[rawRg0]
     have hi':¬(k1:Int)=(i:Int):=by omega
     obtain⟨_,ht'⟩:=List.getElem?_eq_some_iff.1 ht;simp[ht',hkl,hc.1,htg,hi',outV,outL,zipK,nrmM,lRingIn];rfl
   |cons x xs=>
    have hr:=hc.2;have e2:outV 0 (x::xs)=.l (.sl (.loc 0) 0 1 (x::xs).length):=rfl;have e3:outL (x::xs)=[obI ((x::xs).map Int.ofNat)]:=rfl;rw[e2,e3];have hmap:((x::xs).map Int.ofNat).length=(x::xs).length:=List.length_map ..;have htk:List.take (x::xs).length (List.drop 0 ((x::xs).map Int.ofNat))=(x::xs).map Int.ofNat:=List.take_of_length_le (by rw[List.drop_zero,hmap];exact Nat.le_refl _)
    have g1:((x::xs).length+1)*8≤140737488355328:=by omega
    have g2:(x::xs).length+1≤9223372036854775807:=by omega
    have g3:(List.map Int.ofNat (x::xs)++[(k:Int)]).length.ble 9223372036854775807=true:=Nat.ble_eq_true_of_le (by rw[List.length_append,hmap];exact g2)
    have g4:((x::xs).length:Int)≤(m.tasks.length:Int):=by omega
    by_cases hi:k1=i
    ·rw[if_pos hi] at h
     cases h;obtain⟨r1,r2⟩:=rgV_more (ring:=x::xs) (by simp) k
     refine iterM_exit (o:=inO ((x::xs)++[k],true) m n j) ?_ (fun s h=>by cases h)
     rw[rawRg1];simp only[e0,e1,Int.toNat_natCast,ht,hkl,hkl',Option.bind_some,hs,cond_true,g4,decide_true,htk,g3,hmap,Nat.zero_add,Nat.le_refl,g1,g2,htg,hi,Int.natCast_nonneg,and_self,if_true,beq_self_eq_true,inO,r1,r2,retM];rfl
    ·rw[if_neg hi] at h
     have hi':((k1:Int)==(i:Int))=false:=by simp;omega
     rw[←ringIn_iter m hn i n j f k1 ((x::xs)++[k]) q h]
     refine iterM_succ [pmV,iV i,outV 0 ((x::xs)++[k]),iV k1,iV n,iV j] ?_
     rw[rawRg1]
     have e4:outV 0 ((x::xs)++[k])=.l (.sl (.loc 0) 0 1 ((x::xs).length+1)):=by
      have:((x::xs)++[k]).length=(x::xs).length+1:=by simp
      unfold outV;rw[this];rfl
     have e5:outL ((x::xs)++[k])=[obI ((x::xs).map Int.ofNat++[(k:Int)])]:=by
      have:((x::xs)++[k]).map Int.ofNat=(x::xs).map Int.ofNat++[(k:Int)]:=by simp
      unfold outL;rw[this];rfl
     rw[e4,e5];simp only[e0,e1,Int.toNat_natCast,ht,hkl,hkl',Option.bind_some,hs,cond_true,cond_false,g4,decide_true,htk,g3,hmap,Nat.zero_add,Nat.le_refl,g1,g2,htg,hi',Int.natCast_nonneg,and_self,if_true,zipK,nrmM,lRingIn];rfl
  ·rw[if_neg hc] at h
   cases h
   refine iterM_exit (o:=inO (ring,false) m n j) ?_ (fun s h=>by cases h)
   cases ring with
   |nil=>
    have h3:(t.state==3)=false:=by
     have:¬t.state=3:=fun h=>hc ⟨h,Nat.zero_le _⟩
     simpa using this
    show roundM (wb:=wb) (hv:=hv) (hk:=hk) (noOp _) (tabA.at [] []) [] [] wk0 900 Try.f34 (loopsOf (loopC (loopsOf rgE.c) 0)) (lRingIn wb hv hk) [pmV,iV i,noSV,iV k,iV n,iV j] m [] []=_
    rw[rawRg0];simp only[e0,e1,Int.toNat_natCast,ht,hkl,hkl',Option.bind_some,h3,cond_false,Nat.le_refl,Int.natCast_nonneg,and_self,if_true];rfl
   |cons x xs=>
    have e2:outV 0 (x::xs)=.l (.sl (.loc 0) 0 1 (x::xs).length):=rfl;have e3:outL (x::xs)=[obI ((x::xs).map Int.ofNat)]:=rfl;rw[e2,e3,rawRg1];simp only[e0,e1,Int.toNat_natCast,ht,hkl,hkl',Option.bind_some,Nat.le_refl,Int.natCast_nonneg,and_self,if_true]
    by_cases h3:t.state=3
    ·have h3':(t.state==3)=true:=by rw[h3];rfl
     have h4:decide (((x::xs).length:Int)≤(m.tasks.length:Int))=false:=decide_eq_false (fun h=>hc ⟨h3,by omega⟩);rw[h3',h4];rfl
    ·have h3':(t.state==3)=false:=by simpa using h3
     rw[h3'];rfl
theorem ringIn_lp {LS:List (Nat×Code)}(hLS:LS=(loopsOf (loopC (loopsOf rgE.c) 0))):LpOk PG (tabA.at [] []) (DM wb hv hk) Try.f34.ntmps LS [lRingIn wb hv hk]:=by
 subst hLS
 refine mkLp (tabAOk.at _ _) (mdI_ok _) mixOk noOp_ok EnvOk.nil LpOk.nil (wk:=wk0) (N:=900) LpOk.nil (by kernel_rfl) fun vs m L dk κ x h0=>?_
 simp only[lRingIn] at h0
 split at h0
 ·rename_i nn jj
  obtain⟨i,rfl,h1⟩:=natOf_some h0;clear h0
  split at h1
  case isFalse=>cases h1
  rename_i hc;obtain⟨rfl,hn⟩:=hc
  split at h1
  ·cases h1
  ·rename_i q hq
   have:=ringIn_iter (wb:=wb) (hv:=hv) (hk:=hk) m hn i nn jj _ _ [] q hq;refine⟨_,_,this,?_⟩;unfold inO
   cases hb:q.2 with
   |true=>rw[hb] at h1;exact h1
   |false=>
    rw[hb] at h1;simp only[cond_false] at h1 ⊢;unfold outL
    cases he:q.1.isEmpty with
    |true=>rw[he] at h1;exact h1
    |false=>rw[he] at h1;exact h1
 ·cases h0
theorem keep_rg (ring:List Nat)(r:AFr TI):keepO ((4,rgV ring)::r) [4]=[(4,rgV ring)]:=by
 unfold rgV
 cases ring.isEmpty with
 |true=>rfl
 |false=>cases Nat.beq ring.length 1<;>rfl
theorem take_rg (ring:List Nat):List.take 3 (rgL ring)=rgL ring:=by
 unfold rgL
 cases ring.isEmpty with
 |true=>rfl
 |false=>cases Nat.beq ring.length 1<;>rfl
theorem ringW_app (tasks:List ITask)(i:Nat):∀(f k:Nat) (ring r:List Nat),ringW tasks i f k ring=some (r,true)→r.isEmpty=false
 |0,_,_,_,h=>by cases h
 |f+1,k,ring,r,h=>by
  simp only[ringW,bind,Option.bind_eq_some_iff] at h;obtain⟨t,_,h⟩:=h
  split at h
  ·simp only[Option.bind_eq_some_iff] at h
   obtain⟨k1,_,h⟩:=h
   split at h
   ·cases h;cases ring<;>rfl
   ·exact ringW_app tasks i f k1 _ r h
  ·cases h
theorem ringO_iter (m:IM)(hn:m.tasks.length<1000000):∀(d j:Nat) (ring:List Nat),j+d=m.tasks.length→ringFromI m.tasks d j=some ring→
  iterM (wb:=wb) (hv:=hv) (hk:=hk) (noOp _) (tabA.at [] []) [] [lRingIn wb hv hk] wk0 900 Try.f34 (loopsOf rgE.c) (lRing wb hv hk) (d+1) [pmV,iV m.tasks.length,iV j] m [] []=some (bif ring.isEmpty then exM 0 [] m [] [] else retM [(4,rgV ring)] m (rgL ring) [])
 |0,j,ring,hj,h=>by
  simp only[ringFromI,Option.some.injEq] at h;subst h
  refine iterM_exit ?_ (fun s h=>by cases h)
  rw[rawRgO];have:decide ((j:Int)<(m.tasks.length:Int))=false:=decide_eq_false (by omega);rw[this];rfl
 |d+1,j,ring,hj,h=>by
  simp only[ringFromI,bind,Option.bind_eq_some_iff] at h;obtain⟨r,hr,h⟩:=h;rw[ringW_walk] at hr;simp only[Option.map_eq_some_iff] at hr;obtain⟨q,hq,hr⟩:=hr;have hlt:decide ((j:Int)<(m.tasks.length:Int))=true:=decide_eq_true (by omega);have hraw:=rawRgO (wb:=wb) (hv:=hv) (hk:=hk) m m.tasks.length j;rw[hlt] at hraw;simp only[cond_true,Int.toNat_natCast,true_and,hn,if_true,hq,Option.bind_some] at hraw
  cases hb:q.2 with
  |true=>
   rw[hb] at hr hraw;simp only[if_true] at hr;subst hr;simp only[Option.some.injEq] at h;subst h;have he:q.1.isEmpty=false:=ringW_app m.tasks j _ _ [] q.1 (by rw[hq];rw[←hb]);rw[he];simp only[cond_false]
   refine iterM_exit ?_ (fun s h=>by cases h)
   rw[hraw];simp only[cond_true,keep_rg,take_rg]
  |false=>
   rw[hb] at hr hraw;simp only[Bool.false_eq_true,if_false] at hr;subst hr
   simp only at h
   rw[←ringO_iter m hn d (j+1) ring (by omega) h]
   refine iterM_succ [pmV,iV m.tasks.length,iV (j+1:Nat)] ?_
   rw[hraw]
   have hw:IntKind.i64.wrap ((j:Int)+1)=((j+1:Nat):Int):=by rw[wrap_succ (j:=j) (by omega)];omega
   cases q.1.isEmpty<;>simp only[cond_true,cond_false,hw]<;>rfl
theorem ring_lp {LS:List (Nat×Code)}(hLS:LS=(loopsOf rgE.c)):LpOk PG (tabA.at [] []) (DM wb hv hk) Try.f34.ntmps LS [lRing wb hv hk]:=by
 subst hLS
 refine mkLp (tabAOk.at _ _) (mdI_ok _) mixOk noOp_ok EnvOk.nil LpOk.nil (wk:=wk0) (N:=900) (ringIn_lp rfl) (by kernel_rfl) fun vs m L dk κ x h0=>?_
 simp only[lRing] at h0
 split at h0
 ·split at h0
  case isFalse=>cases h0
  rename_i hc;obtain⟨rfl,hn⟩:=hc
  split at h0
  ·cases h0
  ·rename_i ring hr
   have:=ringO_iter (wb:=wb) (hv:=hv) (hk:=hk) m hn m.tasks.length 0 ring (by omega) hr;refine⟨_,_,this,?_⟩
   cases he:ring.isEmpty with
   |true=>rw[he] at h0;exact h0
   |false=>rw[he] at h0;exact h0
 ·cases h0
theorem ring_calls {F g:Nat}{p:_root_.Beat.Plan}{inp:_root_.Beat.Input}{S0:Sto (Tg TI)}{w:World}{m':IM}{rs:List Nat}(hro:∀t cs,roI (mNew p inp none) t=some cs→RoAt S0 w t ((MI YM).sz t) cs)(hown:∀b,S0.own b=none)(hnil:∀t:TI,(mdI (GM 0 .nilFunc none)).isro t=false→S0.loc (.m t)=SL.none)(h:IM.playQ F g p inp=some m')(ht:m'.tasks.length<1000000)(hs:m'.ringOf=some rs):
  Calls PG 34 #[encT S0 (plnV p.bodies.length p.rooms.length p.slice),encT S0 (inpV inp.feed.length inp.ticks inp.until_)] w (leftR S0 w (rgV rs) (rgL rs)):=by
 refine calls_of_wp (fn:=Try.f34) (c:=bd Try.f34) (by kernel_rfl) (by kernel_rfl) ?_
 have hF0:FrmA Try.f34.ntmps [] {tmps:=#[encT S0 (plnV p.bodies.length p.rooms.length p.slice),encT S0 (inpV inp.feed.length inp.ticks inp.until_)]++Array.replicate (Try.f34.ntmps - #[encT S0 (plnV p.bodies.length p.rooms.length p.slice),encT S0 (inpV inp.feed.length inp.ticks inp.until_)].size) undef,defers:=[]} S0 (argsFr 0 [plnV p.bodies.length p.rooms.length p.slice,inpV inp.feed.length inp.ticks inp.until_]):=frm_args (vs:=[plnV p.bodies.length p.rooms.length p.slice,inpV inp.feed.length inp.ticks inp.until_]) (of_decide_eq_true rfl)
 refine rg_enter hro hown hnil h hF0 fun wb S1 a1 w1 R1 hF1 k1=>?_
 have hseg:segF (D:=DM wb .nilFunc none) (noOp _) (tabA.at [] []) [] [lRing wb .nilFunc none] wk0 900 Try.f34.ntmps rgE [pmV] m' [] []=some (retM [(4,rgV rs)] m' (rgL rs) []):=(rawRg (wb:=wb) (hv:=.nilFunc) (hk:=none) m').trans (by
  unfold IM.ringOf at hs
  by_cases hc:m'.code=1
  ·rw[if_pos hc] at hs
   rw[hc,if_pos ⟨rfl,ht⟩,hs];simp only[Option.bind_some,keep_rg,take_rg]
   cases he:rs.isEmpty with
   |true=>
    have:=List.isEmpty_iff.1 he;subst this;rfl
   |false=>rfl
  ·rw[if_neg hc] at hs
   cases hs
   have:(m'.code !=1)=true:=by simp[hc]
   rw[this]
   rfl)
 refine seg_wp (D:=DM wb .nilFunc none) (d:=rgE) (tabAOk.at _ _) (mdI_ok _) mixOk noOp_ok EnvOk.nil (ring_lp rfl) (by kernel_rfl) rfl rfl hseg body_put (fun S2 a2 w2 hF2 R2=>?_) hF1 R1
 have hres:(results Try.f34 a2.tmps).run PG w2=.ok (encT S2 (rgV rs)) w2:=by
  have:∃b,rgV rs=.l b∧TV.ok (rgV rs)=some (rgV rs):=by
   unfold rgV
   cases rs.isEmpty with
   |true=>exact⟨_,rfl,rfl⟩
   |false=>cases Nat.beq rs.length 1<;>exact ⟨_,rfl,rfl⟩
  obtain⟨b,hb,_⟩:=this;rw[hb] at hF2 ⊢;obtain⟨xs,h1,h2⟩:=run_results (s:=⟨[(4,.l b)],m',rgL rs,[]⟩) (fn:=Try.f34) (tabAOk.at [] []) (mdI_ok _) hF2 R2 (κ:=some) (x:=[.inl b]) (by kernel_rfl)
  cases h1
  exact h2
 exact⟨hF2.defs,_,hres,wb,_,m',S2,rfl,R2,k1.trans R2.kp⟩
end Go.Beat
end
section
namespace Beat
def Le {α:Type}(a b:Option α):Prop:=∀r,a=some r→b=some r
theorem Le.refl {α:Type}(a:Option α):Le a a:=fun _ h=>h
theorem Le.bind {α β:Type}{a a':Option α}{f f':α→Option β}(h:Le a a')(k:∀x,Le (f x) (f' x)):Le (a.bind f) (a'.bind f'):=fun r hr=>by
 obtain⟨x,hx,hr⟩:=Option.bind_eq_some_iff.1 hr;exact Option.bind_eq_some_iff.2 ⟨x,h x hx,k x r hr⟩
end Beat
namespace Go.Beat
open Go _root_.Beat
attribute [local simp] int_beq int_bne ble_dec
end Go.Beat
end
