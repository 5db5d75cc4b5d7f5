/-
  Texts joined by a program (shake.py), without what the claim does not use; printed walks among them (print.sh), and own ones.
-/
import Derived.Test.YtejjedooecephaaSleep17
import Derived.Test.YtejjedooecephaaSleep21
section
namespace Go.Beat
open Go _root_.Beat Go.Proofs
attribute [local simp] int_beq int_bne ble_dec
set_option maxRecDepth 100000
variable {wb:Nat} {hv:Value} {hk:Option Int}
theorem raw100 {wb:Nat}{hv:Value}{hk:Option Int}(m:IM)(i:Nat):runM (wb:=wb) (hv:=hv) (hk:=hk) (noOp _) (tabA.at [4] []) [] [] wk0 300 Try.f100 [mchV,iV i] m=if 0+m.tasks.length≤m.tasks.length∧(0:Int)≤(i:Int)∧(i:Int)<(m.tasks.length:Int) then if 0+i<m.tasks.length then m.tasks[0+i]?.bind fun val=>(m.tasks.set (0+i) (val.wState (0:Int)))[0+i]?.bind fun val_1=>if 0+m.row.length≤(List.map Int.ofNat m.row).length∧(m.row.length+1)*8≤140737488355328∧m.row.length+1≤9223372036854775807 then bif (List.take m.row.length (List.drop 0 (List.map Int.ofNat m.row))++[(i:Int)]).length.ble 9223372036854775807 then if 0+(m.row.length+1)≤(List.take m.row.length (List.drop 0 (List.map Int.ofNat m.row))++[(i:Int)]).length then (toNats (List.take (m.row.length+1) (List.drop 0 (List.take m.row.length (List.drop 0 (List.map Int.ofNat m.row))++[(i:Int)])))).bind fun (val_2:List Nat)=>if IntKind.i64=IntKind.i64∧m.row.length+1=val_2.length then some (okM (TV.tup []) (((m.setT (0+i) (val.wState (0:Int))).setT (0+i) (val_1.wDue (-1:Int))).wRow val_2) []) else none else none else none else none else none else none:=by kernel_rfl
theorem raw104 {wb:Nat}{hv:Value}{hk:Option Int}(m:IM)(i c:Nat)(n:Int)(b:Bool):runM (wb:=wb) (hv:=hv) (hk:=hk) (noOp _) (tabA.at [] []) [] [] wk0 300 Try.f104 [mchV,iV i,iV c,iV n,bV b] m=if 0+m.tasks.length≤m.tasks.length∧(0:Int)≤(i:Int)∧(i:Int)<(m.tasks.length:Int) then if 0+i<m.tasks.length then m.tasks[0+i]?.bind fun val=>if (0:Int)≤val.a∧val.a<(4:Int) then m.tasks[0+i]?.bind fun val_1=>if val.a.toNat<4∧val.a.toNat<val_1.regs.length then bif b then (m.tasks.set (0+i) (val_1.wRegs (val_1.regs.set val.a.toNat n)))[0+i]?.bind fun val_2=>bif val_2.op==(12:Int) then (m.tasks.set (0+i) (val_1.wRegs (val_1.regs.set val.a.toNat n)))[0+i]?.bind fun val_3=>bif (c:Int) !=val_3.pick0 then (m.tasks.set (0+i) (val_1.wRegs (val_1.regs.set val.a.toNat n)))[0+i]?.bind fun val_4=>if 3<4∧3<val_4.regs.length then some (okM (TV.tup []) ((m.setT (0+i) (val_1.wRegs (val_1.regs.set val.a.toNat n))).setT (0+i) (val_4.wRegs (val_4.regs.set (3) (2:Int)))) []) else none else (m.tasks.set (0+i) (val_1.wRegs (val_1.regs.set val.a.toNat n)))[0+i]?.bind fun val_4=>if 3<4∧3<val_4.regs.length then some (okM (TV.tup []) ((m.setT (0+i) (val_1.wRegs (val_1.regs.set val.a.toNat n))).setT (0+i) (val_4.wRegs (val_4.regs.set (3) (1:Int)))) []) else none else (m.tasks.set (0+i) (val_1.wRegs (val_1.regs.set val.a.toNat n)))[0+i]?.bind fun val_3=>if 3<4∧3<val_3.regs.length then some (okM (TV.tup []) ((m.setT (0+i) (val_1.wRegs (val_1.regs.set val.a.toNat n))).setT (0+i) (val_3.wRegs (val_3.regs.set (3) (1:Int)))) []) else none else (m.tasks.set (0+i) (val_1.wRegs (val_1.regs.set val.a.toNat n)))[0+i]?.bind fun val_2=>if 3<4∧3<val_2.regs.length then some (okM (TV.tup []) ((m.setT (0+i) (val_1.wRegs (val_1.regs.set val.a.toNat n))).setT (0+i) (val_2.wRegs (val_2.regs.set (3) (0:Int)))) []) else none else none else none else none else none:=by kernel_rfl
theorem raw118 {wb:Nat}{hv:Value}{hk:Option Int}(m:IM)(k:Nat)(s:Int):runM (wb:=wb) (hv:=hv) (hk:=hk) (noOp _) (tabA.at [] []) [] [] wk0 300 Try.f118 [mchV,tskV k,iV s] m=m.tasks[k]?.bind fun val=>if (0:Int)≤val.a∧val.a<(4:Int) then m.tasks[k]?.bind fun val_1=>if val.a.toNat<4∧val.a.toNat<val_1.regs.length then (m.tasks.set k (val_1.wRegs (val_1.regs.set val.a.toNat (0:Int))))[k]?.bind fun val_2=>if 3<4∧3<val_2.regs.length then bif s==(6:Int) then ((m.tasks.set k (val_1.wRegs (val_1.regs.set val.a.toNat (0:Int)))).set k (val_2.wRegs (val_2.regs.set (3) (0:Int))))[k]?.bind fun val_3=>if 3<4∧3<val_3.regs.length then some (okM (TV.tup []) (((m.setT k (val_1.wRegs (val_1.regs.set val.a.toNat (0:Int)))).setT k (val_2.wRegs (val_2.regs.set (3) (0:Int)))).setT k (val_3.wRegs (val_3.regs.set (3) (1:Int)))) []) else none else some (okM (TV.tup []) ((m.setT k (val_1.wRegs (val_1.regs.set val.a.toNat (0:Int)))).setT k (val_2.wRegs (val_2.regs.set (3) (0:Int)))) []) else none else none else none:=by kernel_rfl
theorem ready_raw {m m':IM}{i:Nat}(h:m.ready i=some m'):runM (wb:=wb) (hv:=hv) (hk:=hk) (noOp _) (tabA.at [4] []) [] [] wk0 300 Try.f100 [mchV,iV i] m=some (okM (.tup []) m' []):=by
 rw[raw100];simp only[IM.ready,bind,Option.bind_eq_some_iff] at h;obtain⟨t,ht,row,hr,h⟩:=h;obtain⟨hr,rfl⟩:=push_some hr;simp only[Option.some.injEq] at h;subst h;obtain⟨hi,ht⟩:=List.getElem?_eq_some_iff.1 ht
 have h1:(m.row.length+1)*8≤140737488355328:=by omega
 have h2:m.row.length+1≤9223372036854775807:=by omega
 simp[hi,ht,h1,h2]
theorem ready_ok:CtrOk (D:=DM wb hv hk) PG 100 (cReady wb hv hk):=mkCtr tabAOk (mdI_ok _) mixOk noOp_ok EnvOk.nil (fn:=Try.f100) (by kernel_rfl) (by kernel_rfl) (by kernel_rfl) [4] [] (by kernel_rfl) LpOk.nil (I:=fun _=>True) (fun _ _ _ _=>trivial) fun vs st κ x h=>by
 simp only[cReady] at h
 split at h
 ·obtain⟨n,rfl,h2⟩:=natOf_some h
  clear h
  split at h2
  ·cases h2
  ·rename_i m' hm
   exact⟨of_decide_eq_true rfl,_,_,_,h2,fun _=>ready_raw hm⟩
 ·cases h
theorem gets_raw {m m':IM}{i c:Nat}{n:Int}{b:Bool}(h:m.gets i c n b=some m'):runM (wb:=wb) (hv:=hv) (hk:=hk) (noOp _) (tabA.at [] []) [] [] wk0 300 Try.f104 [mchV,iV i,iV c,iV n,bV b] m=some (okM (.tup []) m' []):=by
 rw[raw104];simp only[IM.gets,bind,Option.bind_eq_some_iff] at h;obtain⟨t,ht,t1,h1,t2,h2,h⟩:=h;obtain⟨a1,a2,a3,rfl⟩:=setR_some h1;obtain⟨-, -,b3,rfl⟩:=setR_some h2;simp only[Option.some.injEq] at h;subst h;obtain⟨hi,ht⟩:=List.getElem?_eq_some_iff.1 ht
 have h4:t.a.toNat<4:=by omega
 cases b with
 |false=>simp[hi,ht,a1,a2,a3,h4,ITask.flag]
 |true=>
  by_cases g1:t.op=12
  ·by_cases g2:(c:Int)=t.pick0
   ·simp[hi,ht,a1,a2,a3,h4,ITask.flag,g1,g2]
   ·simp[hi,ht,a1,a2,a3,h4,ITask.flag,g1,g2]
  ·simp[hi,ht,a1,a2,a3,h4,ITask.flag,g1]
theorem gets_ok:CtrOk (D:=DM wb hv hk) PG 104 (cGets wb hv hk):=mkCtr tabAOk (mdI_ok _) mixOk noOp_ok EnvOk.nil (fn:=Try.f104) (by kernel_rfl) (by kernel_rfl) (by kernel_rfl) [] [] (by kernel_rfl) LpOk.nil (I:=fun _=>True) (fun _ _ _ _=>trivial) fun vs st κ x h=>by
 simp only[cGets] at h
 split at h
 ·obtain⟨i,rfl,h1⟩:=natOf_some h
  obtain⟨c,rfl,h2⟩:=natOf_some h1;clear h h1
  split at h2
  ·cases h2
  ·rename_i m' hm
   exact⟨of_decide_eq_true rfl,_,_,_,h2,fun _=>gets_raw hm⟩
 ·cases h
theorem waited_raw {m m':IM}{k:Nat}{s:Int}(h:m.waited k s=some m'):runM (wb:=wb) (hv:=hv) (hk:=hk) (noOp _) (tabA.at [] []) [] [] wk0 300 Try.f118 [mchV,tskV k,iV s] m=some (okM (.tup []) m' []):=by
 rw[raw118];simp only[IM.waited,ITask.waited,bind,Option.bind_eq_some_iff] at h;obtain⟨t,ht,t3,⟨t1,h1,t2,h2,h3⟩,h⟩:=h;obtain⟨a1,a2,a3,rfl⟩:=setR_some h1;obtain⟨-, -,b3,rfl⟩:=setR_some h2;simp only[Option.some.injEq] at h;subst h;obtain⟨hi,ht⟩:=List.getElem?_eq_some_iff.1 ht
 have h4:t.a.toNat<4:=by omega
 by_cases g:s=6
 ·rw[if_pos g] at h3
  obtain⟨-, -,c3,rfl⟩:=setR_some h3;simp[hi,ht,a1,a2,a3,h4,g]
 ·rw[if_neg g] at h3
  simp only[Option.some.injEq] at h3;subst h3;simp[hi,ht,a1,a2,a3,h4,g]
theorem waited_ok:CtrOk (D:=DM wb hv hk) PG 118 (cWaited wb hv hk):=mkCtr tabAOk (mdI_ok _) mixOk noOp_ok EnvOk.nil (fn:=Try.f118) (by kernel_rfl) (by kernel_rfl) (by kernel_rfl) [] [] (by kernel_rfl) LpOk.nil (I:=fun _=>True) (fun _ _ _ _=>trivial) fun vs st κ x h=>by
 simp only[cWaited] at h
 split at h
 ·split at h
  ·cases h
  ·rename_i m' hm
   exact⟨of_decide_eq_true rfl,_,_,_,h,fun _=>waited_raw hm⟩
 ·cases h
end Go.Beat
end
section
namespace Go.Beat
open Go _root_.Beat Go.Proofs Classical
attribute [local simp] int_beq int_bne ble_dec
set_option maxRecDepth 100000
variable {wb:Nat} {hv:Value} {hk:Option Int}
theorem raw86 {wb:Nat}{hv:Value}{hk:Option Int}(m:IM)(b:Int):runM (wb:=wb) (hv:=hv) (hk:=hk) (opJ _) (tabA.at [3,4] [6,7,8]) [] [] wk0 300 Try.f86 [mchV,iV b] m=if 0+m.tasks.length≤(ptrsL TI.task m.tasks.length).length / 1∧(m.tasks.length+1)*8≤140737488355328∧m.tasks.length+1≤9223372036854775807 then bif !LObj.has (isLoc 2) ⟨117,1,false,some (LO.cells (List.take (m.tasks.length*1) (List.drop (0*1) (ptrsL TI.task m.tasks.length))++List.take (1*1) (List.drop (0*1) [AL.p (Tg.loc 0) 0 1 0])))⟩&&LO.fits 1 (LO.cells (List.take (m.tasks.length*1) (List.drop (0*1) (ptrsL TI.task m.tasks.length))++List.take (1*1) (List.drop (0*1) [AL.p (Tg.loc 0) 0 1 0])))&&true&&((List.take (m.tasks.length*1) (List.drop (0*1) (ptrsL TI.task m.tasks.length))++List.take (1*1) (List.drop (0*1) [AL.p (Tg.loc 0) 0 1 0])).length / 1).ble 9223372036854775807 then if List.take (m.tasks.length*1) (List.drop (0*1) (ptrsL TI.task m.tasks.length))++List.take (1*1) (List.drop (0*1) [AL.p (Tg.loc 0) 0 1 0])=ptrsL TI.task m.tasks.length++[AL.p (Tg.loc 0) 0 1 0]∧m.tasks.length+1=m.tasks.length+1 then if 0+m.row.length≤(List.map Int.ofNat m.row).length∧(m.row.length+1)*8≤140737488355328∧m.row.length+1≤9223372036854775807 then bif (List.take m.row.length (List.drop 0 (List.map Int.ofNat m.row))++[IntKind.i64.wrap ((↑(m.tasks++[{body:=b:ITask}]).length:Int) - (1:Int))]).length.ble 9223372036854775807 then if 0+(m.row.length+1)≤(List.take m.row.length (List.drop 0 (List.map Int.ofNat m.row))++[IntKind.i64.wrap ((↑(m.tasks++[{body:=b:ITask}]).length:Int) - (1:Int))]).length then (toNats (List.take (m.row.length+1) (List.drop 0 (List.take m.row.length (List.drop 0 (List.map Int.ofNat m.row))++[IntKind.i64.wrap ((↑(m.tasks++[{body:=b:ITask}]).length:Int) - (1:Int))])))).bind fun (val:List Nat)=>if IntKind.i64=IntKind.i64∧m.row.length+1=val.length then some (okM (TV.tup []) ((m.wTasks (m.tasks++[{body:=b:ITask}])).wRow val) []) else none else none else none else none else none else none else none:=by kernel_rfl
theorem ptrs_len (f:Nat→TI)(n:Nat):(ptrsL f n).length=n:=by simp[ptrsL]
theorem ptrs_all (f:Nat→TI)(n:Nat):List.take (n*1) (List.drop (0*1) (ptrsL f n))=ptrsL f n:=by
 rw[Nat.mul_one,Nat.zero_mul,List.drop_zero];exact List.take_of_length_le (by rw[ptrs_len];exact Nat.le_refl _)
theorem ptrs_has (f:Nat→TI)(n j:Nat):(ptrsL f n).any (AL.has (isLoc j))=false:=by
 rw[List.any_eq_false];intro a ha;obtain⟨k,_,rfl⟩:=ptrs_mem ha;simp[AL.has,isLoc]
theorem ptrs_one (j:Nat):List.take (1*1) (List.drop (0*1) [(AL.p (Tg.loc j) 0 1 0:AL TI)])=[AL.p (Tg.loc j) 0 1 0]:=rfl
theorem spawn_raw {m m':IM}{b:Int}(h:m.spawn b=some m'):runM (wb:=wb) (hv:=hv) (hk:=hk) (opJ _) (tabA.at [3,4] [6,7,8]) [] [] wk0 300 Try.f86 [mchV,iV b] m=some (okM (.tup []) m' []):=by
 rw[raw86];simp only[IM.spawn,bind,Option.bind_eq_some_iff,Option.some.injEq] at h;obtain⟨tasks,h1,row,h2,rfl⟩:=h;obtain⟨h1,rfl⟩:=push_some h1;obtain⟨h2,rfl⟩:=push_some h2
 have g1:(m.tasks.length+1)*8≤140737488355328:=by omega
 have g2:m.tasks.length+1≤9223372036854775807:=by omega
 have g3:(m.row.length+1)*8≤140737488355328:=by omega
 have g4:m.row.length+1≤9223372036854775807:=by omega
 have e:IntKind.i64.wrap (((m.tasks++[({body:=b}:ITask)]).length:Int) - 1)=(m.tasks.length:Int):=by
  rw[List.length_append,List.length_singleton];exact (wrap_small' (by omega) (by omega)).trans (by omega)
 rw[e];simp only[ptrs_all,ptrs_one,ptrs_len]
 have hh:LObj.has (isLoc 2) (⟨117,1,false,some (LO.cells (ptrsL TI.task m.tasks.length++[AL.p (Tg.loc 0) 0 1 0]))⟩:LObj TI)=false:=by
  simp only[LObj.has,List.any_append,ptrs_has];rfl
 have hf:LO.fits 1 (LO.cells (ptrsL TI.task m.tasks.length++[AL.p (Tg.loc 0) 0 1 0]):LO TI)=true:=by simp[LO.fits,Nat.mod_one]
 have hb:Nat.ble (m.tasks.length+1) 9223372036854775807=true:=Nat.ble_eq_true_of_le g2;have hb2:Nat.ble (m.row.length+1) 9223372036854775807=true:=Nat.ble_eq_true_of_le g4;simp[g1,g2,g3,g4,hh,hf,hb,hb2,ptrs_len]
theorem spawn_ok:CtrOk (D:=DM wb hv hk) PG 86 (cSpawn wb hv hk):=mkCtr tabAOk (mdI_ok _) mixOk (opJ_ok) EnvOk.nil (fn:=Try.f86) (by kernel_rfl) (by kernel_rfl) (by kernel_rfl) [3,4] [6,7,8] (by kernel_rfl) LpOk.nil (I:=fun _=>True) (fun _ _ _ _=>trivial) fun vs st κ x h0=>by
 simp only[cSpawn] at h0
 split at h0
 ·split at h0
  ·cases h0
  ·rename_i m' hm
   exact⟨of_decide_eq_true rfl,_,_,_,h0,fun _=>spawn_raw hm⟩
 ·cases h0
end Go.Beat
end
