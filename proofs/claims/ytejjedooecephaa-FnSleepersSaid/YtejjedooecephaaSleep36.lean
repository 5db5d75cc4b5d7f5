/-
  Texts joined by a program (shake.py), without what the claim does not use; printed walks among them (print.sh), and own ones.
-/
import Derived.Test.YtejjedooecephaaSleep17
import Derived.Test.YtejjedooecephaaSleep28
import Derived.Test.YtejjedooecephaaSleep31
section
namespace Go.Beat
open Go _root_.Beat Go.Proofs
attribute [local simp] int_beq int_bne ble_dec
set_option maxRecDepth 100000
variable {wb:Nat}
theorem raw99 {wb:Nat}(m:IM)(k t n:Int):runM (wb:=wb) (hv:=.nilFunc) (hk:=none) (noOp _) (tabA.at [1] []) [] [] wk0 300 Try.f99 [mchV,iV k,iV t,iV n] m=if 0+m.recs.length≤(List.map recRow m.recs).length∧(m.recs.length+1)*32≤140737488355328∧m.recs.length+1≤9223372036854775807 then bif (List.take m.recs.length (List.drop 0 (List.map recRow m.recs))++[[k,m.now,t,n]]).length.ble 9223372036854775807 then if 0+(m.recs.length+1)≤(List.take m.recs.length (List.drop 0 (List.map recRow m.recs))++[[k,m.now,t,n]]).length then (toRecs (List.take (m.recs.length+1) (List.drop 0 (List.take m.recs.length (List.drop 0 (List.map recRow m.recs))++[[k,m.now,t,n]])))).bind fun (val:List Rec)=>if k4=k4∧m.recs.length+1=val.length then some (okM (TV.tup []) (m.wRecs val) []) else none else none else none else none:=by kernel_rfl
theorem note_raw {m m':IM}{k t n:Int}(hh:m.hook=none)(h:m.note k t n=some m'):runM (wb:=wb) (hv:=.nilFunc) (hk:=none) (noOp _) (tabA.at [1] []) [] [] wk0 300 Try.f99 [mchV,iV k,iV t,iV n] m=some (okM (.tup []) m' []):=by
 rw[raw99];simp only[IM.note,bind,Option.bind_eq_some_iff,hh,Option.some.injEq] at h;obtain⟨recs,hr,rfl⟩:=h;obtain⟨hr,rfl⟩:=push_some hr
 have h1:(m.recs.length+1)*32≤140737488355328:=by omega
 have h2:m.recs.length≤9223372036854775806:=by omega
 simp[h1,h2]
theorem note_ok:CtrOk (D:=DM wb .nilFunc none) PG 99 (cNote wb .nilFunc none):=mkCtr tabAOk (mdI_ok _) mixOk noOp_ok EnvOk.nil (fn:=Try.f99) (by kernel_rfl) (by kernel_rfl) (by kernel_rfl) [1] [] (by kernel_rfl) LpOk.nil (I:=fun st=>IM.hook st=none) (fun st S w h=>by obtain⟨es,cl,h1,h2,h3,h4⟩:=h;exact h3) fun vs st κ x h=>by
 simp only[cNote] at h
 split at h
 ·split at h
  ·cases h
  ·rename_i m' hm
   exact⟨of_decide_eq_true rfl,_,_,_,h,fun hh=>note_raw hh hm⟩
 ·cases h
end Go.Beat
end
section
namespace Go.Beat
open Go _root_.Beat Go.Proofs
attribute [local simp] int_beq int_bne ble_dec
set_option maxRecDepth 100000
variable {wb:Nat} {hv:Value} {hk:Option Int}
theorem raw101a {wb:Nat}{hv:Value}{hk:Option Int}(m:IM)(i n j:Nat)(s:Int):roundM (wb:=wb) (hv:=hv) (hk:=hk) (opI _) (tabA.at [4,13] []) [(100,cReady wb hv hk),(118,cWaited wb hv hk)] [] wk0 300 Try.f101 (loopsOf (bd Try.f101)) (lFinish wb hv hk) [mchV,iV i,iV s,.l (.sl (.m (.waitL i)) 0 1 n),iV n,iV j] m [] []=bif decide ((j:Int)<(n:Int)) then if 0+n≤(m.wait i).length∧(0:Int)≤(j:Int)∧(j:Int)<(n:Int) then (List.map Int.ofNat (m.wait i))[0+j]?.bind fun val=>if 0+m.tasks.length≤m.tasks.length∧(0:Int)≤val∧val<(m.tasks.length:Int) then if 0+val.toNat<m.tasks.length then (m.waited (0+val.toNat) s).bind fun val_1=>if (0:Int)≤val then ((bif false then val_1.wArg m.arg else val_1).ready val.toNat).bind fun val=>some (nrmM [(0,mchV),(1,iV (i:Int)),(2,iV s),(23,TV.l (AL.sl (Tg.m (TI.waitL i)) 0 1 n)),(24,iV (n:Int)),(25,iV (IntKind.i64.wrap ((j:Int)+(1:Int))))] (bif false then val.wArg (bif false then val_1.wArg m.arg else val_1).arg else val) [] []) else none else none else none else none else some (exM 0 [(0,mchV),(1,iV (i:Int))] m [] []):=by kernel_rfl
theorem raw101 {wb:Nat}{hv:Value}{hk:Option Int}(m:IM)(i:Nat)(s:Int):runM (wb:=wb) (hv:=hv) (hk:=hk) (opI _) (tabA.at [4,13] []) [(100,cReady wb hv hk),(118,cWaited wb hv hk)] [lFinish wb hv hk] wk0 300 Try.f101 [mchV,iV i,iV s] m=if 0+m.tasks.length≤m.tasks.length∧(0:Int)≤(i:Int)∧(i:Int)<(m.tasks.length:Int) then if 0+i<m.tasks.length then m.tasks[0+i]?.bind fun val=>if wb=wb∧(0:Int)≤(i:Int) then if i=i∧(↑(m.wait i).length:Int)=(↑(m.wait i).length:Int)∧(m.wait i).length=(m.wait i).length∧(m.wait i).length<1000000 then (IM.finishLoop s (m.wait i) (m.setT (0+i) (val.wState s))).bind fun val=>if wb=wb∧(0:Int)≤(i:Int) then some (okM (TV.tup []) (val.wWait (i:Int).toNat []) []) else none else none else none else none else none:=by kernel_rfl
theorem raw119 {wb:Nat}{hv:Value}{hk:Option Int}(m:IM)(i:Nat)(c:Int):runM (wb:=wb) (hv:=hv) (hk:=hk) (noOp _) (tabA.at [1,4,13] []) [(99,cNote wb hv hk),(101,cFinish wb hv hk)] [] wk0 300 Try.f119 [mchV,iV i,iV c] m=(m.note (4:Int) (i:Int) c).bind fun val=>((bif false then val.wArg m.arg else val).finish i (7:Int)).bind fun val_1=>some (okM (TV.tup []) (bif false then val_1.wArg (bif false then val.wArg m.arg else val).arg else val_1) []):=by kernel_rfl
theorem ready_wait {m m':IM}{k:Nat}(h:m.ready k=some m'):m'.wait=m.wait:=by
 simp only[IM.ready,bind,Option.bind_eq_some_iff] at h;obtain⟨t,ht,row,hr,h⟩:=h;simp only[Option.some.injEq] at h;subst h;rfl
theorem waited_wait {m m':IM}{k:Nat}{s:Int}(h:m.waited k s=some m'):m'.wait=m.wait∧k<m.tasks.length:=by
 simp only[IM.waited,bind,Option.bind_eq_some_iff] at h;obtain⟨t,ht,t1,h1,h⟩:=h;simp only[Option.some.injEq] at h;subst h;exact⟨rfl,get_some ht⟩
theorem finish_env:EnvOk PG [(100,cReady wb hv hk),(118,cWaited wb hv hk)]:=EnvOk.cons ready_ok (EnvOk.cons waited_ok EnvOk.nil)
theorem finish_iter (i:Nat)(s:Int)(ks:List Nat)(hn:ks.length<1000000):∀(rest pre:List Nat) (m m':IM),m.wait i=ks→ks=pre++rest→IM.finishLoop s rest m=some m'→
  iterM (wb:=wb) (hv:=hv) (hk:=hk) (opI _) (tabA.at [4,13] []) [(100,cReady wb hv hk),(118,cWaited wb hv hk)] [] wk0 300 Try.f101 (loopsOf (bd Try.f101)) (lFinish wb hv hk) (rest.length+1) [mchV,iV i,iV s,.l (.sl (.m (.waitL i)) 0 1 ks.length),iV ks.length,iV pre.length] m [] []=some (exM 0 [(0,mchV),(1,iV i)] m' [] [])
 |[],pre,m,m',ht,h,hm=>by
  simp only[IM.finishLoop,Option.some.injEq] at hm;subst hm;simp only[List.append_nil] at h
  refine iterM_exit ?_ (fun s h=>by cases h)
  rw[raw101a];simp[h]
 |k::rest,pre,m,m',ht,h,hm=>by
  simp only[IM.finishLoop,bind,Option.bind_eq_some_iff] at hm;obtain⟨m1,h1,m2,h2,h3⟩:=hm
  have hlen:ks.length=pre.length+(rest.length+1):=by rw[h];simp
  have hlt:(pre.length:Int)<(ks.length:Int):=by omega
  have hk:ks[pre.length]?=some k:=by rw[h];simp
  obtain⟨w1,hkl⟩:=waited_wait h1;rw[←finish_iter i s ks hn rest (pre++[k]) m2 m' (by rw[ready_wait h2,w1,ht]) (by simp[h]) h3]
  refine iterM_succ [mchV,iV i,iV s,.l (.sl (.m (.waitL i)) 0 1 ks.length),iV ks.length,iV (pre++[k]).length] ?_
  rw[raw101a];simp[ht,hk,hlt,hkl,h1,h2,wrap_succ (show pre.length<1000000000 by omega),lFinish,zipK,nrmM]
theorem finish_lp {LS:List (Nat×Code)}(hLS:LS=loopsOf (bd Try.f101)):LpOk PG (tabA.at [4,13] []) (DM wb hv hk) Try.f101.ntmps LS [lFinish wb hv hk]:=by
 subst hLS
 refine mkLp (tabAOk.at _ _) (mdI_ok _) mixOk (opI_ok _) finish_env LpOk.nil (wk:=wk0) (N:=300) LpOk.nil (by kernel_rfl) fun vs m L dk κ x h0=>?_
 simp only[lFinish] at h0
 split at h0
 ·obtain⟨i,rfl,h1⟩:=natOf_some h0
  clear h0
  split at h1
  ·rename_i h3
   obtain⟨rfl,rfl,rfl,h4⟩:=h3
   split at h1
   ·cases h1
   ·rename_i m' hm
    exact⟨_,_,finish_iter _ _ (m.wait _) h4 (m.wait _) [] m m' rfl rfl hm,h1⟩
  ·cases h1
 ·cases h0
theorem finish_raw {m m':IM}{i:Nat}{s:Int}(h:m.finish i s=some m'):runM (wb:=wb) (hv:=hv) (hk:=hk) (opI _) (tabA.at [4,13] []) [(100,cReady wb hv hk),(118,cWaited wb hv hk)] [lFinish wb hv hk] wk0 300 Try.f101 [mchV,iV i,iV s] m=some (okM (.tup []) m' []):=by
 rw[raw101];simp only[IM.finish,bind,Option.bind_eq_some_iff] at h;obtain⟨t,ht,u,hg,m1,hm,h⟩:=h;simp only[Option.some.injEq] at h;subst h;obtain⟨hi,ht⟩:=List.getElem?_eq_some_iff.1 ht;simp only[guardO] at hg
 split at hg
 ·rename_i hn
  simp only[IM.setT_wait] at hn hm;simp[hi,ht,hn,hm]
 ·cases hg
theorem finish_ok:CtrOk (D:=DM wb hv hk) PG 101 (cFinish wb hv hk):=mkCtr tabAOk (mdI_ok _) mixOk (opI_ok _) finish_env (fn:=Try.f101) (by kernel_rfl) (by kernel_rfl) (by kernel_rfl) [4,13] [] (by kernel_rfl) (finish_lp rfl) (I:=fun _=>True) (fun _ _ _ _=>trivial) fun vs st κ x h0=>by
 simp only[cFinish] at h0
 split at h0
 ·obtain⟨i,rfl,h1⟩:=natOf_some h0
  split at h1
  ·cases h1
  ·rename_i m' hm
   exact⟨of_decide_eq_true rfl,_,_,_,h1,fun _=>finish_raw hm⟩
 ·cases h0
variable (hN:CtrOk (D:=DM wb hv hk) PG 99 (cNote wb hv hk))
include hN
theorem fail_env:EnvOk PG [(99,cNote wb hv hk),(101,cFinish wb hv hk)]:=EnvOk.cons hN (EnvOk.cons finish_ok EnvOk.nil)
omit hN in
theorem fail_raw {m m':IM}{i:Nat}{c:Int}(h:m.fail i c=some m'):runM (wb:=wb) (hv:=hv) (hk:=hk) (noOp _) (tabA.at [1,4,13] []) [(99,cNote wb hv hk),(101,cFinish wb hv hk)] [] wk0 300 Try.f119 [mchV,iV i,iV c] m=some (okM (.tup []) m' []):=by
 rw[raw119];simp only[IM.fail,bind,Option.bind_eq_some_iff] at h;obtain⟨m1,h1,h2⟩:=h;simp[h1,h2]
theorem fail_ok:CtrOk (D:=DM wb hv hk) PG 119 (cFail wb hv hk):=mkCtr tabAOk (mdI_ok _) mixOk noOp_ok (fail_env hN) (fn:=Try.f119) (by kernel_rfl) (by kernel_rfl) (by kernel_rfl) [1,4,13] [] (by kernel_rfl) LpOk.nil (I:=fun _=>True) (fun _ _ _ _=>trivial) fun vs st κ x h0=>by
 simp only[cFail] at h0
 split at h0
 ·obtain⟨i,rfl,h1⟩:=natOf_some h0
  split at h1
  ·cases h1
  ·rename_i m' hm
   exact⟨of_decide_eq_true rfl,_,_,_,h1,fun _=>fail_raw hm⟩
 ·cases h0
end Go.Beat
end
section
namespace Go.Beat
open Go _root_.Beat Go.Proofs
attribute [local simp] int_beq int_bne ble_dec
set_option maxRecDepth 100000
variable {wb:Nat} {hv:Value} {hk:Option Int}
theorem raw122a {wb:Nat}{hv:Value}{hk:Option Int}(m:IM)(c:Int)(q n j:Nat)(xs:List Int)(rs:List (List Int)):roundM (wb:=wb) (hv:=hv) (hk:=hk) (noOp _) ((tabA.sw [11]).at [1,4,8,11,12,13] []) [(99,cNote wb hv hk),(101,cFinish wb hv hk)] [] wk0 300 Try.f122 (loopsOf (bd Try.f122)) (lCloseFail wb hv hk) [mchV,iV c,.l (.sl (.loc 0) 0 1 q),.l (.sl (.loc 1) 0 2 n),iV n,iV j] m [obI xs,obW rs] []=bif decide ((j:Int)<(n:Int)) then if 0+n≤rs.length∧(0:Int)≤(j:Int)∧(j:Int)<(n:Int) then rs[0+j]?.bind fun (val:List Int)=>bif decide (val.getD 0 (0:Int)≥(0:Int)) then (m.note (4:Int) (val.getD 0 (0:Int)) (4:Int)).bind fun val_1=>if (0:Int)≤val.getD 0 (0:Int) then ((bif false then val_1.wArg m.arg else val_1).finish (val.getD 0 (0:Int)).toNat (7:Int)).bind fun val=>some (nrmM [(0,mchV),(1,iV c),(5,TV.l (AL.sl (Tg.loc 0) 0 1 q)),(40,TV.l (AL.sl (Tg.loc 1) 0 2 n)),(41,iV (n:Int)),(42,iV (IntKind.i64.wrap ((j:Int)+(1:Int))))] (bif false then val.wArg (bif false then val_1.wArg m.arg else val_1).arg else val) [{ty:=3,sz:=1,fix:=false,o:=some (LO.ints IntKind.i64 xs)},{ty:=138,sz:=2,fix:=false,o:=some (LO.rows [IntKind.i64,IntKind.i64] rs)}] []) else none else some (nrmM [(0,mchV),(1,iV c),(5,TV.l (AL.sl (Tg.loc 0) 0 1 q)),(40,TV.l (AL.sl (Tg.loc 1) 0 2 n)),(41,iV (n:Int)),(42,iV (IntKind.i64.wrap ((j:Int)+(1:Int))))] m [{ty:=3,sz:=1,fix:=false,o:=some (LO.ints IntKind.i64 xs)},{ty:=138,sz:=2,fix:=false,o:=some (LO.rows [IntKind.i64,IntKind.i64] rs)}] []) else none else some (exM 0 [(0,mchV),(1,iV c),(5,TV.l (AL.sl (Tg.loc 0) 0 1 q))] m [{ty:=3,sz:=1,fix:=false,o:=some (LO.ints IntKind.i64 xs)},{ty:=138,sz:=2,fix:=false,o:=some (LO.rows [IntKind.i64,IntKind.i64] rs)}] []):=by kernel_rfl
theorem raw122c {wb:Nat}{hv:Value}{hk:Option Int}(m:IM)(c i q n j:Nat)(k h q':Int)(xs:List Int):roundM (wb:=wb) (hv:=hv) (hk:=hk) (noOp _) ((tabA.sw [11]).at [1,4,8,11,12,13] []) [] [] wk0 300 Try.f122 (loopsOf (loopC (loopsOf (bd Try.f122)) 2)) (lCloseRest wb hv hk) [mchV,iV c,iV k,tskV i,nilV,.l (.sl (.loc 0) 0 1 q),iV q',iV h,.l (.sl (.m (.tchans i)) 0 1 n),iV n,iV j] m [obI xs] []=bif decide ((j:Int)<(n:Int)) then m.tasks[i]?.bind fun val=>if 0+n≤val.chans.length∧(0:Int)≤(j:Int)∧(j:Int)<(n:Int) then m.tasks[i]?.bind fun val=>(List.map Int.ofNat val.chans)[0+j]?.bind fun val=>bif val !=(c:Int) then some (nrmM [(0,mchV),(1,iV (c:Int)),(10,iV k),(11,tskV i),(12,TV.l (AL.sl (Tg.loc 1) 0 1 1)),(58,TV.l (AL.sl (Tg.loc 0) 0 1 q)),(59,iV q'),(60,iV h),(74,TV.l (AL.sl (Tg.m (TI.tchans i)) 0 1 n)),(75,iV (n:Int)),(76,iV (IntKind.i64.wrap ((j:Int)+(1:Int))))] m [{ty:=3,sz:=1,fix:=false,o:=some (LO.ints IntKind.i64 xs)},{ty:=3,sz:=1,fix:=false,o:=some (LO.ints IntKind.i64 [val])}] []) else some (nrmM [(0,mchV),(1,iV (c:Int)),(10,iV k),(11,tskV i),(12,TV.l (AL.v (Value.slice none 0 0))),(58,TV.l (AL.sl (Tg.loc 0) 0 1 q)),(59,iV q'),(60,iV h),(74,TV.l (AL.sl (Tg.m (TI.tchans i)) 0 1 n)),(75,iV (n:Int)),(76,iV (IntKind.i64.wrap ((j:Int)+(1:Int))))] m [{ty:=3,sz:=1,fix:=false,o:=some (LO.ints IntKind.i64 xs)}] []) else none else some (exM 4 [(0,mchV),(1,iV (c:Int)),(10,iV k),(11,tskV i),(12,TV.l (AL.v (Value.slice none 0 0))),(58,TV.l (AL.sl (Tg.loc 0) 0 1 q)),(59,iV q'),(60,iV h)] m [{ty:=3,sz:=1,fix:=false,o:=some (LO.ints IntKind.i64 xs)}] []):=by kernel_rfl
theorem raw122d {wb:Nat}{hv:Value}{hk:Option Int}(m:IM)(c i q n j y:Nat)(k h q':Int)(xs ys:List Int):roundM (wb:=wb) (hv:=hv) (hk:=hk) (noOp _) ((tabA.sw [11]).at [1,4,8,11,12,13] []) [] [] wk0 300 Try.f122 (loopsOf (loopC (loopsOf (bd Try.f122)) 2)) (lCloseRest wb hv hk) [mchV,iV c,iV k,tskV i,.l (.sl (.loc 1) 0 1 y),.l (.sl (.loc 0) 0 1 q),iV q',iV h,.l (.sl (.m (.tchans i)) 0 1 n),iV n,iV j] m [obI xs,obI ys] []=bif decide ((j:Int)<(n:Int)) then m.tasks[i]?.bind fun val=>if 0+n≤val.chans.length∧(0:Int)≤(j:Int)∧(j:Int)<(n:Int) then m.tasks[i]?.bind fun val=>(List.map Int.ofNat val.chans)[0+j]?.bind fun val=>bif val !=(c:Int) then if 0+y≤ys.length∧(y+1)*8≤140737488355328∧y+1≤9223372036854775807 then bif (List.take y (List.drop 0 ys)++[val]).length.ble 9223372036854775807 then some (nrmM [(0,mchV),(1,iV (c:Int)),(10,iV k),(11,tskV i),(12,TV.l (AL.sl (Tg.loc 1) 0 1 (y+1))),(58,TV.l (AL.sl (Tg.loc 0) 0 1 q)),(59,iV q'),(60,iV h),(74,TV.l (AL.sl (Tg.m (TI.tchans i)) 0 1 n)),(75,iV (n:Int)),(76,iV (IntKind.i64.wrap ((j:Int)+(1:Int))))] m [{ty:=3,sz:=1,fix:=false,o:=some (LO.ints IntKind.i64 xs)},{ty:=3,sz:=1,fix:=false,o:=some (LO.ints IntKind.i64 (List.take y (List.drop 0 ys)++[val]))}] []) else none else none else some (nrmM [(0,mchV),(1,iV (c:Int)),(10,iV k),(11,tskV i),(12,TV.l (AL.sl (Tg.loc 1) 0 1 y)),(58,TV.l (AL.sl (Tg.loc 0) 0 1 q)),(59,iV q'),(60,iV h),(74,TV.l (AL.sl (Tg.m (TI.tchans i)) 0 1 n)),(75,iV (n:Int)),(76,iV (IntKind.i64.wrap ((j:Int)+(1:Int))))] m [{ty:=3,sz:=1,fix:=false,o:=some (LO.ints IntKind.i64 xs)},{ty:=3,sz:=1,fix:=false,o:=some (LO.ints IntKind.i64 ys)}] []) else none else some (exM 4 [(0,mchV),(1,iV (c:Int)),(10,iV k),(11,tskV i),(12,TV.l (AL.sl (Tg.loc 1) 0 1 y)),(58,TV.l (AL.sl (Tg.loc 0) 0 1 q)),(59,iV q'),(60,iV h)] m [{ty:=3,sz:=1,fix:=false,o:=some (LO.ints IntKind.i64 xs)},{ty:=3,sz:=1,fix:=false,o:=some (LO.ints IntKind.i64 ys)}] []):=by kernel_rfl
theorem raw122b {wb:Nat}{hv:Value}{hk:Option Int}(m:IM)(c n j:Nat)(xs:List Int):roundM (wb:=wb) (hv:=hv) (hk:=hk) (noOp _) ((tabA.sw [11]).at [1,4,8,11,12,13] []) [(100,cReady wb hv hk),(104,cGets wb hv hk),(123,cUnline wb hv hk)] [lCloseRest wb hv hk] wk0 300 Try.f122 (loopsOf (bd Try.f122)) (lCloseTake wb hv hk) [mchV,iV c,.l (.sl (.loc 0) 0 1 n),iV n,iV j] m [obI xs] []=bif decide ((j:Int)<(n:Int)) then if 0+n≤xs.length∧(0:Int)≤(j:Int)∧(j:Int)<(n:Int) then xs[0+j]?.bind fun val=>if 0+m.tasks.length≤m.tasks.length∧(0:Int)≤val∧val<(m.tasks.length:Int) then if 0+val.toNat<m.tasks.length then m.tasks[0+val.toNat]?.bind fun val_1=>if 0+val.toNat=0+val.toNat∧(val_1.chans.length:Int)=(val_1.chans.length:Int) then m.tasks[0+val.toNat]?.bind fun val_2=>if val_1.chans.length=val_2.chans.length∧val_1.chans.length<1000000 then bif (without val_2.chans c).isEmpty then if (0:Int)≤val then (m.unline (c:Int).toNat val.toNat).bind fun val_3=>(bif false then val_3.wArg m.arg else val_3).tasks[0+val.toNat]?.bind fun val_4=>if (0:Int)≤val then (((bif false then val_3.wArg m.arg else val_3).setT (0+val.toNat) (val_4.wChans [])).gets val.toNat (c:Int).toNat (0:Int) false).bind fun val_5=>if (0:Int)≤val then ((bif false then val_5.wArg (bif false then val_3.wArg m.arg else val_3).arg else val_5).ready val.toNat).bind fun val=>some (nrmM [(0,mchV),(1,iV (c:Int)),(58,TV.l (AL.sl (Tg.loc 0) 0 1 n)),(59,iV (n:Int)),(60,iV (IntKind.i64.wrap ((j:Int)+(1:Int))))] (bif false then val.wArg (bif false then val_5.wArg (bif false then val_3.wArg m.arg else val_3).arg else val_5).arg else val) [{ty:=3,sz:=1,fix:=false,o:=some (LO.ints IntKind.i64 xs)}] []) else none else none else none else if (0:Int)≤val then (m.unline (c:Int).toNat val.toNat).bind fun val_3=>if 0+(without val_2.chans c).length≤(List.map Int.ofNat (without val_2.chans c)).length then (bif false then val_3.wArg m.arg else val_3).tasks[0+val.toNat]?.bind fun val_4=>(toNats (List.take (without val_2.chans c).length (List.drop 0 (List.map Int.ofNat (without val_2.chans c))))).bind fun (val_5:List Nat)=>if IntKind.i64=IntKind.i64∧(without val_2.chans c).length=val_5.length then bif decide ((↑(without val_2.chans c).length:Int)>(0:Int)) then some (nrmM [(0,mchV),(1,iV (c:Int)),(58,TV.l (AL.sl (Tg.loc 0) 0 1 n)),(59,iV (n:Int)),(60,iV (IntKind.i64.wrap ((j:Int)+(1:Int))))] ((bif false then val_3.wArg m.arg else val_3).setT (0+val.toNat) (val_4.wChans val_5)) [{ty:=3,sz:=1,fix:=false,o:=some (LO.ints IntKind.i64 xs)}] []) else if (0:Int)≤val then (((bif false then val_3.wArg m.arg else val_3).setT (0+val.toNat) (val_4.wChans val_5)).gets val.toNat (c:Int).toNat (0:Int) false).bind fun val_6=>if (0:Int)≤val then ((bif false then val_6.wArg (bif false then val_3.wArg m.arg else val_3).arg else val_6).ready val.toNat).bind fun val=>some (nrmM [(0,mchV),(1,iV (c:Int)),(58,TV.l (AL.sl (Tg.loc 0) 0 1 n)),(59,iV (n:Int)),(60,iV (IntKind.i64.wrap ((j:Int)+(1:Int))))] (bif false then val.wArg (bif false then val_6.wArg (bif false then val_3.wArg m.arg else val_3).arg else val_6).arg else val) [{ty:=3,sz:=1,fix:=false,o:=some (LO.ints IntKind.i64 xs)}] []) else none else none else none else none else none else none else none else none else none else none else some (exM 2 [(0,mchV)] m [] []):=by kernel_rfl
theorem raw122 {wb:Nat}{hv:Value}{hk:Option Int}(m:IM)(c:Nat):runM (wb:=wb) (hv:=hv) (hk:=hk) (noOp _) ((tabA.sw [11]).at [1,4,8,11,12,13] []) [] [lCloseFail wb hv hk,lCloseTake wb hv hk] wk0 300 Try.f122 [mchV,iV c] m=if 0+m.chans.length≤m.chans.length∧(0:Int)≤(c:Int)∧(c:Int)<(m.chans.length:Int) then if 0+c<m.chans.length then m.chans[0+c]?.bind fun val=>(m.chans.set (0+c) (val.wClosed true))[0+c]?.bind fun val_1=>(m.chans.set (0+c) (val.wClosed true))[0+c]?.bind fun val_2=>if 0+val_1.takers.length≤(List.map Int.ofNat val_2.takers).length then if val_1.takers.length*8≤140737488355328∧val_1.takers.length≤9223372036854775807 then bif (List.take val_1.takers.length (List.drop 0 (List.map Int.ofNat val_2.takers))).length.ble 9223372036854775807 then (m.chans.set (0+c) (val.wClosed true))[0+c]?.bind fun val_3=>(m.chans.set (0+c) (val.wClosed true))[0+c]?.bind fun val_4=>if TI.senders (0+c)=TI.senders (0+c) then if TI.senders (0+c)=TI.senders (0+c) then if TI.senders (0+c)=TI.senders (0+c) then (m.chans.set (0+c) (val.wClosed true))[0+c]?.bind fun val_5=>((m.chans.set (0+c) (val.wClosed true)).set (0+c) (val_5.wSenders []))[0+c]?.bind fun val_6=>(toPairs (List.map pairRow val_4.senders)).bind fun (val_7:List (Int×Int))=>if k2=k2∧(val_3.senders.length:Int)=(val_3.senders.length:Int)∧val_3.senders.length=val_7.length∧val_3.senders.length<1000000 then (IM.closeFail val_7 (((m.setC (0+c) (val.wClosed true)).setC (0+c) (val_5.wSenders [])).setC (0+c) (val_6.wTakers []))).bind fun val=>(toNats (List.take val_1.takers.length (List.drop 0 (List.map Int.ofNat val_2.takers)))).bind fun (val_8:List Nat)=>if (val_1.takers.length:Int)=(val_1.takers.length:Int)∧val_1.takers.length=val_8.length∧val_1.takers.length<1000000 then (IM.closeTake c val_8 val).bind fun val=>some (okM (TV.tup []) val []) else none else none else none else none else none else none else none else none else none else none:=by kernel_rfl
def restV (ys:List Nat):TV TI:=bif ys.isEmpty then nilV else .l (.sl (.loc 1) 0 1 ys.length)
def restL (xs:List Int)(ys:List Nat):List (LObj TI):=bif ys.isEmpty then [obI xs] else [obI xs,obI (ys.map Int.ofNat)]
theorem rest_iter (m:IM)(c i q:Nat)(k h q':Int)(xs:List Int)(t:ITask)(hx:m.tasks[i]?=some t)(hn:t.chans.length<1000000):∀(rest pre:List Nat),t.chans=pre++rest→
  iterM (wb:=wb) (hv:=hv) (hk:=hk) (noOp _) ((tabA.sw [11]).at [1,4,8,11,12,13] []) [] [] wk0 300 Try.f122 (loopsOf (loopC (loopsOf (bd Try.f122)) 2)) (lCloseRest wb hv hk) (rest.length+1) [mchV,iV c,iV k,tskV i,restV (without pre c),.l (.sl (.loc 0) 0 1 q),iV q',iV h,.l (.sl (.m (.tchans i)) 0 1 t.chans.length),iV t.chans.length,iV pre.length] m (restL xs (without pre c)) []
   =some (exM 4 [(0,mchV),(1,iV c),(10,iV k),(11,tskV i),(12,restV (without t.chans c)),(58,.l (.sl (.loc 0) 0 1 q)),(59,iV q'),(60,iV h)] m (restL xs (without t.chans c)) [])
 |[],pre,h0=>by
  simp only[List.append_nil] at h0
  refine iterM_exit ?_ (fun s h=>by cases h)
  rw[h0];generalize without pre c=ys
  cases ys with
  |nil=>simp only[restV,restL,List.isEmpty_nil,cond_true];rw[raw122c];simp
  |cons y ys=>simp only[restV,restL,List.isEmpty_cons,cond_false];rw[raw122d];simp
 |d::rest,pre,h0=>by
  have ih:=rest_iter m c i q k h q' xs t hx hn rest (pre++[d]) (by simp[h0])
  have hlen:t.chans.length=pre.length+(rest.length+1):=by rw[h0];simp
  have hj:pre.length<1000000000:=by omega
  have hlt:(pre.length:Int)<(t.chans.length:Int):=by omega
  have hd:t.chans[pre.length]?=some d:=by rw[h0];simp
  rw[←ih];have hys:(without pre c).length≤pre.length:=List.length_filter_le _ _;rw[show without (pre++[d]) c=without pre c++without [d] c from List.filter_append ..];generalize without pre c=ys at hys
  by_cases hdc:d=c
  ·have e:without [d] c=[]:=by simp[without,hdc]
   rw[e,List.append_nil]
   refine iterM_succ [mchV,iV c,iV k,tskV i,_,.l (.sl (.loc 0) 0 1 q),iV q',iV h,.l (.sl (.m (.tchans i)) 0 1 t.chans.length),iV t.chans.length,iV (pre++[d]).length] ?_
   cases ys with
   |nil=>simp only[restV,restL,List.isEmpty_nil,cond_true];rw[raw122c];simp[hx,hd,hlt,wrap_succ hj,hdc,lCloseRest,zipK,nrmM]
   |cons y ys=>simp only[restV,restL,List.isEmpty_cons,cond_false];rw[raw122d];simp[hx,hd,hlt,wrap_succ hj,hdc,lCloseRest,zipK,nrmM]
  ·have e:without [d] c=[d]:=by simp[without,hdc]
   rw[e]
   refine iterM_succ [mchV,iV c,iV k,tskV i,_,.l (.sl (.loc 0) 0 1 q),iV q',iV h,.l (.sl (.m (.tchans i)) 0 1 t.chans.length),iV t.chans.length,iV (pre++[d]).length] ?_
   have hdc':(d:Int)≠c:=by omega
   cases ys with
   |nil=>simp only[restV,restL,List.isEmpty_nil,cond_true];rw[raw122c];simp[hx,hd,hlt,wrap_succ hj,hdc',lCloseRest,zipK,nrmM]
   |cons y ys=>
    simp only[restV,restL,List.isEmpty_cons,cond_false];simp only[List.length_cons] at hys
    have g1:(ys.length+1+1)*8≤140737488355328:=by omega
    have g2:ys.length+1+1≤9223372036854775807:=by omega
    rw[raw122d];simp[hx,hd,hlt,wrap_succ hj,hdc',lCloseRest,zipK,nrmM,g1,g2]
theorem rest_lp {LS:List (Nat×Code)}(hLS:LS=(loopsOf (loopC (loopsOf (bd Try.f122)) 2))):LpOk PG ((tabA.sw [11]).at [1,4,8,11,12,13] []) (DM wb hv hk) Try.f122.ntmps LS [lCloseRest wb hv hk]:=by
 subst hLS
 refine mkLp ((tabAOk.sw _).at _ _) (mdI_ok _) mixOk noOp_ok EnvOk.nil LpOk.nil (wk:=wk0) (N:=300) LpOk.nil (by kernel_rfl) fun vs m L dk κ x h0=>?_
 simp only[lCloseRest] at h0
 split at h0
 ·obtain⟨c,rfl,h1⟩:=natOf_some h0
  clear h0
  split at h1
  ·rename_i h3
   obtain⟨rfl,rfl⟩:=h3
   split at h1
   ·cases h1
   ·rename_i t ht
    split at h1
    ·rename_i h4
     obtain⟨rfl,h4⟩:=h4;refine⟨_,_,rest_iter (wb:=wb) (hv:=hv) (hk:=hk) m c _ _ _ _ _ _ t ht h4 t.chans [] rfl,?_⟩
     cases hb:(without t.chans c).isEmpty with
     |true=>rw[hb] at h1;simp only[restV,restL,hb,cond_true];exact h1
     |false=>rw[hb] at h1;simp only[restV,restL,hb,cond_false];exact h1
    ·cases h1
  ·cases h1
 ·cases h0
theorem ctake_env:EnvOk PG [(100,cReady wb hv hk),(104,cGets wb hv hk),(123,cUnline wb hv hk)]:=EnvOk.cons ready_ok (EnvOk.cons gets_ok (EnvOk.cons unline_ok EnvOk.nil))
theorem ctake_iter (c:Nat)(ks:List Nat)(hn:ks.length<1000000):∀(rest pre:List Nat) (m m':IM),ks=pre++rest→IM.closeTake c rest m=some m'→
  iterM (wb:=wb) (hv:=hv) (hk:=hk) (noOp _) ((tabA.sw [11]).at [1,4,8,11,12,13] []) [(100,cReady wb hv hk),(104,cGets wb hv hk),(123,cUnline wb hv hk)] [lCloseRest wb hv hk] wk0 300 Try.f122 (loopsOf (bd Try.f122)) (lCloseTake wb hv hk) (rest.length+1) [mchV,iV c,.l (.sl (.loc 0) 0 1 ks.length),iV ks.length,iV pre.length] m [obI (ks.map Int.ofNat)] []=some (exM 2 [(0,mchV)] m' [] [])
 |[],pre,m,m',h,hm=>by
  simp only[IM.closeTake,Option.some.injEq] at hm;subst hm;simp only[List.append_nil] at h
  refine iterM_exit ?_ (fun s h=>by cases h)
  rw[raw122b];simp[h]
 |k::rest,pre,m,m',h,hm=>by
  simp only[IM.closeTake,bind,Option.bind_eq_some_iff,guardO] at hm;obtain⟨t,ht,u,hg,m1,h1,t1,ht1,h2⟩:=hm
  have hlen:ks.length=pre.length+(rest.length+1):=by rw[h];simp
  have hlt:(pre.length:Int)<(ks.length:Int):=by omega
  have hkk:ks[pre.length]?=some k:=by rw[h];simp
  obtain⟨hkl,ht⟩:=List.getElem?_eq_some_iff.1 ht;have hl1:=get_some ht1
  split at hg
  ·rename_i hb
   have step:∀m2,IM.closeTake c rest m2=some m'→roundM (wb:=wb) (hv:=hv) (hk:=hk) (noOp _) ((tabA.sw [11]).at [1,4,8,11,12,13] []) [(100,cReady wb hv hk),(104,cGets wb hv hk),(123,cUnline wb hv hk)] [lCloseRest wb hv hk] wk0 300 Try.f122 (loopsOf (bd Try.f122)) (lCloseTake wb hv hk) [mchV,iV c,.l (.sl (.loc 0) 0 1 ks.length),iV ks.length,iV pre.length] m [obI (ks.map Int.ofNat)] []=some (nrmM (zipK (lCloseTake wb hv hk).ks [mchV,iV c,.l (.sl (.loc 0) 0 1 ks.length),iV ks.length,iV (pre++[k]).length]) m2 [obI (ks.map Int.ofNat)] [])→iterM (wb:=wb) (hv:=hv) (hk:=hk) (noOp _) ((tabA.sw [11]).at [1,4,8,11,12,13] []) [(100,cReady wb hv hk),(104,cGets wb hv hk),(123,cUnline wb hv hk)] [lCloseRest wb hv hk] wk0 300 Try.f122 (loopsOf (bd Try.f122)) (lCloseTake wb hv hk) ((k::rest).length+1) [mchV,iV c,.l (.sl (.loc 0) 0 1 ks.length),iV ks.length,iV pre.length] m [obI (ks.map Int.ofNat)] []=some (exM 2 [(0,mchV)] m' [] []):=fun m2 g1 g2=>
    (iterM_succ [mchV,iV c,.l (.sl (.loc 0) 0 1 ks.length),iV ks.length,iV (pre++[k]).length] g2).trans (ctake_iter c ks hn rest (pre++[k]) m2 m' (by simp[h]) g1)
   cases hw:(without t.chans c).isEmpty with
   |true=>
    have e:=List.isEmpty_iff.1 hw;rw[e] at h2;simp only[List.length_nil,Nat.lt_irrefl,if_false,Option.bind_eq_some_iff,gt_iff_lt] at h2;obtain⟨m3,h3,m4,h4,h5⟩:=h2
    refine step m4 h5 ?_
    rw[raw122b];simp[hkk,hkl,ht,hlt,hb,hw,h1,ht1,h3,h4,wrap_succ (show pre.length<1000000000 by omega),lCloseTake,zipK,nrmM]
   |false=>
    have e:0<(without t.chans c).length:=by
     cases hl:without t.chans c with
     |nil=>rw[hl] at hw;cases hw
     |cons a l=>simp
    simp only[gt_iff_lt,e,if_true] at h2
    refine step _ h2 ?_
    rw[raw122b];simp[hkk,hkl,ht,hlt,hb,hw,h1,ht1,e,wrap_succ (show pre.length<1000000000 by omega),lCloseTake,zipK,nrmM]
  ·cases hg
theorem ctake_lp {LS:List (Nat×Code)}(hLS:LS=(loopsOf (bd Try.f122))){ld:List (LoopD (DM wb hv hk))}(hld:LpOk PG ((tabA.sw [11]).at [1,4,8,11,12,13] []) (DM wb hv hk) Try.f122.ntmps LS ld):LpOk PG ((tabA.sw [11]).at [1,4,8,11,12,13] []) (DM wb hv hk) Try.f122.ntmps LS (lCloseTake wb hv hk::ld):=by
 subst hLS
 refine mkLp ((tabAOk.sw _).at _ _) (mdI_ok _) mixOk noOp_ok ctake_env hld (wk:=wk0) (N:=300) (rest_lp rfl) (by kernel_rfl) fun vs m L dk κ x h0=>?_
 simp only[lCloseTake] at h0
 split at h0
 ·obtain⟨c,rfl,h1⟩:=natOf_some h0
  clear h0
  split at h1
  ·cases h1
  ·rename_i xs ks hks
   split at h1
   ·rename_i h3
    obtain⟨rfl,rfl,h4⟩:=h3;have e:=toNats_eq hks;subst e
    split at h1
    ·cases h1
    ·rename_i m' hm
     exact⟨_,_,ctake_iter c ks h4 ks [] m m' rfl hm,h1⟩
   ·cases h1
 ·cases h0
variable (hN:CtrOk (D:=DM wb hv hk) PG 99 (cNote wb hv hk))
omit hN in
theorem cfail_iter (c:Int)(q:Nat)(xs:List Int)(ws:List (Int×Int))(hn:ws.length<1000000):∀(rest pre:List (Int×Int)) (m m':IM),ws=pre++rest→IM.closeFail rest m=some m'→
  iterM (wb:=wb) (hv:=hv) (hk:=hk) (noOp _) ((tabA.sw [11]).at [1,4,8,11,12,13] []) [(99,cNote wb hv hk),(101,cFinish wb hv hk)] [] wk0 300 Try.f122 (loopsOf (bd Try.f122)) (lCloseFail wb hv hk) (rest.length+1) [mchV,iV c,.l (.sl (.loc 0) 0 1 q),.l (.sl (.loc 1) 0 2 ws.length),iV ws.length,iV pre.length] m [obI xs,obW (ws.map pairRow)] []=some (exM 0 [(0,mchV),(1,iV c),(5,.l (.sl (.loc 0) 0 1 q))] m' [obI xs,obW (ws.map pairRow)] [])
 |[],pre,m,m',h,hm=>by
  simp only[IM.closeFail,Option.some.injEq] at hm;subst hm;simp only[List.append_nil] at h
  refine iterM_exit ?_ (fun s h=>by cases h)
  rw[raw122a];simp[h]
 |e::rest,pre,m,m',h,hm=>by
  have hlen:ws.length=pre.length+(rest.length+1):=by rw[h];simp
  have hlt:(pre.length:Int)<(ws.length:Int):=by omega
  have hkk:ws[pre.length]?=some e:=by rw[h];simp
  simp only[IM.closeFail] at hm
  split at hm
  ·rename_i he
   simp only[bind,Option.bind_eq_some_iff] at hm;obtain⟨m1,h1,m2,h2,h3⟩:=hm;rw[←cfail_iter c q xs ws hn rest (pre++[e]) m2 m' (by simp[h]) h3]
   refine iterM_succ [mchV,iV c,.l (.sl (.loc 0) 0 1 q),.l (.sl (.loc 1) 0 2 ws.length),iV ws.length,iV (pre++[e]).length] ?_
   rw[raw122a];simp[hkk,hlt,he,h1,h2,pairRow,wrap_succ (show pre.length<1000000000 by omega),lCloseFail,zipK,nrmM]
  ·rename_i he
   rw[←cfail_iter c q xs ws hn rest (pre++[e]) m m' (by simp[h]) hm]
   refine iterM_succ [mchV,iV c,.l (.sl (.loc 0) 0 1 q),.l (.sl (.loc 1) 0 2 ws.length),iV ws.length,iV (pre++[e]).length] ?_
   rw[raw122a];simp[hkk,hlt,he,pairRow,wrap_succ (show pre.length<1000000000 by omega),lCloseFail,zipK,nrmM]
include hN in
theorem close_lp {LS:List (Nat×Code)}(hLS:LS=(loopsOf (bd Try.f122))):LpOk PG ((tabA.sw [11]).at [1,4,8,11,12,13] []) (DM wb hv hk) Try.f122.ntmps LS [lCloseFail wb hv hk,lCloseTake wb hv hk]:=by
 subst hLS
 refine mkLp ((tabAOk.sw _).at _ _) (mdI_ok _) mixOk noOp_ok (fail_env hN) (ctake_lp rfl LpOk.nil) (wk:=wk0) (N:=300) LpOk.nil (by kernel_rfl) fun vs m L dk κ x h0=>?_
 simp only[lCloseFail] at h0
 split at h0
 ·split at h0
  ·cases h0
  ·rename_i ks rs ws hws
   split at h0
   ·rename_i h3
    obtain⟨rfl,rfl,rfl,h4⟩:=h3;have e:=toPairs_eq hws;subst e
    split at h0
    ·cases h0
    ·rename_i m' hm
     exact⟨_,_,cfail_iter _ _ _ ws h4 ws [] m m' rfl hm,h0⟩
   ·cases h0
 ·cases h0
omit hN in
theorem close_raw {m m':IM}{c:Nat}(h:m.close c=some m'):runM (wb:=wb) (hv:=hv) (hk:=hk) (noOp _) ((tabA.sw [11]).at [1,4,8,11,12,13] []) [] [lCloseFail wb hv hk,lCloseTake wb hv hk] wk0 300 Try.f122 [mchV,iV c] m=some (okM (.tup []) m' []):=by
 rw[raw122];simp only[IM.close,bind,Option.bind_eq_some_iff,guardO] at h;obtain⟨x,hx,u,hg,m1,h1,h2⟩:=h;obtain⟨hi,hx⟩:=List.getElem?_eq_some_iff.1 hx
 split at hg
 ·rename_i hb
  obtain⟨hb1,hb2⟩:=hb
  have g1:x.takers.length*8≤140737488355328:=by omega
  have g2:x.takers.length≤9223372036854775807:=by omega
  simp[hi,hx,hb1,hb2,g1,g2,h1,h2]
 ·cases hg
include hN in
theorem close_ok:CtrOk (D:=DM wb hv hk) PG 122 (cClose wb hv hk):=mkCtr (tabAOk.sw [11]) (mdI_ok _) mixOk noOp_ok EnvOk.nil (fn:=Try.f122) (by kernel_rfl) (by kernel_rfl) (by kernel_rfl) [1,4,8,11,12,13] [] (by kernel_rfl) (close_lp hN rfl) (I:=fun _=>True) (fun _ _ _ _=>trivial) fun vs st κ x h0=>by
 simp only[cClose] at h0
 split at h0
 ·obtain⟨c,rfl,h1⟩:=natOf_some h0
  split at h1
  ·cases h1
  ·rename_i m' hm
   exact⟨of_decide_eq_true rfl,_,_,_,h1,fun _=>close_raw hm⟩
 ·cases h0
end Go.Beat
end
section
namespace Go.Beat
open Go _root_.Beat Go.Proofs
attribute [local simp] int_beq int_bne ble_dec
set_option maxRecDepth 100000
variable {wb:Nat} {hv:Value} {hk:Option Int}
theorem raw121a {wb:Nat}{hv:Value}{hk:Option Int}(m:IM)(i' c q n j:Nat)(i q' h:Int)(b:Bool):roundM (wb:=wb) (hv:=hv) (hk:=hk) (noOp _) (tabA.at [8,12] []) [] [] wk0 300 Try.f121 (loopsOf (loopC (loopsOf (bd Try.f121)) 0)) (lLineIn wb hv hk) [mchV,iV i,tskV i',iV c,bV b,.l (.sl (.m .arg) 0 1 q),iV q',iV h,.l (.sl (.m (.tchans i')) 0 1 n),iV n,iV j] m [] []=bif decide ((j:Int)<(n:Int)) then m.tasks[i']?.bind fun val=>if 0+n≤val.chans.length∧(0:Int)≤(j:Int)∧(j:Int)<(n:Int) then m.tasks[i']?.bind fun val=>(List.map Int.ofNat val.chans)[0+j]?.bind fun val=>bif b then some (nrmM [(0,mchV),(1,iV i),(6,TV.l (AL.p (Tg.m (TI.task i')) 0 1 0)),(8,iV (c:Int)),(9,bV true),(22,TV.l (AL.sl (Tg.m TI.arg) 0 1 q)),(23,iV q'),(24,iV h),(31,TV.l (AL.sl (Tg.m (TI.tchans i')) 0 1 n)),(32,iV (n:Int)),(33,iV (IntKind.i64.wrap ((j:Int)+(1:Int))))] m [] []) else some (nrmM [(0,mchV),(1,iV i),(6,TV.l (AL.p (Tg.m (TI.task i')) 0 1 0)),(8,iV (c:Int)),(9,bV (val==(c:Int))),(22,TV.l (AL.sl (Tg.m TI.arg) 0 1 q)),(23,iV q'),(24,iV h),(31,TV.l (AL.sl (Tg.m (TI.tchans i')) 0 1 n)),(32,iV (n:Int)),(33,iV (IntKind.i64.wrap ((j:Int)+(1:Int))))] m [] []) else none else some (exM 2 [(0,mchV),(1,iV i),(6,TV.l (AL.p (Tg.m (TI.task i')) 0 1 0)),(8,iV (c:Int)),(9,bV b),(22,TV.l (AL.sl (Tg.m TI.arg) 0 1 q)),(23,iV q'),(24,iV h)] m [] []):=by kernel_rfl
theorem raw121b {wb:Nat}{hv:Value}{hk:Option Int}(m:IM)(i n j:Nat):roundM (wb:=wb) (hv:=hv) (hk:=hk) (noOp _) (tabA.at [8,12] []) [] [lLineIn wb hv hk] wk121 300 Try.f121 (loopsOf (bd Try.f121)) (lLine wb hv hk) [mchV,iV i,tskV i,.l (.sl (.m .arg) 0 1 n),iV n,iV j] m [] []=bif decide ((j:Int)<(n:Int)) then if 0+n≤m.arg.length∧(0:Int)≤(j:Int)∧(j:Int)<(n:Int) then (List.map Int.ofNat m.arg)[0+j]?.bind fun val=>m.tasks[i]?.bind fun val_1=>if (0:Int)≤val then if i=i∧(val_1.chans.length:Int)=(val_1.chans.length:Int) then m.tasks[i]?.bind fun val_2=>if val_1.chans.length=val_2.chans.length∧val_1.chans.length<1000000 then bif !decide (val.toNat∈val_2.chans) then m.tasks[i]?.bind fun val_3=>m.tasks[i]?.bind fun val_4=>if 0+val_3.chans.length≤(List.map Int.ofNat val_4.chans).length∧(val_3.chans.length+1)*8≤140737488355328∧val_3.chans.length+1≤9223372036854775807 then bif (List.take val_3.chans.length (List.drop 0 (List.map Int.ofNat val_4.chans))++[(val.toNat:Int)]).length.ble 9223372036854775807 then if 0+(val_3.chans.length+1)≤(List.take val_3.chans.length (List.drop 0 (List.map Int.ofNat val_4.chans))++[(val.toNat:Int)]).length then if TI.tchans i=TI.tchans i then m.tasks[i]?.bind fun val_5=>(toNats (List.take (val_3.chans.length+1) (List.drop 0 (List.take val_3.chans.length (List.drop 0 (List.map Int.ofNat val_4.chans))++[(val.toNat:Int)])))).bind fun (val_6:List Nat)=>if IntKind.i64=IntKind.i64∧val_3.chans.length+1=val_6.length then if 0+m.chans.length≤m.chans.length∧(0:Int)≤(val.toNat:Int)∧(val.toNat:Int)<(m.chans.length:Int) then if 0+(val.toNat:Int).toNat<m.chans.length then if 0+m.chans.length≤m.chans.length∧(0:Int)≤(val.toNat:Int)∧(val.toNat:Int)<(m.chans.length:Int) then if 0+(val.toNat:Int).toNat<m.chans.length then m.chans[0+(val.toNat:Int).toNat]?.bind fun val_7=>m.chans[0+(val.toNat:Int).toNat]?.bind fun val_8=>if 0+val_7.takers.length≤(List.map Int.ofNat val_8.takers).length∧(val_7.takers.length+1)*8≤140737488355328∧val_7.takers.length+1≤9223372036854775807 then bif (List.take val_7.takers.length (List.drop 0 (List.map Int.ofNat val_8.takers))++[(i:Int)]).length.ble 9223372036854775807 then if 0+(val_7.takers.length+1)≤(List.take val_7.takers.length (List.drop 0 (List.map Int.ofNat val_8.takers))++[(i:Int)]).length then if TI.takers (0+(val.toNat:Int).toNat)=TI.takers (0+(val.toNat:Int).toNat) then m.chans[0+(val.toNat:Int).toNat]?.bind fun val_9=>(toNats (List.take (val_7.takers.length+1) (List.drop 0 (List.take val_7.takers.length (List.drop 0 (List.map Int.ofNat val_8.takers))++[(i:Int)])))).bind fun (val_10:List Nat)=>if IntKind.i64=IntKind.i64∧val_7.takers.length+1=val_10.length then some (nrmM [(0,mchV),(1,iV (i:Int)),(6,tskV i),(22,TV.l (AL.sl (Tg.m TI.arg) 0 1 n)),(23,iV (n:Int)),(24,iV (IntKind.i64.wrap ((j:Int)+(1:Int))))] ((m.setT i (val_5.wChans val_6)).setC (0+(val.toNat:Int).toNat) (val_9.wTakers val_10)) [] []) else none else none else none else none else none else none else none else none else none else none else none else none else none else none else some (nrmM [(0,mchV),(1,iV (i:Int)),(6,tskV i),(22,TV.l (AL.sl (Tg.m TI.arg) 0 1 n)),(23,iV (n:Int)),(24,iV (IntKind.i64.wrap ((j:Int)+(1:Int))))] m [] []) else none else none else none else none else some (exM 0 [(0,mchV)] m [] []):=by kernel_rfl
theorem raw121 {wb:Nat}{hv:Value}{hk:Option Int}(m:IM)(i n:Nat):runM (wb:=wb) (hv:=hv) (hk:=hk) (noOp _) (tabA.at [8,12] []) [] [lLine wb hv hk] wk0 300 Try.f121 [mchV,iV i,.l (.sl (.m .arg) 0 1 n)] m=if 0+m.tasks.length≤m.tasks.length∧(0:Int)≤(i:Int)∧(i:Int)<(m.tasks.length:Int) then if 0+i<m.tasks.length then m.tasks[0+i]?.bind fun val=>if 0+i=i∧(n:Int)=(n:Int)∧n=m.arg.length∧n<1000000∧i<(m.tasks.set (0+i) (val.wState (5:Int))).length then (IM.lineLoop i m.arg (m.setT (0+i) (val.wState (5:Int)))).bind fun val=>some (okM (TV.tup []) val []) else none else none else none:=by kernel_rfl
theorem lineIn_iter (m:IM)(i' c q:Nat)(i q' h:Int)(t:ITask)(hx:m.tasks[i']?=some t)(hn:t.chans.length<1000000):∀(rest pre:List Nat),t.chans=pre++rest→
  iterM (wb:=wb) (hv:=hv) (hk:=hk) (noOp _) (tabA.at [8,12] []) [] [] wk0 300 Try.f121 (loopsOf (loopC (loopsOf (bd Try.f121)) 0)) (lLineIn wb hv hk) (rest.length+1) [mchV,iV i,tskV i',iV c,bV (decide (c∈pre)),.l (.sl (.m .arg) 0 1 q),iV q',iV h,.l (.sl (.m (.tchans i')) 0 1 t.chans.length),iV t.chans.length,iV pre.length] m [] []=some (exM 2 [(0,mchV),(1,iV i),(6,tskV i'),(8,iV c),(9,bV (decide (c∈t.chans))),(22,.l (.sl (.m .arg) 0 1 q)),(23,iV q'),(24,iV h)] m [] [])
 |[],pre,h0=>by
  simp only[List.append_nil] at h0
  refine iterM_exit ?_ (fun s h=>by cases h)
  rw[h0,raw121a]
  simp
 |d::rest,pre,h0=>by
  have hlen:t.chans.length=pre.length+(rest.length+1):=by rw[h0];simp
  have hlt:(pre.length:Int)<(t.chans.length:Int):=by omega
  have hd:t.chans[pre.length]?=some d:=by rw[h0];simp
  rw[←lineIn_iter m i' c q i q' h t hx hn rest (pre++[d]) (by simp[h0])]
  refine iterM_succ [mchV,iV i,tskV i',iV c,bV (decide (c∈pre++[d])),.l (.sl (.m .arg) 0 1 q),iV q',iV h,.l (.sl (.m (.tchans i')) 0 1 t.chans.length),iV t.chans.length,iV (pre++[d]).length] ?_
  rw[raw121a]
  by_cases hc:c∈pre
  ·simp[hx,hd,hlt,hc,wrap_succ (show pre.length<1000000000 by omega),lLineIn,zipK,nrmM]
  ·by_cases hcd:c=d
   ·subst hcd
    simp[hx,hd,hlt,hc,wrap_succ (show pre.length<1000000000 by omega),lLineIn,zipK,nrmM]
   ·have hcd':(d:Int)≠c:=by omega
    simp[hx,hd,hlt,hc,hcd,hcd',wrap_succ (show pre.length<1000000000 by omega),lLineIn,zipK,nrmM]
theorem lineIn_lp {LS:List (Nat×Code)}(hLS:LS=(loopsOf (loopC (loopsOf (bd Try.f121)) 0))):LpOk PG (tabA.at [8,12] []) (DM wb hv hk) Try.f121.ntmps LS [lLineIn wb hv hk]:=by
 subst hLS
 refine mkLp (tabAOk.at _ _) (mdI_ok _) mixOk noOp_ok EnvOk.nil LpOk.nil (wk:=wk0) (N:=300) LpOk.nil (by kernel_rfl) fun vs m L dk κ x h0=>?_
 simp only[lLineIn] at h0
 split at h0
 ·obtain⟨c,rfl,h1⟩:=natOf_some h0
  clear h0
  split at h1
  ·rename_i h3
   obtain⟨rfl,rfl⟩:=h3
   split at h1
   ·cases h1
   ·rename_i t ht
    split at h1
    ·rename_i h4
     obtain⟨rfl,h4⟩:=h4;exact⟨_,_,lineIn_iter (wb:=wb) (hv:=hv) (hk:=hk) m _ c _ _ _ _ t ht h4 t.chans [] rfl,h1⟩
    ·cases h1
  ·cases h1
 ·cases h0
theorem line_iter (i:Nat)(cs:List Nat)(hn:cs.length<1000000):∀(rest pre:List Nat) (m m':IM),m.arg=cs→cs=pre++rest→i<m.tasks.length→IM.lineLoop i rest m=some m'→
  iterM (wb:=wb) (hv:=hv) (hk:=hk) (noOp _) (tabA.at [8,12] []) [] [lLineIn wb hv hk] wk121 300 Try.f121 (loopsOf (bd Try.f121)) (lLine wb hv hk) (rest.length+1) [mchV,iV i,tskV i,.l (.sl (.m .arg) 0 1 cs.length),iV cs.length,iV pre.length] m [] []=some (exM 0 [(0,mchV)] m' [] [])
 |[],pre,m,m',ha,h,hi,hm=>by
  simp only[IM.lineLoop,Option.some.injEq] at hm;subst hm;simp only[List.append_nil] at h
  refine iterM_exit ?_ (fun s h=>by cases h)
  rw[raw121b];simp[h]
 |c::rest,pre,m,m',ha,h,hi,hm=>by
  have hlen:cs.length=pre.length+(rest.length+1):=by rw[h];simp
  have hlt:(pre.length:Int)<(cs.length:Int):=by omega
  have hkk:cs[pre.length]?=some c:=by rw[h];simp
  simp only[IM.lineLoop,bind,Option.bind_eq_some_iff,guardO] at hm;obtain⟨t,ht,u,hg,hm⟩:=hm;obtain⟨_,ht⟩:=List.getElem?_eq_some_iff.1 ht
  split at hg
  ·rename_i hb
   split at hm
   ·rename_i hc
    rw[←line_iter i cs hn rest (pre++[c]) m m' ha (by simp[h]) hi hm]
    refine iterM_succ [mchV,iV i,tskV i,.l (.sl (.m .arg) 0 1 cs.length),iV cs.length,iV (pre++[c]).length] ?_
    rw[raw121b];simp[ha,hi,ht,hkk,hlt,hb,hc,wrap_succ (show pre.length<1000000000 by omega),lLine,zipK,nrmM]
   ·rename_i hc
    simp only[Option.bind_eq_some_iff] at hm;obtain⟨chans,h1,x,h2,takers,h3,h4⟩:=hm;obtain⟨h1,rfl⟩:=push_some h1;obtain⟨h3,rfl⟩:=push_some h3;simp only[IM.setT_chans] at h2;obtain⟨hxl,hx⟩:=List.getElem?_eq_some_iff.1 h2;rw[←line_iter i cs hn rest (pre++[c]) _ m' (by simpa using ha) (by simp[h]) (by simpa using hi) h4]
    refine iterM_succ [mchV,iV i,tskV i,.l (.sl (.m .arg) 0 1 cs.length),iV cs.length,iV (pre++[c]).length] ?_
    have g1:(t.chans.length+1)*8≤140737488355328:=by omega
    have g2:t.chans.length≤9223372036854775806:=by omega
    have g3:(x.takers.length+1)*8≤140737488355328:=by omega
    have g4:x.takers.length≤9223372036854775806:=by omega
    rw[raw121b];simp[ha,hi,ht,hkk,hlt,hb,hc,hxl,hx,g1,g2,g3,g4,wrap_succ (show pre.length<1000000000 by omega),lLine,zipK,nrmM]
  ·cases hg
theorem line_lp {LS:List (Nat×Code)}(hLS:LS=(loopsOf (bd Try.f121))):LpOk PG (tabA.at [8,12] []) (DM wb hv hk) Try.f121.ntmps LS [lLine wb hv hk]:=by
 subst hLS
 refine mkLp (tabAOk.at _ _) (mdI_ok _) mixOk noOp_ok EnvOk.nil LpOk.nil (wk:=wk121) (N:=300) (lineIn_lp rfl) (by kernel_rfl) fun vs m L dk κ x h0=>?_
 simp only[lLine] at h0
 split at h0
 ·obtain⟨i,rfl,h1⟩:=natOf_some h0
  clear h0
  split at h1
  ·rename_i h3
   obtain⟨rfl,rfl,rfl,h4,h5⟩:=h3
   split at h1
   ·cases h1
   ·rename_i m' hm
    exact⟨_,_,line_iter _ (IM.arg m) h4 (IM.arg m) [] m m' rfl rfl h5 hm,h1⟩
  ·cases h1
 ·cases h0
theorem line_raw {m m':IM}{i:Nat}(hn:m.arg.length<1000000)(h:m.line i m.arg=some m'):runM (wb:=wb) (hv:=hv) (hk:=hk) (noOp _) (tabA.at [8,12] []) [] [lLine wb hv hk] wk0 300 Try.f121 [mchV,iV i,.l (.sl (.m .arg) 0 1 m.arg.length)] m=some (okM (.tup []) m' []):=by
 rw[raw121];simp only[IM.line,bind,Option.bind_eq_some_iff] at h;obtain⟨t,ht,h⟩:=h;obtain⟨hi,ht⟩:=List.getElem?_eq_some_iff.1 ht;simp[hi,ht,hn,h]
theorem line_ok:CtrOk (D:=DM wb hv hk) PG 121 (cLine wb hv hk):=mkCtr tabAOk (mdI_ok _) mixOk noOp_ok EnvOk.nil (fn:=Try.f121) (by kernel_rfl) (by kernel_rfl) (by kernel_rfl) [8,12] [] (by kernel_rfl) (line_lp rfl) (I:=fun _=>True) (fun _ _ _ _=>trivial) fun vs st κ x h0=>by
 simp only[cLine] at h0
 split at h0
 ·obtain⟨i,rfl,h1⟩:=natOf_some h0
  split at h1
  ·rename_i hg
   obtain⟨rfl,hn⟩:=hg
   split at h1
   ·cases h1
   ·rename_i m' hm
    exact⟨of_decide_eq_true rfl,_,_,_,h1,fun _=>line_raw hn hm⟩
  ·cases h1
 ·cases h0
end Go.Beat
end
section
namespace Go.Beat
open Go _root_.Beat Go.Proofs
attribute [local simp] int_beq int_bne ble_dec
set_option maxRecDepth 100000
variable {wb:Nat} {hv:Value} {hk:Option Int}
theorem raw102_1 {wb:Nat}{hv:Value}{hk:Option Int}(m:IM)(i:Nat)(a b n z:Int):runM (wb:=wb) (hv:=hv) (hk:=hk) (opI _) (tabA.at [1,3,4,7,8,10,11,12,13] [6,7,8]) [(86,cSpawn wb hv hk),(99,cNote wb hv hk),(100,cReady wb hv hk),(101,cFinish wb hv hk),(104,cGets wb hv hk),(105,cSend wb hv hk),(118,cWaited wb hv hk),(119,cFail wb hv hk),(120,cTake wb hv hk),(121,cLine wb hv hk),(122,cClose wb hv hk)] [lPick wb hv hk] wk102 2000 Try.f102 [mchV,iV i,tskV i,stpV ⟨1,a,b,n,z⟩] m=m.tasks[i]?.bind fun val=>m.tasks[i]?.bind fun val=>m.tasks[i]?.bind fun val_1=>(m.tasks.set i (val_1.wPc (IntKind.i64.wrap (val.pc+(1:Int)))))[i]?.bind fun val_2=>((m.tasks.set i (val_1.wPc (IntKind.i64.wrap (val.pc+(1:Int))))).set i (val_2.wA a))[i]?.bind fun val_3=>(((m.tasks.set i (val_1.wPc (IntKind.i64.wrap (val.pc+(1:Int))))).set i (val_2.wA a)).set i (val_3.wOp (1:Int)))[i]?.bind fun val_4=>if (0:Int)≤a∧a<(4:Int) then ((((m.tasks.set i (val_1.wPc (IntKind.i64.wrap (val.pc+(1:Int))))).set i (val_2.wA a)).set i (val_3.wOp (1:Int))).set i (val_4.wAsked (IntKind.i64.wrap (m.asks+(1:Int)))))[i]?.bind fun val_5=>if a.toNat<4∧a.toNat<val_5.regs.length then some (okM (TV.tup []) ((((((m.setT i (val_1.wPc (IntKind.i64.wrap (val.pc+(1:Int))))).setT i (val_2.wA a)).setT i (val_3.wOp (1:Int))).wAsks (IntKind.i64.wrap (m.asks+(1:Int)))).setT i (val_4.wAsked (IntKind.i64.wrap (m.asks+(1:Int))))).setT i (val_5.wRegs (val_5.regs.set a.toNat n))) []) else none else none:=by kernel_rfl
theorem raw102_2 {wb:Nat}{hv:Value}{hk:Option Int}(m:IM)(i:Nat)(a b n z:Int):runM (wb:=wb) (hv:=hv) (hk:=hk) (opI _) (tabA.at [1,3,4,7,8,10,11,12,13] [6,7,8]) [(86,cSpawn wb hv hk),(99,cNote wb hv hk),(100,cReady wb hv hk),(101,cFinish wb hv hk),(104,cGets wb hv hk),(105,cSend wb hv hk),(118,cWaited wb hv hk),(119,cFail wb hv hk),(120,cTake wb hv hk),(121,cLine wb hv hk),(122,cClose wb hv hk)] [lPick wb hv hk] wk102 2000 Try.f102 [mchV,iV i,tskV i,stpV ⟨2,a,b,n,z⟩] m=m.tasks[i]?.bind fun val=>m.tasks[i]?.bind fun val=>m.tasks[i]?.bind fun val_1=>(m.tasks.set i (val_1.wPc (IntKind.i64.wrap (val.pc+(1:Int)))))[i]?.bind fun val_2=>((m.tasks.set i (val_1.wPc (IntKind.i64.wrap (val.pc+(1:Int))))).set i (val_2.wA a))[i]?.bind fun val_3=>(((m.tasks.set i (val_1.wPc (IntKind.i64.wrap (val.pc+(1:Int))))).set i (val_2.wA a)).set i (val_3.wOp (2:Int)))[i]?.bind fun val_4=>if (0:Int)≤b∧b<(4:Int) then ((((m.tasks.set i (val_1.wPc (IntKind.i64.wrap (val.pc+(1:Int))))).set i (val_2.wA a)).set i (val_3.wOp (2:Int))).set i (val_4.wAsked (IntKind.i64.wrap (m.asks+(1:Int)))))[i]?.bind fun val_5=>if b.toNat<4 then val_5.regs[b.toNat]?.bind fun val_6=>if (0:Int)≤a∧a<(4:Int) then ((((m.tasks.set i (val_1.wPc (IntKind.i64.wrap (val.pc+(1:Int))))).set i (val_2.wA a)).set i (val_3.wOp (2:Int))).set i (val_4.wAsked (IntKind.i64.wrap (m.asks+(1:Int)))))[i]?.bind fun val_7=>if a.toNat<4∧a.toNat<val_7.regs.length then some (okM (TV.tup []) ((((((m.setT i (val_1.wPc (IntKind.i64.wrap (val.pc+(1:Int))))).setT i (val_2.wA a)).setT i (val_3.wOp (2:Int))).wAsks (IntKind.i64.wrap (m.asks+(1:Int)))).setT i (val_4.wAsked (IntKind.i64.wrap (m.asks+(1:Int))))).setT i (val_7.wRegs (val_7.regs.set a.toNat (IntKind.i64.wrap (val_6+n))))) []) else none else none else none else none:=by kernel_rfl
theorem raw102_3 {wb:Nat}{hv:Value}{hk:Option Int}(m:IM)(i:Nat)(a b n z:Int):runM (wb:=wb) (hv:=hv) (hk:=hk) (opI _) (tabA.at [1,3,4,7,8,10,11,12,13] [6,7,8]) [(86,cSpawn wb hv hk),(99,cNote wb hv hk),(100,cReady wb hv hk),(101,cFinish wb hv hk),(104,cGets wb hv hk),(105,cSend wb hv hk),(118,cWaited wb hv hk),(119,cFail wb hv hk),(120,cTake wb hv hk),(121,cLine wb hv hk),(122,cClose wb hv hk)] [lPick wb hv hk] wk102 2000 Try.f102 [mchV,iV i,tskV i,stpV ⟨3,a,b,n,z⟩] m=m.tasks[i]?.bind fun val=>m.tasks[i]?.bind fun val=>m.tasks[i]?.bind fun val_1=>(m.tasks.set i (val_1.wPc (IntKind.i64.wrap (val.pc+(1:Int)))))[i]?.bind fun val_2=>((m.tasks.set i (val_1.wPc (IntKind.i64.wrap (val.pc+(1:Int))))).set i (val_2.wA a))[i]?.bind fun val_3=>(((m.tasks.set i (val_1.wPc (IntKind.i64.wrap (val.pc+(1:Int))))).set i (val_2.wA a)).set i (val_3.wOp (3:Int)))[i]?.bind fun val_4=>if (0:Int)≤a∧a<(4:Int) then ((((m.tasks.set i (val_1.wPc (IntKind.i64.wrap (val.pc+(1:Int))))).set i (val_2.wA a)).set i (val_3.wOp (3:Int))).set i (val_4.wAsked (IntKind.i64.wrap (m.asks+(1:Int)))))[i]?.bind fun val_5=>if a.toNat<4 then val_5.regs[a.toNat]?.bind fun val_6=>((((((m.setT i (val_1.wPc (IntKind.i64.wrap (val.pc+(1:Int))))).setT i (val_2.wA a)).setT i (val_3.wOp (3:Int))).wAsks (IntKind.i64.wrap (m.asks+(1:Int)))).setT i (val_4.wAsked (IntKind.i64.wrap (m.asks+(1:Int))))).note (2:Int) (i:Int) val_6).bind fun val=>some (okM (TV.tup []) val []) else none else none:=by kernel_rfl
theorem raw102_4 {wb:Nat}{hv:Value}{hk:Option Int}(m:IM)(i:Nat)(a b n z:Int):runM (wb:=wb) (hv:=hv) (hk:=hk) (opI _) (tabA.at [1,3,4,7,8,10,11,12,13] [6,7,8]) [(86,cSpawn wb hv hk),(99,cNote wb hv hk),(100,cReady wb hv hk),(101,cFinish wb hv hk),(104,cGets wb hv hk),(105,cSend wb hv hk),(118,cWaited wb hv hk),(119,cFail wb hv hk),(120,cTake wb hv hk),(121,cLine wb hv hk),(122,cClose wb hv hk)] [lPick wb hv hk] wk102 2000 Try.f102 [mchV,iV i,tskV i,stpV ⟨4,a,b,n,z⟩] m=m.tasks[i]?.bind fun val=>m.tasks[i]?.bind fun val=>m.tasks[i]?.bind fun val_1=>(m.tasks.set i (val_1.wPc (IntKind.i64.wrap (val.pc+(1:Int)))))[i]?.bind fun val_2=>((m.tasks.set i (val_1.wPc (IntKind.i64.wrap (val.pc+(1:Int))))).set i (val_2.wA a))[i]?.bind fun val_3=>(((m.tasks.set i (val_1.wPc (IntKind.i64.wrap (val.pc+(1:Int))))).set i (val_2.wA a)).set i (val_3.wOp (4:Int)))[i]?.bind fun val_4=>if (0:Int)≤a∧a<(4:Int) then ((((m.tasks.set i (val_1.wPc (IntKind.i64.wrap (val.pc+(1:Int))))).set i (val_2.wA a)).set i (val_3.wOp (4:Int))).set i (val_4.wAsked (IntKind.i64.wrap (m.asks+(1:Int)))))[i]?.bind fun val_5=>if a.toNat<4∧a.toNat<val_5.regs.length then some (okM (TV.tup []) ((((((m.setT i (val_1.wPc (IntKind.i64.wrap (val.pc+(1:Int))))).setT i (val_2.wA a)).setT i (val_3.wOp (4:Int))).wAsks (IntKind.i64.wrap (m.asks+(1:Int)))).setT i (val_4.wAsked (IntKind.i64.wrap (m.asks+(1:Int))))).setT i (val_5.wRegs (val_5.regs.set a.toNat m.now))) []) else none else none:=by kernel_rfl
theorem raw102_5 {wb:Nat}{hv:Value}{hk:Option Int}(m:IM)(i:Nat)(a b n z:Int):runM (wb:=wb) (hv:=hv) (hk:=hk) (opI _) (tabA.at [1,3,4,7,8,10,11,12,13] [6,7,8]) [(86,cSpawn wb hv hk),(99,cNote wb hv hk),(100,cReady wb hv hk),(101,cFinish wb hv hk),(104,cGets wb hv hk),(105,cSend wb hv hk),(118,cWaited wb hv hk),(119,cFail wb hv hk),(120,cTake wb hv hk),(121,cLine wb hv hk),(122,cClose wb hv hk)] [lPick wb hv hk] wk102 2000 Try.f102 [mchV,iV i,tskV i,stpV ⟨5,a,b,n,z⟩] m=m.tasks[i]?.bind fun val=>m.tasks[i]?.bind fun val=>m.tasks[i]?.bind fun val_1=>(m.tasks.set i (val_1.wPc (IntKind.i64.wrap (val.pc+(1:Int)))))[i]?.bind fun val_2=>((m.tasks.set i (val_1.wPc (IntKind.i64.wrap (val.pc+(1:Int))))).set i (val_2.wA a))[i]?.bind fun val_3=>(((m.tasks.set i (val_1.wPc (IntKind.i64.wrap (val.pc+(1:Int))))).set i (val_2.wA a)).set i (val_3.wOp (5:Int)))[i]?.bind fun val_4=>if (0:Int)≤a∧a<(4:Int) then ((((m.tasks.set i (val_1.wPc (IntKind.i64.wrap (val.pc+(1:Int))))).set i (val_2.wA a)).set i (val_3.wOp (5:Int))).set i (val_4.wAsked (IntKind.i64.wrap (m.asks+(1:Int)))))[i]?.bind fun val_5=>if a.toNat<4 then val_5.regs[a.toNat]?.bind fun val_6=>bif decide (val_6<(0:Int)) then ((((((m.setT i (val_1.wPc (IntKind.i64.wrap (val.pc+(1:Int))))).setT i (val_2.wA a)).setT i (val_3.wOp (5:Int))).wAsks (IntKind.i64.wrap (m.asks+(1:Int)))).setT i (val_4.wAsked (IntKind.i64.wrap (m.asks+(1:Int))))).fail i (2:Int)).bind fun val=>some (okM (TV.tup []) val []) else bif decide (val_6>(1000000:Int)) then ((((((m.setT i (val_1.wPc (IntKind.i64.wrap (val.pc+(1:Int))))).setT i (val_2.wA a)).setT i (val_3.wOp (5:Int))).wAsks (IntKind.i64.wrap (m.asks+(1:Int)))).setT i (val_4.wAsked (IntKind.i64.wrap (m.asks+(1:Int))))).fail i (2:Int)).bind fun val=>some (okM (TV.tup []) val []) else ((((m.tasks.set i (val_1.wPc (IntKind.i64.wrap (val.pc+(1:Int))))).set i (val_2.wA a)).set i (val_3.wOp (5:Int))).set i (val_4.wAsked (IntKind.i64.wrap (m.asks+(1:Int)))))[i]?.bind fun val_7=>(((((m.tasks.set i (val_1.wPc (IntKind.i64.wrap (val.pc+(1:Int))))).set i (val_2.wA a)).set i (val_3.wOp (5:Int))).set i (val_4.wAsked (IntKind.i64.wrap (m.asks+(1:Int))))).set i (val_7.wState (2:Int)))[i]?.bind fun val_8=>some (okM (TV.tup []) (((((((m.setT i (val_1.wPc (IntKind.i64.wrap (val.pc+(1:Int))))).setT i (val_2.wA a)).setT i (val_3.wOp (5:Int))).wAsks (IntKind.i64.wrap (m.asks+(1:Int)))).setT i (val_4.wAsked (IntKind.i64.wrap (m.asks+(1:Int))))).setT i (val_7.wState (2:Int))).setT i (val_8.wDue (IntKind.i64.wrap (m.now+val_6)))) []) else none else none:=by kernel_rfl
theorem raw102_6 {wb:Nat}{hv:Value}{hk:Option Int}(m:IM)(i:Nat)(a b n z:Int):runM (wb:=wb) (hv:=hv) (hk:=hk) (opI _) (tabA.at [1,3,4,7,8,10,11,12,13] [6,7,8]) [(86,cSpawn wb hv hk),(99,cNote wb hv hk),(100,cReady wb hv hk),(101,cFinish wb hv hk),(104,cGets wb hv hk),(105,cSend wb hv hk),(118,cWaited wb hv hk),(119,cFail wb hv hk),(120,cTake wb hv hk),(121,cLine wb hv hk),(122,cClose wb hv hk)] [lPick wb hv hk] wk102 2000 Try.f102 [mchV,iV i,tskV i,stpV ⟨6,a,b,n,z⟩] m=m.tasks[i]?.bind fun val=>m.tasks[i]?.bind fun val=>m.tasks[i]?.bind fun val_1=>(m.tasks.set i (val_1.wPc (IntKind.i64.wrap (val.pc+(1:Int)))))[i]?.bind fun val_2=>((m.tasks.set i (val_1.wPc (IntKind.i64.wrap (val.pc+(1:Int))))).set i (val_2.wA a))[i]?.bind fun val_3=>(((m.tasks.set i (val_1.wPc (IntKind.i64.wrap (val.pc+(1:Int))))).set i (val_2.wA a)).set i (val_3.wOp (6:Int)))[i]?.bind fun val_4=>((((((m.setT i (val_1.wPc (IntKind.i64.wrap (val.pc+(1:Int))))).setT i (val_2.wA a)).setT i (val_3.wOp (6:Int))).wAsks (IntKind.i64.wrap (m.asks+(1:Int)))).setT i (val_4.wAsked (IntKind.i64.wrap (m.asks+(1:Int))))).ready i).bind fun val=>some (okM (TV.tup []) val []):=by kernel_rfl
theorem raw102_13 {wb:Nat}{hv:Value}{hk:Option Int}(m:IM)(i:Nat)(a b n z:Int):runM (wb:=wb) (hv:=hv) (hk:=hk) (opI _) (tabA.at [1,3,4,7,8,10,11,12,13] [6,7,8]) [(86,cSpawn wb hv hk),(99,cNote wb hv hk),(100,cReady wb hv hk),(101,cFinish wb hv hk),(104,cGets wb hv hk),(105,cSend wb hv hk),(118,cWaited wb hv hk),(119,cFail wb hv hk),(120,cTake wb hv hk),(121,cLine wb hv hk),(122,cClose wb hv hk)] [lPick wb hv hk] wk102 2000 Try.f102 [mchV,iV i,tskV i,stpV ⟨13,a,b,n,z⟩] m=m.tasks[i]?.bind fun val=>m.tasks[i]?.bind fun val=>m.tasks[i]?.bind fun val_1=>(m.tasks.set i (val_1.wPc (IntKind.i64.wrap (val.pc+(1:Int)))))[i]?.bind fun val_2=>((m.tasks.set i (val_1.wPc (IntKind.i64.wrap (val.pc+(1:Int))))).set i (val_2.wA a))[i]?.bind fun val_3=>(((m.tasks.set i (val_1.wPc (IntKind.i64.wrap (val.pc+(1:Int))))).set i (val_2.wA a)).set i (val_3.wOp (13:Int)))[i]?.bind fun val_4=>if 0+m.chans.length≤m.chans.length∧(0:Int)≤b∧b<(m.chans.length:Int) then if 0+b.toNat<m.chans.length then m.chans[0+b.toNat]?.bind fun val_5=>bif val_5.closed then ((((((m.setT i (val_1.wPc (IntKind.i64.wrap (val.pc+(1:Int))))).setT i (val_2.wA a)).setT i (val_3.wOp (13:Int))).wAsks (IntKind.i64.wrap (m.asks+(1:Int)))).setT i (val_4.wAsked (IntKind.i64.wrap (m.asks+(1:Int))))).fail i (5:Int)).bind fun val=>some (okM (TV.tup []) val []) else if (0:Int)≤b then ((((((m.setT i (val_1.wPc (IntKind.i64.wrap (val.pc+(1:Int))))).setT i (val_2.wA a)).setT i (val_3.wOp (13:Int))).wAsks (IntKind.i64.wrap (m.asks+(1:Int)))).setT i (val_4.wAsked (IntKind.i64.wrap (m.asks+(1:Int))))).close b.toNat).bind fun val=>some (okM (TV.tup []) val []) else none else none else none:=by kernel_rfl
theorem raw102_14 {wb:Nat}{hv:Value}{hk:Option Int}(m:IM)(i:Nat)(a b n z:Int):runM (wb:=wb) (hv:=hv) (hk:=hk) (opI _) (tabA.at [1,3,4,7,8,10,11,12,13] [6,7,8]) [(86,cSpawn wb hv hk),(99,cNote wb hv hk),(100,cReady wb hv hk),(101,cFinish wb hv hk),(104,cGets wb hv hk),(105,cSend wb hv hk),(118,cWaited wb hv hk),(119,cFail wb hv hk),(120,cTake wb hv hk),(121,cLine wb hv hk),(122,cClose wb hv hk)] [lPick wb hv hk] wk102 2000 Try.f102 [mchV,iV i,tskV i,stpV ⟨14,a,b,n,z⟩] m=m.tasks[i]?.bind fun val=>m.tasks[i]?.bind fun val=>m.tasks[i]?.bind fun val_1=>(m.tasks.set i (val_1.wPc (IntKind.i64.wrap (val.pc+(1:Int)))))[i]?.bind fun val_2=>((m.tasks.set i (val_1.wPc (IntKind.i64.wrap (val.pc+(1:Int))))).set i (val_2.wA a))[i]?.bind fun val_3=>(((m.tasks.set i (val_1.wPc (IntKind.i64.wrap (val.pc+(1:Int))))).set i (val_2.wA a)).set i (val_3.wOp (14:Int)))[i]?.bind fun val_4=>((((((m.setT i (val_1.wPc (IntKind.i64.wrap (val.pc+(1:Int))))).setT i (val_2.wA a)).setT i (val_3.wOp (14:Int))).wAsks (IntKind.i64.wrap (m.asks+(1:Int)))).setT i (val_4.wAsked (IntKind.i64.wrap (m.asks+(1:Int))))).note (3:Int) (i:Int) (0:Int)).bind fun val=>(val.finish i (6:Int)).bind fun val=>some (okM (TV.tup []) val []):=by kernel_rfl
theorem raw102_15 {wb:Nat}{hv:Value}{hk:Option Int}(m:IM)(i:Nat)(a b n z:Int):runM (wb:=wb) (hv:=hv) (hk:=hk) (opI _) (tabA.at [1,3,4,7,8,10,11,12,13] [6,7,8]) [(86,cSpawn wb hv hk),(99,cNote wb hv hk),(100,cReady wb hv hk),(101,cFinish wb hv hk),(104,cGets wb hv hk),(105,cSend wb hv hk),(118,cWaited wb hv hk),(119,cFail wb hv hk),(120,cTake wb hv hk),(121,cLine wb hv hk),(122,cClose wb hv hk)] [lPick wb hv hk] wk102 2000 Try.f102 [mchV,iV i,tskV i,stpV ⟨15,a,b,n,z⟩] m=m.tasks[i]?.bind fun val=>m.tasks[i]?.bind fun val_1=>m.tasks[i]?.bind fun val_2=>(m.tasks.set i (val_2.wPc (IntKind.i64.wrap (val_1.pc+(1:Int)))))[i]?.bind fun val_3=>((m.tasks.set i (val_2.wPc (IntKind.i64.wrap (val_1.pc+(1:Int))))).set i (val_3.wA a))[i]?.bind fun val_4=>(((m.tasks.set i (val_2.wPc (IntKind.i64.wrap (val_1.pc+(1:Int))))).set i (val_3.wA a)).set i (val_4.wOp (15:Int)))[i]?.bind fun val_5=>if (0:Int)≤a∧a<(4:Int) then ((((m.tasks.set i (val_2.wPc (IntKind.i64.wrap (val_1.pc+(1:Int))))).set i (val_3.wA a)).set i (val_4.wOp (15:Int))).set i (val_5.wAsked (IntKind.i64.wrap (m.asks+(1:Int)))))[i]?.bind fun val_6=>if a.toNat<4 then val_6.regs[a.toNat]?.bind fun val_7=>bif decide (val_7>(0:Int)) then if (0:Int)≤a∧a<(4:Int) then ((((m.tasks.set i (val_2.wPc (IntKind.i64.wrap (val_1.pc+(1:Int))))).set i (val_3.wA a)).set i (val_4.wOp (15:Int))).set i (val_5.wAsked (IntKind.i64.wrap (m.asks+(1:Int)))))[i]?.bind fun val_8=>if a.toNat<4 then val_8.regs[a.toNat]?.bind fun val_9=>if (0:Int)≤a∧a<(4:Int) then ((((m.tasks.set i (val_2.wPc (IntKind.i64.wrap (val_1.pc+(1:Int))))).set i (val_3.wA a)).set i (val_4.wOp (15:Int))).set i (val_5.wAsked (IntKind.i64.wrap (m.asks+(1:Int)))))[i]?.bind fun val_10=>if a.toNat<4∧a.toNat<val_10.regs.length then (((((m.tasks.set i (val_2.wPc (IntKind.i64.wrap (val_1.pc+(1:Int))))).set i (val_3.wA a)).set i (val_4.wOp (15:Int))).set i (val_5.wAsked (IntKind.i64.wrap (m.asks+(1:Int))))).set i (val_10.wRegs (val_10.regs.set a.toNat (IntKind.i64.wrap (val_9 - (1:Int))))))[i]?.bind fun val_11=>(((((m.tasks.set i (val_2.wPc (IntKind.i64.wrap (val_1.pc+(1:Int))))).set i (val_3.wA a)).set i (val_4.wOp (15:Int))).set i (val_5.wAsked (IntKind.i64.wrap (m.asks+(1:Int))))).set i (val_10.wRegs (val_10.regs.set a.toNat (IntKind.i64.wrap (val_9 - (1:Int))))))[i]?.bind fun val_12=>if 0+val_11.blocks.length≤(List.map pairRow val_12.blocks.reverse).length∧(val_11.blocks.length+1)*16≤140737488355328∧val_11.blocks.length+1≤9223372036854775807 then bif (List.take val_11.blocks.length (List.drop 0 (List.map pairRow val_12.blocks.reverse))++[[val.pc,IntKind.i64.wrap (IntKind.i64.wrap (val.pc+(1:Int))+z)]]).length.ble 9223372036854775807 then if 0+(val_11.blocks.length+1)≤(List.take val_11.blocks.length (List.drop 0 (List.map pairRow val_12.blocks.reverse))++[[val.pc,IntKind.i64.wrap (IntKind.i64.wrap (val.pc+(1:Int))+z)]]).length then if TI.tblocks i=TI.tblocks i then (((((m.tasks.set i (val_2.wPc (IntKind.i64.wrap (val_1.pc+(1:Int))))).set i (val_3.wA a)).set i (val_4.wOp (15:Int))).set i (val_5.wAsked (IntKind.i64.wrap (m.asks+(1:Int))))).set i (val_10.wRegs (val_10.regs.set a.toNat (IntKind.i64.wrap (val_9 - (1:Int))))))[i]?.bind fun val_13=>(toPairs (List.take (val_11.blocks.length+1) (List.drop 0 (List.take val_11.blocks.length (List.drop 0 (List.map pairRow val_12.blocks.reverse))++[[val.pc,IntKind.i64.wrap (IntKind.i64.wrap (val.pc+(1:Int))+z)]])))).bind fun (val:List (Int×Int))=>if k2=k2∧val_11.blocks.length+1=val.length then some (okM (TV.tup []) (((((((m.setT i (val_2.wPc (IntKind.i64.wrap (val_1.pc+(1:Int))))).setT i (val_3.wA a)).setT i (val_4.wOp (15:Int))).wAsks (IntKind.i64.wrap (m.asks+(1:Int)))).setT i (val_5.wAsked (IntKind.i64.wrap (m.asks+(1:Int))))).setT i (val_10.wRegs (val_10.regs.set a.toNat (IntKind.i64.wrap (val_9 - (1:Int)))))).setT i (val_13.wBlocks val.reverse)) []) else none else none else none else none else none else none else none else none else none else ((((m.tasks.set i (val_2.wPc (IntKind.i64.wrap (val_1.pc+(1:Int))))).set i (val_3.wA a)).set i (val_4.wOp (15:Int))).set i (val_5.wAsked (IntKind.i64.wrap (m.asks+(1:Int)))))[i]?.bind fun val_8=>some (okM (TV.tup []) ((((((m.setT i (val_2.wPc (IntKind.i64.wrap (val_1.pc+(1:Int))))).setT i (val_3.wA a)).setT i (val_4.wOp (15:Int))).wAsks (IntKind.i64.wrap (m.asks+(1:Int)))).setT i (val_5.wAsked (IntKind.i64.wrap (m.asks+(1:Int))))).setT i (val_8.wPc (IntKind.i64.wrap (IntKind.i64.wrap (val.pc+(1:Int))+z)))) []) else none else none:=by kernel_rfl
theorem raw102_16 {wb:Nat}{hv:Value}{hk:Option Int}(m:IM)(i:Nat)(a b n z:Int):runM (wb:=wb) (hv:=hv) (hk:=hk) (opI _) (tabA.at [1,3,4,7,8,10,11,12,13] [6,7,8]) [(86,cSpawn wb hv hk),(99,cNote wb hv hk),(100,cReady wb hv hk),(101,cFinish wb hv hk),(104,cGets wb hv hk),(105,cSend wb hv hk),(118,cWaited wb hv hk),(119,cFail wb hv hk),(120,cTake wb hv hk),(121,cLine wb hv hk),(122,cClose wb hv hk)] [lPick wb hv hk] wk102 2000 Try.f102 [mchV,iV i,tskV i,stpV ⟨16,a,b,n,z⟩] m=m.tasks[i]?.bind fun val=>m.tasks[i]?.bind fun val_1=>m.tasks[i]?.bind fun val_2=>(m.tasks.set i (val_2.wPc (IntKind.i64.wrap (val_1.pc+(1:Int)))))[i]?.bind fun val_3=>((m.tasks.set i (val_2.wPc (IntKind.i64.wrap (val_1.pc+(1:Int))))).set i (val_3.wA a))[i]?.bind fun val_4=>(((m.tasks.set i (val_2.wPc (IntKind.i64.wrap (val_1.pc+(1:Int))))).set i (val_3.wA a)).set i (val_4.wOp (16:Int)))[i]?.bind fun val_5=>if (0:Int)≤a∧a<(4:Int) then ((((m.tasks.set i (val_2.wPc (IntKind.i64.wrap (val_1.pc+(1:Int))))).set i (val_3.wA a)).set i (val_4.wOp (16:Int))).set i (val_5.wAsked (IntKind.i64.wrap (m.asks+(1:Int)))))[i]?.bind fun val_6=>if a.toNat<4 then val_6.regs[a.toNat]?.bind fun val_7=>bif val_7 !=(0:Int) then ((((m.tasks.set i (val_2.wPc (IntKind.i64.wrap (val_1.pc+(1:Int))))).set i (val_3.wA a)).set i (val_4.wOp (16:Int))).set i (val_5.wAsked (IntKind.i64.wrap (m.asks+(1:Int)))))[i]?.bind fun val_8=>((((m.tasks.set i (val_2.wPc (IntKind.i64.wrap (val_1.pc+(1:Int))))).set i (val_3.wA a)).set i (val_4.wOp (16:Int))).set i (val_5.wAsked (IntKind.i64.wrap (m.asks+(1:Int)))))[i]?.bind fun val_9=>if 0+val_8.blocks.length≤(List.map pairRow val_9.blocks.reverse).length∧(val_8.blocks.length+1)*16≤140737488355328∧val_8.blocks.length+1≤9223372036854775807 then bif (List.take val_8.blocks.length (List.drop 0 (List.map pairRow val_9.blocks.reverse))++[[val.pc,IntKind.i64.wrap (IntKind.i64.wrap (val.pc+(1:Int))+z)]]).length.ble 9223372036854775807 then if 0+(val_8.blocks.length+1)≤(List.take val_8.blocks.length (List.drop 0 (List.map pairRow val_9.blocks.reverse))++[[val.pc,IntKind.i64.wrap (IntKind.i64.wrap (val.pc+(1:Int))+z)]]).length then if TI.tblocks i=TI.tblocks i then ((((m.tasks.set i (val_2.wPc (IntKind.i64.wrap (val_1.pc+(1:Int))))).set i (val_3.wA a)).set i (val_4.wOp (16:Int))).set i (val_5.wAsked (IntKind.i64.wrap (m.asks+(1:Int)))))[i]?.bind fun val_10=>(toPairs (List.take (val_8.blocks.length+1) (List.drop 0 (List.take val_8.blocks.length (List.drop 0 (List.map pairRow val_9.blocks.reverse))++[[val.pc,IntKind.i64.wrap (IntKind.i64.wrap (val.pc+(1:Int))+z)]])))).bind fun (val:List (Int×Int))=>if k2=k2∧val_8.blocks.length+1=val.length then some (okM (TV.tup []) ((((((m.setT i (val_2.wPc (IntKind.i64.wrap (val_1.pc+(1:Int))))).setT i (val_3.wA a)).setT i (val_4.wOp (16:Int))).wAsks (IntKind.i64.wrap (m.asks+(1:Int)))).setT i (val_5.wAsked (IntKind.i64.wrap (m.asks+(1:Int))))).setT i (val_10.wBlocks val.reverse)) []) else none else none else none else none else none else ((((m.tasks.set i (val_2.wPc (IntKind.i64.wrap (val_1.pc+(1:Int))))).set i (val_3.wA a)).set i (val_4.wOp (16:Int))).set i (val_5.wAsked (IntKind.i64.wrap (m.asks+(1:Int)))))[i]?.bind fun val_8=>some (okM (TV.tup []) ((((((m.setT i (val_2.wPc (IntKind.i64.wrap (val_1.pc+(1:Int))))).setT i (val_3.wA a)).setT i (val_4.wOp (16:Int))).wAsks (IntKind.i64.wrap (m.asks+(1:Int)))).setT i (val_5.wAsked (IntKind.i64.wrap (m.asks+(1:Int))))).setT i (val_8.wPc (IntKind.i64.wrap (IntKind.i64.wrap (val.pc+(1:Int))+z)))) []) else none else none:=by kernel_rfl
theorem step1 {m m':IM}{i:Nat}{a b n z:Int}(h:m.step i ⟨1,a,b,n,z⟩=some m'):runM (wb:=wb) (hv:=hv) (hk:=hk) (opI _) (tabA.at [1,3,4,7,8,10,11,12,13] [6,7,8]) [(86,cSpawn wb hv hk),(99,cNote wb hv hk),(100,cReady wb hv hk),(101,cFinish wb hv hk),(104,cGets wb hv hk),(105,cSend wb hv hk),(118,cWaited wb hv hk),(119,cFail wb hv hk),(120,cTake wb hv hk),(121,cLine wb hv hk),(122,cClose wb hv hk)] [lPick wb hv hk] wk102 2000 Try.f102 [mchV,iV i,tskV i,stpV ⟨1,a,b,n,z⟩] m=some (okM (.tup []) m' []):=by
 rw[raw102_1];simp only[IM.step,bind,Option.bind_eq_some_iff] at h;obtain⟨t,ht,h⟩:=h;obtain⟨hi,ht⟩:=List.getElem?_eq_some_iff.1 ht;simp[IM.act,Option.bind_eq_some_iff] at h;obtain⟨t1,h1,rfl⟩:=h;obtain⟨a1,a2,a3,rfl⟩:=setR_some h1
 have a4:a.toNat<4:=by omega
 simp at a3
 simp[hi,ht,a1,a2,a3,a4]
theorem step2 {m m':IM}{i:Nat}{a b n z:Int}(h:m.step i ⟨2,a,b,n,z⟩=some m'):runM (wb:=wb) (hv:=hv) (hk:=hk) (opI _) (tabA.at [1,3,4,7,8,10,11,12,13] [6,7,8]) [(86,cSpawn wb hv hk),(99,cNote wb hv hk),(100,cReady wb hv hk),(101,cFinish wb hv hk),(104,cGets wb hv hk),(105,cSend wb hv hk),(118,cWaited wb hv hk),(119,cFail wb hv hk),(120,cTake wb hv hk),(121,cLine wb hv hk),(122,cClose wb hv hk)] [lPick wb hv hk] wk102 2000 Try.f102 [mchV,iV i,tskV i,stpV ⟨2,a,b,n,z⟩] m=some (okM (.tup []) m' []):=by
 rw[raw102_2];simp only[IM.step,bind,Option.bind_eq_some_iff] at h;obtain⟨t,ht,h⟩:=h;obtain⟨hi,ht⟩:=List.getElem?_eq_some_iff.1 ht;simp[IM.act,Option.bind_eq_some_iff] at h;obtain⟨v,hv0,h⟩:=h;obtain⟨b1,b2,b3⟩:=getR_some hv0
 have b4:b.toNat<4:=by omega
 simp at b3
 obtain⟨b6,b5⟩:=List.getElem?_eq_some_iff.1 b3;obtain⟨t1,h1,rfl⟩:=h;obtain⟨a1,a2,a3,rfl⟩:=setR_some h1
 have a4:a.toNat<4:=by omega
 simp at a3
 simp[hi,ht,a1,a2,a3,a4,b1,b2,b4,b5]
theorem step3 {m m':IM}{i:Nat}{a b n z:Int}(h:m.step i ⟨3,a,b,n,z⟩=some m'):runM (wb:=wb) (hv:=hv) (hk:=hk) (opI _) (tabA.at [1,3,4,7,8,10,11,12,13] [6,7,8]) [(86,cSpawn wb hv hk),(99,cNote wb hv hk),(100,cReady wb hv hk),(101,cFinish wb hv hk),(104,cGets wb hv hk),(105,cSend wb hv hk),(118,cWaited wb hv hk),(119,cFail wb hv hk),(120,cTake wb hv hk),(121,cLine wb hv hk),(122,cClose wb hv hk)] [lPick wb hv hk] wk102 2000 Try.f102 [mchV,iV i,tskV i,stpV ⟨3,a,b,n,z⟩] m=some (okM (.tup []) m' []):=by
 rw[raw102_3];simp only[IM.step,bind,Option.bind_eq_some_iff] at h;obtain⟨t,ht,h⟩:=h;obtain⟨hi,ht⟩:=List.getElem?_eq_some_iff.1 ht;simp[IM.act,Option.bind_eq_some_iff] at h;obtain⟨v,hv0,h⟩:=h;obtain⟨b1,b2,b3⟩:=getR_some hv0
 have b4:a.toNat<4:=by omega
 simp at b3
 obtain⟨b6,b5⟩:=List.getElem?_eq_some_iff.1 b3;simp[hi,ht,b1,b2,b3,b4,h]
theorem step4 {m m':IM}{i:Nat}{a b n z:Int}(h:m.step i ⟨4,a,b,n,z⟩=some m'):runM (wb:=wb) (hv:=hv) (hk:=hk) (opI _) (tabA.at [1,3,4,7,8,10,11,12,13] [6,7,8]) [(86,cSpawn wb hv hk),(99,cNote wb hv hk),(100,cReady wb hv hk),(101,cFinish wb hv hk),(104,cGets wb hv hk),(105,cSend wb hv hk),(118,cWaited wb hv hk),(119,cFail wb hv hk),(120,cTake wb hv hk),(121,cLine wb hv hk),(122,cClose wb hv hk)] [lPick wb hv hk] wk102 2000 Try.f102 [mchV,iV i,tskV i,stpV ⟨4,a,b,n,z⟩] m=some (okM (.tup []) m' []):=by
 rw[raw102_4];simp only[IM.step,bind,Option.bind_eq_some_iff] at h;obtain⟨t,ht,h⟩:=h;obtain⟨hi,ht⟩:=List.getElem?_eq_some_iff.1 ht;simp[IM.act,Option.bind_eq_some_iff] at h;obtain⟨t1,h1,rfl⟩:=h;obtain⟨a1,a2,a3,rfl⟩:=setR_some h1
 have a4:a.toNat<4:=by omega
 simp at a3
 simp[hi,ht,a1,a2,a3,a4]
theorem step5 {m m':IM}{i:Nat}{a b n z:Int}(h:m.step i ⟨5,a,b,n,z⟩=some m'):runM (wb:=wb) (hv:=hv) (hk:=hk) (opI _) (tabA.at [1,3,4,7,8,10,11,12,13] [6,7,8]) [(86,cSpawn wb hv hk),(99,cNote wb hv hk),(100,cReady wb hv hk),(101,cFinish wb hv hk),(104,cGets wb hv hk),(105,cSend wb hv hk),(118,cWaited wb hv hk),(119,cFail wb hv hk),(120,cTake wb hv hk),(121,cLine wb hv hk),(122,cClose wb hv hk)] [lPick wb hv hk] wk102 2000 Try.f102 [mchV,iV i,tskV i,stpV ⟨5,a,b,n,z⟩] m=some (okM (.tup []) m' []):=by
 rw[raw102_5];simp only[IM.step,bind,Option.bind_eq_some_iff] at h;obtain⟨t,ht,h⟩:=h;obtain⟨hi,ht⟩:=List.getElem?_eq_some_iff.1 ht;simp[IM.act,Option.bind_eq_some_iff] at h;obtain⟨v,hv0,h⟩:=h;obtain⟨b1,b2,b3⟩:=getR_some hv0
 have b4:a.toNat<4:=by omega
 simp at b3
 obtain⟨b6,b5⟩:=List.getElem?_eq_some_iff.1 b3
 split at h
 ·rename_i hc
  rcases Int.lt_or_le v 0 with h0|h0
  ·simp[hi,ht,b1,b2,b3,b4,h,h0]
  ·have h1:1000000<v:=by omega
   have h2:¬v<0:=by omega
   simp[hi,ht,b1,b2,b3,b4,h,h2,h1]
 ·rename_i hc
  have h1:¬1000000<v:=by omega
  have h2:¬v<0:=by omega
  simp only[Option.some.injEq] at h;subst h;simp[hi,ht,b1,b2,b3,b4,h2,h1]
theorem step6 {m m':IM}{i:Nat}{a b n z:Int}(h:m.step i ⟨6,a,b,n,z⟩=some m'):runM (wb:=wb) (hv:=hv) (hk:=hk) (opI _) (tabA.at [1,3,4,7,8,10,11,12,13] [6,7,8]) [(86,cSpawn wb hv hk),(99,cNote wb hv hk),(100,cReady wb hv hk),(101,cFinish wb hv hk),(104,cGets wb hv hk),(105,cSend wb hv hk),(118,cWaited wb hv hk),(119,cFail wb hv hk),(120,cTake wb hv hk),(121,cLine wb hv hk),(122,cClose wb hv hk)] [lPick wb hv hk] wk102 2000 Try.f102 [mchV,iV i,tskV i,stpV ⟨6,a,b,n,z⟩] m=some (okM (.tup []) m' []):=by
 rw[raw102_6];simp only[IM.step,bind,Option.bind_eq_some_iff] at h;obtain⟨t,ht,h⟩:=h;obtain⟨hi,ht⟩:=List.getElem?_eq_some_iff.1 ht;simp[IM.act,Option.bind_eq_some_iff] at h;simp[hi,ht,h]
theorem step14 {m m':IM}{i:Nat}{a b n z:Int}(h:m.step i ⟨14,a,b,n,z⟩=some m'):runM (wb:=wb) (hv:=hv) (hk:=hk) (opI _) (tabA.at [1,3,4,7,8,10,11,12,13] [6,7,8]) [(86,cSpawn wb hv hk),(99,cNote wb hv hk),(100,cReady wb hv hk),(101,cFinish wb hv hk),(104,cGets wb hv hk),(105,cSend wb hv hk),(118,cWaited wb hv hk),(119,cFail wb hv hk),(120,cTake wb hv hk),(121,cLine wb hv hk),(122,cClose wb hv hk)] [lPick wb hv hk] wk102 2000 Try.f102 [mchV,iV i,tskV i,stpV ⟨14,a,b,n,z⟩] m=some (okM (.tup []) m' []):=by
 rw[raw102_14];simp only[IM.step,bind,Option.bind_eq_some_iff] at h;obtain⟨t,ht,h⟩:=h;obtain⟨hi,ht⟩:=List.getElem?_eq_some_iff.1 ht;simp[IM.act,Option.bind_eq_some_iff] at h;obtain⟨m1,h1,h2⟩:=h;simp[hi,ht,h1,h2]
theorem step13 {m m':IM}{i:Nat}{a b n z:Int}(h:m.step i ⟨13,a,b,n,z⟩=some m'):runM (wb:=wb) (hv:=hv) (hk:=hk) (opI _) (tabA.at [1,3,4,7,8,10,11,12,13] [6,7,8]) [(86,cSpawn wb hv hk),(99,cNote wb hv hk),(100,cReady wb hv hk),(101,cFinish wb hv hk),(104,cGets wb hv hk),(105,cSend wb hv hk),(118,cWaited wb hv hk),(119,cFail wb hv hk),(120,cTake wb hv hk),(121,cLine wb hv hk),(122,cClose wb hv hk)] [lPick wb hv hk] wk102 2000 Try.f102 [mchV,iV i,tskV i,stpV ⟨13,a,b,n,z⟩] m=some (okM (.tup []) m' []):=by
 rw[raw102_13];simp only[IM.step,bind,Option.bind_eq_some_iff] at h;obtain⟨t,ht,h⟩:=h;obtain⟨hi,ht⟩:=List.getElem?_eq_some_iff.1 ht;simp[IM.act,Option.bind_eq_some_iff] at h;obtain⟨c,hc,x,hx,h⟩:=h;have e:=chanNo_some hc;subst e;obtain⟨hxl,hx⟩:=List.getElem?_eq_some_iff.1 hx
 cases hcl:x.closed with
 |true=>simp[hcl] at h;simp[hi,ht,hxl,hx,hcl,h]
 |false=>simp[hcl] at h;simp[hi,ht,hxl,hx,hcl,h]
theorem step15 {m m':IM}{i:Nat}{a b n z:Int}(h:m.step i ⟨15,a,b,n,z⟩=some m'):runM (wb:=wb) (hv:=hv) (hk:=hk) (opI _) (tabA.at [1,3,4,7,8,10,11,12,13] [6,7,8]) [(86,cSpawn wb hv hk),(99,cNote wb hv hk),(100,cReady wb hv hk),(101,cFinish wb hv hk),(104,cGets wb hv hk),(105,cSend wb hv hk),(118,cWaited wb hv hk),(119,cFail wb hv hk),(120,cTake wb hv hk),(121,cLine wb hv hk),(122,cClose wb hv hk)] [lPick wb hv hk] wk102 2000 Try.f102 [mchV,iV i,tskV i,stpV ⟨15,a,b,n,z⟩] m=some (okM (.tup []) m' []):=by
 rw[raw102_15];simp only[IM.step,bind,Option.bind_eq_some_iff] at h;obtain⟨t,ht,h⟩:=h;obtain⟨hi,ht⟩:=List.getElem?_eq_some_iff.1 ht;simp[IM.act,Option.bind_eq_some_iff] at h;obtain⟨v,hv0,h⟩:=h;obtain⟨b1,b2,b3⟩:=getR_some hv0
 have b4:a.toNat<4:=by omega
 simp at b3
 obtain⟨b6,b5⟩:=List.getElem?_eq_some_iff.1 b3;have a3:(1:Int)=1:=rfl
 split at h
 ·rename_i h0
  simp[Option.bind_eq_some_iff] at h;obtain⟨t0,h1,t1,h2,rfl⟩:=h;obtain⟨a1,a2,a3,rfl⟩:=setR_some h1
  simp at a3
  simp[ITask.block,Option.bind_eq_some_iff] at h2;obtain⟨⟨u,hp⟩,rfl⟩:=h2;obtain⟨hp, -⟩:=push_some hp
  have g1:(t.blocks.length+1)*16≤140737488355328:=by omega
  have g2:t.blocks.length≤9223372036854775806:=by omega
  simp[hi,ht,b1,b2,b4,b5,a3,h0,g1,g2]
 ·rename_i h0
  simp[ITask.block,Option.bind_eq_some_iff] at h;subst h;simp[hi,ht,b1,b2,b4,b5,b6,h0]
theorem step16 {m m':IM}{i:Nat}{a b n z:Int}(h:m.step i ⟨16,a,b,n,z⟩=some m'):runM (wb:=wb) (hv:=hv) (hk:=hk) (opI _) (tabA.at [1,3,4,7,8,10,11,12,13] [6,7,8]) [(86,cSpawn wb hv hk),(99,cNote wb hv hk),(100,cReady wb hv hk),(101,cFinish wb hv hk),(104,cGets wb hv hk),(105,cSend wb hv hk),(118,cWaited wb hv hk),(119,cFail wb hv hk),(120,cTake wb hv hk),(121,cLine wb hv hk),(122,cClose wb hv hk)] [lPick wb hv hk] wk102 2000 Try.f102 [mchV,iV i,tskV i,stpV ⟨16,a,b,n,z⟩] m=some (okM (.tup []) m' []):=by
 rw[raw102_16];simp only[IM.step,bind,Option.bind_eq_some_iff] at h;obtain⟨t,ht,h⟩:=h;obtain⟨hi,ht⟩:=List.getElem?_eq_some_iff.1 ht;simp[IM.act,Option.bind_eq_some_iff] at h;obtain⟨v,hv0,h⟩:=h;obtain⟨b1,b2,b3⟩:=getR_some hv0
 have b4:a.toNat<4:=by omega
 simp at b3
 obtain⟨b6,b5⟩:=List.getElem?_eq_some_iff.1 b3
 by_cases h0:v=0
 ·simp[ITask.block,h0,Option.bind_eq_some_iff] at h
  subst h;simp[hi,ht,b1,b2,b4,b5,b6,h0]
 ·simp[ITask.block,h0,Option.bind_eq_some_iff] at h
  obtain⟨t1,⟨⟨u,hp⟩,rfl⟩,rfl⟩:=h;obtain⟨hp, -⟩:=push_some hp
  have g1:(t.blocks.length+1)*16≤140737488355328:=by omega
  have g2:t.blocks.length≤9223372036854775806:=by omega
  simp[hi,ht,b1,b2,b4,b5,b6,h0,g1,g2]
end Go.Beat
end
section
namespace Go.Beat
open Go _root_.Beat Go.Proofs
attribute [local simp] int_beq int_bne ble_dec
set_option maxRecDepth 100000
variable {wb:Nat} {hv:Value} {hk:Option Int}
theorem raw102_9 {wb:Nat}{hv:Value}{hk:Option Int}(m:IM)(i:Nat)(a b n z:Int):runM (wb:=wb) (hv:=hv) (hk:=hk) (opI _) (tabA.at [1,3,4,7,8,10,11,12,13] [6,7,8]) [(86,cSpawn wb hv hk),(99,cNote wb hv hk),(100,cReady wb hv hk),(101,cFinish wb hv hk),(104,cGets wb hv hk),(105,cSend wb hv hk),(118,cWaited wb hv hk),(119,cFail wb hv hk),(120,cTake wb hv hk),(121,cLine wb hv hk),(122,cClose wb hv hk)] [lPick wb hv hk] wk102 2000 Try.f102 [mchV,iV i,tskV i,stpV ⟨9,a,b,n,z⟩] m=m.tasks[i]?.bind fun val=>m.tasks[i]?.bind fun val_1=>m.tasks[i]?.bind fun val_2=>(m.tasks.set i (val_2.wPc (IntKind.i64.wrap (val_1.pc+(1:Int)))))[i]?.bind fun val_3=>((m.tasks.set i (val_2.wPc (IntKind.i64.wrap (val_1.pc+(1:Int))))).set i (val_3.wA a))[i]?.bind fun val_4=>(((m.tasks.set i (val_2.wPc (IntKind.i64.wrap (val_1.pc+(1:Int))))).set i (val_3.wA a)).set i (val_4.wOp (9:Int)))[i]?.bind fun val_5=>if 0+m.chans.length≤m.chans.length∧(0:Int)≤b∧b<(m.chans.length:Int) then if 0+b.toNat<m.chans.length then m.chans[0+b.toNat]?.bind fun val_6=>bif val_6.closed then ((((((m.setT i (val_2.wPc (IntKind.i64.wrap (val_1.pc+(1:Int))))).setT i (val_3.wA a)).setT i (val_4.wOp (9:Int))).wAsks (IntKind.i64.wrap (m.asks+(1:Int)))).setT i (val_5.wAsked (IntKind.i64.wrap (m.asks+(1:Int))))).fail i (4:Int)).bind fun val=>some (okM (TV.tup []) val []) else if (0:Int)≤a∧a<(4:Int) then ((((m.tasks.set i (val_2.wPc (IntKind.i64.wrap (val_1.pc+(1:Int))))).set i (val_3.wA a)).set i (val_4.wOp (9:Int))).set i (val_5.wAsked (IntKind.i64.wrap (m.asks+(1:Int)))))[i]?.bind fun val_7=>if a.toNat<4 then val_7.regs[a.toNat]?.bind fun val_8=>if (0:Int)≤b then ((((((m.setT i (val_2.wPc (IntKind.i64.wrap (val_1.pc+(1:Int))))).setT i (val_3.wA a)).setT i (val_4.wOp (9:Int))).wAsks (IntKind.i64.wrap (m.asks+(1:Int)))).setT i (val_5.wAsked (IntKind.i64.wrap (m.asks+(1:Int))))).send b.toNat val_8).bind fun (val_9:IM×Bool)=>bif !val_9.snd then val_9.fst.tasks[i]?.bind fun val_10=>(val_9.fst.tasks.set i (val_10.wState (4:Int)))[i]?.bind fun val_11=>if 0+val_9.fst.chans.length≤val_9.fst.chans.length∧(0:Int)≤b∧b<(val_9.fst.chans.length:Int) then if 0+b.toNat<val_9.fst.chans.length then if 0+val_9.fst.chans.length≤val_9.fst.chans.length∧(0:Int)≤b∧b<(val_9.fst.chans.length:Int) then if 0+b.toNat<val_9.fst.chans.length then val_9.fst.chans[0+b.toNat]?.bind fun val_12=>if (0:Int)≤a∧a<(4:Int) then ((val_9.fst.tasks.set i (val_10.wState (4:Int))).set i (val_11.wTarget b))[i]?.bind fun val_13=>if a.toNat<4 then val_13.regs[a.toNat]?.bind fun val_14=>val_9.fst.chans[0+b.toNat]?.bind fun val_15=>if 0+val_12.senders.length≤(List.map pairRow val_15.senders).length∧(val_12.senders.length+1)*16≤140737488355328∧val_12.senders.length+1≤9223372036854775807 then bif (List.take val_12.senders.length (List.drop 0 (List.map pairRow val_15.senders))++[[(i:Int),val_14]]).length.ble 9223372036854775807 then if 0+(val_12.senders.length+1)≤(List.take val_12.senders.length (List.drop 0 (List.map pairRow val_15.senders))++[[(i:Int),val_14]]).length then if TI.senders (0+b.toNat)=TI.senders (0+b.toNat) then val_9.fst.chans[0+b.toNat]?.bind fun val=>(toPairs (List.take (val_12.senders.length+1) (List.drop 0 (List.take val_12.senders.length (List.drop 0 (List.map pairRow val_15.senders))++[[(i:Int),val_14]])))).bind fun (val_16:List (Int×Int))=>if k2=k2∧val_12.senders.length+1=val_16.length then some (okM (TV.tup []) (((val_9.fst.setT i (val_10.wState (4:Int))).setT i (val_11.wTarget b)).setC (0+b.toNat) (val.wSenders val_16)) []) else none else none else none else none else none else none else none else none else none else none else none else some (okM (TV.tup []) val_9.fst []) else none else none else none else none else none:=by kernel_rfl
theorem step9 {m m':IM}{i:Nat}{a b n z:Int}(h:m.step i ⟨9,a,b,n,z⟩=some m'):runM (wb:=wb) (hv:=hv) (hk:=hk) (opI _) (tabA.at [1,3,4,7,8,10,11,12,13] [6,7,8]) [(86,cSpawn wb hv hk),(99,cNote wb hv hk),(100,cReady wb hv hk),(101,cFinish wb hv hk),(104,cGets wb hv hk),(105,cSend wb hv hk),(118,cWaited wb hv hk),(119,cFail wb hv hk),(120,cTake wb hv hk),(121,cLine wb hv hk),(122,cClose wb hv hk)] [lPick wb hv hk] wk102 2000 Try.f102 [mchV,iV i,tskV i,stpV ⟨9,a,b,n,z⟩] m=some (okM (.tup []) m' []):=by
 rw[raw102_9];simp only[IM.step,bind,Option.bind_eq_some_iff] at h;obtain⟨t,ht,h⟩:=h;obtain⟨hi,ht⟩:=List.getElem?_eq_some_iff.1 ht;simp[IM.act,Option.bind_eq_some_iff] at h;obtain⟨c,hc,x,hx,h⟩:=h;have e:=chanNo_some hc;subst e;obtain⟨hxl,hx⟩:=List.getElem?_eq_some_iff.1 hx
 cases hcl:x.closed with
 |true=>
  simp[hcl] at h;simp[hi,ht,hxl,hx,hcl,h]
 |false=>
  simp[hcl,Option.bind_eq_some_iff] at h;obtain⟨v,hv0,h⟩:=h;obtain⟨b1,b2,b3⟩:=getR_some hv0
  have b4:a.toNat<4:=by omega
  simp at b3
  obtain⟨b6,b5⟩:=List.getElem?_eq_some_iff.1 b3;obtain⟨m1,h⟩:=h
  rcases h with ⟨h1,t1,ht1,x1,hx1,v1,hv1,l,hp,rfl⟩|⟨h1,rfl⟩
  ·obtain⟨hi1,ht1⟩:=List.getElem?_eq_some_iff.1 ht1
   obtain⟨hxl1,hx1⟩:=List.getElem?_eq_some_iff.1 hx1;obtain⟨-, -,d3⟩:=getR_some hv1;obtain⟨d6,d5⟩:=List.getElem?_eq_some_iff.1 d3;obtain⟨hp,rfl⟩:=push_some hp
   have g1:(x1.senders.length+1)*16≤140737488355328:=by omega
   have g2:x1.senders.length≤9223372036854775806:=by omega
   simp[hi,ht,hxl,hx,hcl,b1,b2,b4,b5,b6,h1,hi1,ht1,hxl1,hx1,d5,d6,g1,g2]
  ·simp[hi,ht,hxl,hx,hcl,b1,b2,b4,b5,b6,h1]
end Go.Beat
end
section
namespace Go.Beat
open Go _root_.Beat Go.Proofs
attribute [local simp] int_beq int_bne ble_dec
set_option maxRecDepth 100000
variable {wb:Nat} {hv:Value} {hk:Option Int}
theorem raw102_10 {wb:Nat}{hv:Value}{hk:Option Int}(m:IM)(i:Nat)(a b n z:Int):runM (wb:=wb) (hv:=hv) (hk:=hk) (opI _) (tabA.at [1,3,4,7,8,10,11,12,13] [6,7,8]) [(86,cSpawn wb hv hk),(99,cNote wb hv hk),(100,cReady wb hv hk),(101,cFinish wb hv hk),(104,cGets wb hv hk),(105,cSend wb hv hk),(118,cWaited wb hv hk),(119,cFail wb hv hk),(120,cTake wb hv hk),(121,cLine wb hv hk),(122,cClose wb hv hk)] [lPick wb hv hk] wk102 2000 Try.f102 [mchV,iV i,tskV i,stpV ⟨10,a,b,n,z⟩] m=m.tasks[i]?.bind fun val=>m.tasks[i]?.bind fun val=>m.tasks[i]?.bind fun val_1=>(m.tasks.set i (val_1.wPc (IntKind.i64.wrap (val.pc+(1:Int)))))[i]?.bind fun val_2=>((m.tasks.set i (val_1.wPc (IntKind.i64.wrap (val.pc+(1:Int))))).set i (val_2.wA a))[i]?.bind fun val_3=>(((m.tasks.set i (val_1.wPc (IntKind.i64.wrap (val.pc+(1:Int))))).set i (val_2.wA a)).set i (val_3.wOp (10:Int)))[i]?.bind fun val_4=>if (0:Int)≤b then ((((((m.setT i (val_1.wPc (IntKind.i64.wrap (val.pc+(1:Int))))).setT i (val_2.wA a)).setT i (val_3.wOp (10:Int))).wAsks (IntKind.i64.wrap (m.asks+(1:Int)))).setT i (val_4.wAsked (IntKind.i64.wrap (m.asks+(1:Int))))).take b.toNat).bind fun (val:IM×Int×Bool)=>bif val.snd.snd then if (0:Int)≤b then (val.fst.gets i b.toNat val.snd.fst val.snd.snd).bind fun val=>some (okM (TV.tup []) val []) else none else if 0+val.fst.chans.length≤val.fst.chans.length∧(0:Int)≤b∧b<(val.fst.chans.length:Int) then if 0+b.toNat<val.fst.chans.length then val.fst.chans[0+b.toNat]?.bind fun val_5=>bif val_5.closed then if (0:Int)≤b then (val.fst.gets i b.toNat val.snd.fst val.snd.snd).bind fun val=>some (okM (TV.tup []) val []) else none else (toNats [b]).bind fun (val_6:List Nat)=>if 1=val_6.length∧1<1000000 then ((val.fst.wArg val_6).line i val_6).bind fun val_7=>some (okM (TV.tup []) (val_7.wArg val.fst.arg) []) else none else none else none else none:=by kernel_rfl
theorem raw102_11 {wb:Nat}{hv:Value}{hk:Option Int}(m:IM)(i:Nat)(a b n z:Int):runM (wb:=wb) (hv:=hv) (hk:=hk) (opI _) (tabA.at [1,3,4,7,8,10,11,12,13] [6,7,8]) [(86,cSpawn wb hv hk),(99,cNote wb hv hk),(100,cReady wb hv hk),(101,cFinish wb hv hk),(104,cGets wb hv hk),(105,cSend wb hv hk),(118,cWaited wb hv hk),(119,cFail wb hv hk),(120,cTake wb hv hk),(121,cLine wb hv hk),(122,cClose wb hv hk)] [lPick wb hv hk] wk102 2000 Try.f102 [mchV,iV i,tskV i,stpV ⟨11,a,b,n,z⟩] m=m.tasks[i]?.bind fun val=>m.tasks[i]?.bind fun val=>m.tasks[i]?.bind fun val_1=>(m.tasks.set i (val_1.wPc (IntKind.i64.wrap (val.pc+(1:Int)))))[i]?.bind fun val_2=>((m.tasks.set i (val_1.wPc (IntKind.i64.wrap (val.pc+(1:Int))))).set i (val_2.wA a))[i]?.bind fun val_3=>(((m.tasks.set i (val_1.wPc (IntKind.i64.wrap (val.pc+(1:Int))))).set i (val_2.wA a)).set i (val_3.wOp (11:Int)))[i]?.bind fun val_4=>if (0:Int)≤b then ((((((m.setT i (val_1.wPc (IntKind.i64.wrap (val.pc+(1:Int))))).setT i (val_2.wA a)).setT i (val_3.wOp (11:Int))).wAsks (IntKind.i64.wrap (m.asks+(1:Int)))).setT i (val_4.wAsked (IntKind.i64.wrap (m.asks+(1:Int))))).take b.toNat).bind fun (val:IM×Int×Bool)=>bif val.snd.snd then if (0:Int)≤b then (val.fst.gets i b.toNat val.snd.fst val.snd.snd).bind fun val=>some (okM (TV.tup []) val []) else none else if 0+val.fst.chans.length≤val.fst.chans.length∧(0:Int)≤b∧b<(val.fst.chans.length:Int) then if 0+b.toNat<val.fst.chans.length then val.fst.chans[0+b.toNat]?.bind fun val_5=>bif val_5.closed then if (0:Int)≤b then (val.fst.gets i b.toNat val.snd.fst val.snd.snd).bind fun val=>some (okM (TV.tup []) val []) else none else bif n==(0:Int) then if (0:Int)≤b then (val.fst.gets i b.toNat val.snd.fst val.snd.snd).bind fun val=>some (okM (TV.tup []) val []) else none else val.fst.tasks[i]?.bind fun val_6=>(toNats [b]).bind fun (val_7:List Nat)=>if 1=val_7.length∧1<1000000 then (((val.fst.setT i (val_6.wDue (IntKind.i64.wrap (val.fst.now+n)))).wArg val_7).line i val_7).bind fun val_8=>some (okM (TV.tup []) (val_8.wArg val.fst.arg) []) else none else none else none else none:=by kernel_rfl
theorem lineLoop_arg {i:Nat}(a:List Nat):∀{cs:List Nat} {m m':IM},IM.lineLoop i cs m=some m'→IM.lineLoop i cs (m.wArg a)=some (m'.wArg a)
 |[],m,m',h=>by simp only[IM.lineLoop,Option.some.injEq] at h ⊢;rw[h]
 |c::cs,m,m',h=>by
  simp only[IM.lineLoop,bind,Option.bind_eq_some_iff] at h;obtain⟨t,ht,u,hg,h⟩:=h;simp only[IM.lineLoop,bind,IM.wArg_tasks,ht,hg,some_bindT]
  split at h
  ·rename_i hc
   rw[if_pos hc];exact lineLoop_arg a h
  ·rename_i hc
   rw[if_neg hc];simp only[Option.bind_eq_some_iff] at h;obtain⟨chans,h1,x,h2,takers,h3,h4⟩:=h;have e:((m.wArg a).setT i (t.wChans chans))=(m.setT i (t.wChans chans)).wArg a:=rfl;simp only[h1,some_bindT,e,IM.wArg_chans,h2,h3];exact lineLoop_arg a h4
theorem line_arg {i:Nat}{cs:List Nat}(a:List Nat){m m':IM}(h:m.line i cs=some m'):(m.wArg a).line i cs=some (m'.wArg a):=by
 simp only[IM.line,bind,Option.bind_eq_some_iff] at h;obtain⟨t,ht,h⟩:=h;simp only[IM.line,bind,IM.wArg_tasks,ht,some_bindT];exact lineLoop_arg a h
theorem lineLoop_keeps {i:Nat}:∀{cs:List Nat} {m m':IM},IM.lineLoop i cs m=some m'→m'.arg=m.arg
 |[],m,m',h=>by simp only[IM.lineLoop,Option.some.injEq] at h;rw[h]
 |c::cs,m,m',h=>by
  simp only[IM.lineLoop,bind,Option.bind_eq_some_iff] at h;obtain⟨t,ht,u,hg,h⟩:=h
  split at h
  ·exact lineLoop_keeps h
  ·simp only[Option.bind_eq_some_iff] at h
   obtain⟨chans,h1,x,h2,takers,h3,h4⟩:=h;rw[lineLoop_keeps h4];rfl
theorem line_keeps {i:Nat}{cs:List Nat}{m m':IM}(h:m.line i cs=some m'):m'.arg=m.arg:=by
 simp only[IM.line,bind,Option.bind_eq_some_iff] at h;obtain⟨t,ht,h⟩:=h;rw[lineLoop_keeps h];rfl
theorem step10 {m m':IM}{i:Nat}{a b n z:Int}(h:m.step i ⟨10,a,b,n,z⟩=some m'):runM (wb:=wb) (hv:=hv) (hk:=hk) (opI _) (tabA.at [1,3,4,7,8,10,11,12,13] [6,7,8]) [(86,cSpawn wb hv hk),(99,cNote wb hv hk),(100,cReady wb hv hk),(101,cFinish wb hv hk),(104,cGets wb hv hk),(105,cSend wb hv hk),(118,cWaited wb hv hk),(119,cFail wb hv hk),(120,cTake wb hv hk),(121,cLine wb hv hk),(122,cClose wb hv hk)] [lPick wb hv hk] wk102 2000 Try.f102 [mchV,iV i,tskV i,stpV ⟨10,a,b,n,z⟩] m=some (okM (.tup []) m' []):=by
 rw[raw102_10];simp only[IM.step,bind,Option.bind_eq_some_iff] at h;obtain⟨t,ht,h⟩:=h;obtain⟨hi,ht⟩:=List.getElem?_eq_some_iff.1 ht;simp[IM.act,Option.bind_eq_some_iff] at h;obtain⟨c,hc,h⟩:=h;have e:=chanNo_some hc;subst e;obtain⟨m1,n1,h⟩:=h
 rcases h with ⟨h1,x,hx,h2⟩|⟨h1,⟨x,hx⟩,h2⟩
 ·obtain⟨hxl,hx⟩:=List.getElem?_eq_some_iff.1 hx
  cases hcl:x.closed with
  |true=>
   simp[hcl] at h2;simp[hi,ht,h1,hxl,hx,hcl,h2]
  |false=>
   simp[hcl,Option.bind_eq_some_iff] at h2;obtain⟨-,h2⟩:=h2;have h3:=line_arg [c] h2
   have h4:m'.wArg m1.arg=m':=by rw[←line_keeps h2];rfl
   simp[hi,ht,h1,hxl,hx,hcl,h3,h4]
 ·simp[hi,ht,h1,h2]
theorem step11 {m m':IM}{i:Nat}{a b n z:Int}(h:m.step i ⟨11,a,b,n,z⟩=some m'):runM (wb:=wb) (hv:=hv) (hk:=hk) (opI _) (tabA.at [1,3,4,7,8,10,11,12,13] [6,7,8]) [(86,cSpawn wb hv hk),(99,cNote wb hv hk),(100,cReady wb hv hk),(101,cFinish wb hv hk),(104,cGets wb hv hk),(105,cSend wb hv hk),(118,cWaited wb hv hk),(119,cFail wb hv hk),(120,cTake wb hv hk),(121,cLine wb hv hk),(122,cClose wb hv hk)] [lPick wb hv hk] wk102 2000 Try.f102 [mchV,iV i,tskV i,stpV ⟨11,a,b,n,z⟩] m=some (okM (.tup []) m' []):=by
 rw[raw102_11];simp only[IM.step,bind,Option.bind_eq_some_iff] at h;obtain⟨t,ht,h⟩:=h;obtain⟨hi,ht⟩:=List.getElem?_eq_some_iff.1 ht;simp[IM.act,Option.bind_eq_some_iff] at h;obtain⟨c,hc,h⟩:=h;have e:=chanNo_some hc;subst e;obtain⟨m1,n1,h⟩:=h
 rcases h with ⟨h1,x,hx,h2⟩|⟨h1,⟨x,hx⟩,h2⟩
 ·obtain⟨hxl,hx⟩:=List.getElem?_eq_some_iff.1 hx
  cases hcl:x.closed with
  |true=>
   simp[hcl] at h2;simp[hi,ht,h1,hxl,hx,hcl,h2]
  |false=>
   by_cases hn:n=0
   ·subst hn
    simp[hcl] at h2;simp[hi,ht,h1,hxl,hx,hcl,h2]
   ·simp[hcl,hn,Option.bind_eq_some_iff] at h2
    obtain⟨t1,ht1,h2⟩:=h2;have h3:=line_arg [c] h2
    have h4:m'.wArg m1.arg=m':=by
     have:=line_keeps h2;simp only[IM.setT_arg] at this;rw[←this];rfl
    simp[hi,ht,h1,hxl,hx,hcl,hn,ht1,h3,h4]
 ·simp[hi,ht,h1,h2]
end Go.Beat
end
section
namespace Go.Beat
open Go _root_.Beat Go.Proofs
attribute [local simp] int_beq int_bne ble_dec
set_option maxRecDepth 100000
variable {wb:Nat} {hv:Value} {hk:Option Int}
theorem raw102_12 {wb:Nat}{hv:Value}{hk:Option Int}(m:IM)(i:Nat)(a b n z:Int):runM (wb:=wb) (hv:=hv) (hk:=hk) (opI _) (tabA.at [1,3,4,7,8,10,11,12,13] [6,7,8]) [(86,cSpawn wb hv hk),(99,cNote wb hv hk),(100,cReady wb hv hk),(101,cFinish wb hv hk),(104,cGets wb hv hk),(105,cSend wb hv hk),(118,cWaited wb hv hk),(119,cFail wb hv hk),(120,cTake wb hv hk),(121,cLine wb hv hk),(122,cClose wb hv hk)] [lPick wb hv hk] wk102 2000 Try.f102 [mchV,iV i,tskV i,stpV ⟨12,a,b,n,z⟩] m=m.tasks[i]?.bind fun val=>m.tasks[i]?.bind fun val=>m.tasks[i]?.bind fun val_1=>(m.tasks.set i (val_1.wPc (IntKind.i64.wrap (val.pc+(1:Int)))))[i]?.bind fun val_2=>((m.tasks.set i (val_1.wPc (IntKind.i64.wrap (val.pc+(1:Int))))).set i (val_2.wA a))[i]?.bind fun val_3=>(((m.tasks.set i (val_1.wPc (IntKind.i64.wrap (val.pc+(1:Int))))).set i (val_2.wA a)).set i (val_3.wOp (12:Int)))[i]?.bind fun val_4=>((((m.tasks.set i (val_1.wPc (IntKind.i64.wrap (val.pc+(1:Int))))).set i (val_2.wA a)).set i (val_3.wOp (12:Int))).set i (val_4.wAsked (IntKind.i64.wrap (m.asks+(1:Int)))))[i]?.bind fun val_5=>if (0:Int)≤b then (((((((m.setT i (val_1.wPc (IntKind.i64.wrap (val.pc+(1:Int))))).setT i (val_2.wA a)).setT i (val_3.wOp (12:Int))).wAsks (IntKind.i64.wrap (m.asks+(1:Int)))).setT i (val_4.wAsked (IntKind.i64.wrap (m.asks+(1:Int))))).setT i (val_5.wPick b n)).take b.toNat).bind fun (val:IM×Int×Bool)=>bif val.snd.snd then if (0:Int)≤b then (val.fst.gets i b.toNat val.snd.fst true).bind fun val=>some (okM (TV.tup []) val []) else none else if (0:Int)≤n then (val.fst.take n.toNat).bind fun (val:IM×Int×Bool)=>bif val.snd.snd then if (0:Int)≤n then (val.fst.gets i n.toNat val.snd.fst true).bind fun val=>some (okM (TV.tup []) val []) else none else if (0:Int)≤b then if (0:Int)≤n then if b=(b.toNat:Int)∧n=(n.toNat:Int) then val.fst.chans[b.toNat]?.bind fun val_6=>val.fst.chans[n.toNat]?.bind fun val_7=>bif val_6.closed then bif val_7.closed then (val.fst.gets i (b.toNat:Int).toNat (0:Int) false).bind fun val=>some (okM (TV.tup []) val []) else ((val.fst.wArg [(n.toNat:Int).toNat]).line i [(n.toNat:Int).toNat]).bind fun val_8=>some (okM (TV.tup []) (val_8.wArg val.fst.arg) []) else bif val_7.closed then ((val.fst.wArg [(b.toNat:Int).toNat]).line i [(b.toNat:Int).toNat]).bind fun val_8=>some (okM (TV.tup []) (val_8.wArg val.fst.arg) []) else ((val.fst.wArg [(b.toNat:Int).toNat,(n.toNat:Int).toNat]).line i [(b.toNat:Int).toNat,(n.toNat:Int).toNat]).bind fun val_8=>some (okM (TV.tup []) (val_8.wArg val.fst.arg) []) else none else none else none else none else none:=by kernel_rfl
theorem step12 {m m':IM}{i:Nat}{a b n z:Int}(h:m.step i ⟨12,a,b,n,z⟩=some m'):runM (wb:=wb) (hv:=hv) (hk:=hk) (opI _) (tabA.at [1,3,4,7,8,10,11,12,13] [6,7,8]) [(86,cSpawn wb hv hk),(99,cNote wb hv hk),(100,cReady wb hv hk),(101,cFinish wb hv hk),(104,cGets wb hv hk),(105,cSend wb hv hk),(118,cWaited wb hv hk),(119,cFail wb hv hk),(120,cTake wb hv hk),(121,cLine wb hv hk),(122,cClose wb hv hk)] [lPick wb hv hk] wk102 2000 Try.f102 [mchV,iV i,tskV i,stpV ⟨12,a,b,n,z⟩] m=some (okM (.tup []) m' []):=by
 rw[raw102_12];simp only[IM.step,bind,Option.bind_eq_some_iff] at h;obtain⟨t,ht,h⟩:=h;obtain⟨hi,ht⟩:=List.getElem?_eq_some_iff.1 ht;simp[IM.act,Option.bind_eq_some_iff] at h;obtain⟨c,hc,d,hd,h⟩:=h;have e:=chanNo_some hc;subst e;have e:=chanNo_some hd;subst e;obtain⟨m1,n1,h⟩:=h
 rcases h with ⟨h1,m2,n2,h⟩|⟨h1,h2⟩
 ·rcases h with ⟨h2,x,hx,y,hy,h3⟩|⟨h2,h3⟩
  ·obtain⟨hxl,hx⟩:=List.getElem?_eq_some_iff.1 hx
   obtain⟨hyl,hy⟩:=List.getElem?_eq_some_iff.1 hy
   cases hxc:x.closed with
   |true=>
    cases hyc:y.closed with
    |true=>
     simp[hxc,hyc] at h3;simp[hi,ht,h1,h2,hxl,hx,hyl,hy,hxc,hyc,h3]
    |false=>
     simp[hxc,hyc] at h3;have h4:=line_arg [d] h3
     have h5:m'.wArg m2.arg=m':=by rw[←line_keeps h3];rfl
     simp[hi,ht,h1,h2,hxl,hx,hyl,hy,hxc,hyc,h4,h5]
   |false=>
    cases hyc:y.closed with
    |true=>
     simp[hxc,hyc] at h3;have h4:=line_arg [c] h3
     have h5:m'.wArg m2.arg=m':=by rw[←line_keeps h3];rfl
     simp[hi,ht,h1,h2,hxl,hx,hyl,hy,hxc,hyc,h4,h5]
    |false=>
     simp[hxc,hyc] at h3;have h4:=line_arg [c,d] h3
     have h5:m'.wArg m2.arg=m':=by rw[←line_keeps h3];rfl
     simp[hi,ht,h1,h2,hxl,hx,hyl,hy,hxc,hyc,h4,h5]
  ·simp[hi,ht,h1,h2,h3]
 ·simp[hi,ht,h1,h2]
end Go.Beat
end
section
namespace Go.Beat
open Go _root_.Beat Go.Proofs
attribute [local simp] int_beq int_bne ble_dec
set_option maxRecDepth 100000
variable {wb:Nat} {hv:Value} {hk:Option Int}
theorem raw102p0 {wb:Nat}{hv:Value}{hk:Option Int}(m:IM)(i:Int)(c d:Nat)(o1 o2 o3 o4 o5:Int):roundM (wb:=wb) (hv:=hv) (hk:=hk) (noOp _) (tabA.at [1,3,4,7,8,10,11,12,13] [6,7,8]) [] [] wk0 600 Try.f102 (loopsOf (bd Try.f102)) (lPick wb hv hk) [mchV,iV i,iV c,iV d,nilV,.l (.sl (.loc 1) 0 1 2),iV 2,iV 0] m [obS o1 o2 o3 o4 o5,obP c d] []=if 0+m.chans.length≤m.chans.length∧(0:Int)≤(c:Int)∧(c:Int)<(m.chans.length:Int) then if 0+c<m.chans.length then m.chans[0+c]?.bind fun val=>bif !val.closed then some (nrmM [(0,mchV),(1,iV i),(15,iV (c:Int)),(16,iV (d:Int)),(21,TV.l (AL.sl (Tg.loc 2) 0 1 1)),(406,TV.l (AL.sl (Tg.loc 1) 0 1 2)),(407,iV (2:Int)),(408,iV (IntKind.i64.wrap ((0:Int)+(1:Int))))] m [{ty:=100,sz:=1,fix:=true,o:=some (LO.cells [AL.v (i64 o1),AL.v (i64 o2),AL.v (i64 o3),AL.v (i64 o4),AL.v (i64 o5)])},{ty:=3,sz:=1,fix:=false,o:=some (LO.cells [AL.v (i64 (c:Int)),AL.v (i64 (d:Int))])},{ty:=3,sz:=1,fix:=false,o:=some (LO.ints IntKind.i64 [(c:Int)])}] []) else some (nrmM [(0,mchV),(1,iV i),(15,iV (c:Int)),(16,iV (d:Int)),(21,TV.l (AL.v (Value.slice none 0 0))),(406,TV.l (AL.sl (Tg.loc 1) 0 1 2)),(407,iV (2:Int)),(408,iV (IntKind.i64.wrap ((0:Int)+(1:Int))))] m [{ty:=100,sz:=1,fix:=true,o:=some (LO.cells [AL.v (i64 o1),AL.v (i64 o2),AL.v (i64 o3),AL.v (i64 o4),AL.v (i64 o5)])},{ty:=3,sz:=1,fix:=false,o:=some (LO.cells [AL.v (i64 (c:Int)),AL.v (i64 (d:Int))])}] []) else none else none:=by kernel_rfl
theorem raw102p1 {wb:Nat}{hv:Value}{hk:Option Int}(m:IM)(i:Int)(c d:Nat)(o1 o2 o3 o4 o5:Int):roundM (wb:=wb) (hv:=hv) (hk:=hk) (noOp _) (tabA.at [1,3,4,7,8,10,11,12,13] [6,7,8]) [] [] wk0 600 Try.f102 (loopsOf (bd Try.f102)) (lPick wb hv hk) [mchV,iV i,iV c,iV d,nilV,.l (.sl (.loc 1) 0 1 2),iV 2,iV 1] m [obS o1 o2 o3 o4 o5,obP c d] []=if 0+m.chans.length≤m.chans.length∧(0:Int)≤(d:Int)∧(d:Int)<(m.chans.length:Int) then if 0+d<m.chans.length then m.chans[0+d]?.bind fun val=>bif !val.closed then some (nrmM [(0,mchV),(1,iV i),(15,iV (c:Int)),(16,iV (d:Int)),(21,TV.l (AL.sl (Tg.loc 2) 0 1 1)),(406,TV.l (AL.sl (Tg.loc 1) 0 1 2)),(407,iV (2:Int)),(408,iV (IntKind.i64.wrap ((1:Int)+(1:Int))))] m [{ty:=100,sz:=1,fix:=true,o:=some (LO.cells [AL.v (i64 o1),AL.v (i64 o2),AL.v (i64 o3),AL.v (i64 o4),AL.v (i64 o5)])},{ty:=3,sz:=1,fix:=false,o:=some (LO.cells [AL.v (i64 (c:Int)),AL.v (i64 (d:Int))])},{ty:=3,sz:=1,fix:=false,o:=some (LO.ints IntKind.i64 [(d:Int)])}] []) else some (nrmM [(0,mchV),(1,iV i),(15,iV (c:Int)),(16,iV (d:Int)),(21,TV.l (AL.v (Value.slice none 0 0))),(406,TV.l (AL.sl (Tg.loc 1) 0 1 2)),(407,iV (2:Int)),(408,iV (IntKind.i64.wrap ((1:Int)+(1:Int))))] m [{ty:=100,sz:=1,fix:=true,o:=some (LO.cells [AL.v (i64 o1),AL.v (i64 o2),AL.v (i64 o3),AL.v (i64 o4),AL.v (i64 o5)])},{ty:=3,sz:=1,fix:=false,o:=some (LO.cells [AL.v (i64 (c:Int)),AL.v (i64 (d:Int))])}] []) else none else none:=by kernel_rfl
theorem raw102q1 {wb:Nat}{hv:Value}{hk:Option Int}(m:IM)(i:Int)(c d y:Nat)(ys:List Int)(o1 o2 o3 o4 o5:Int):roundM (wb:=wb) (hv:=hv) (hk:=hk) (noOp _) (tabA.at [1,3,4,7,8,10,11,12,13] [6,7,8]) [] [] wk0 600 Try.f102 (loopsOf (bd Try.f102)) (lPick wb hv hk) [mchV,iV i,iV c,iV d,.l (.sl (.loc 2) 0 1 y),.l (.sl (.loc 1) 0 1 2),iV 2,iV 1] m [obS o1 o2 o3 o4 o5,obP c d,obI ys] []=if 0+m.chans.length≤m.chans.length∧(0:Int)≤(d:Int)∧(d:Int)<(m.chans.length:Int) then if 0+d<m.chans.length then m.chans[0+d]?.bind fun val=>bif !val.closed then if 0+y≤ys.length∧(y+1)*8≤140737488355328∧y+1≤9223372036854775807 then bif (List.take y (List.drop 0 ys)++[(d:Int)]).length.ble 9223372036854775807 then some (nrmM [(0,mchV),(1,iV i),(15,iV (c:Int)),(16,iV (d:Int)),(21,TV.l (AL.sl (Tg.loc 2) 0 1 (y+1))),(406,TV.l (AL.sl (Tg.loc 1) 0 1 2)),(407,iV (2:Int)),(408,iV (IntKind.i64.wrap ((1:Int)+(1:Int))))] m [{ty:=100,sz:=1,fix:=true,o:=some (LO.cells [AL.v (i64 o1),AL.v (i64 o2),AL.v (i64 o3),AL.v (i64 o4),AL.v (i64 o5)])},{ty:=3,sz:=1,fix:=false,o:=some (LO.cells [AL.v (i64 (c:Int)),AL.v (i64 (d:Int))])},{ty:=3,sz:=1,fix:=false,o:=some (LO.ints IntKind.i64 (List.take y (List.drop 0 ys)++[(d:Int)]))}] []) else none else none else some (nrmM [(0,mchV),(1,iV i),(15,iV (c:Int)),(16,iV (d:Int)),(21,TV.l (AL.sl (Tg.loc 2) 0 1 y)),(406,TV.l (AL.sl (Tg.loc 1) 0 1 2)),(407,iV (2:Int)),(408,iV (IntKind.i64.wrap ((1:Int)+(1:Int))))] m [{ty:=100,sz:=1,fix:=true,o:=some (LO.cells [AL.v (i64 o1),AL.v (i64 o2),AL.v (i64 o3),AL.v (i64 o4),AL.v (i64 o5)])},{ty:=3,sz:=1,fix:=false,o:=some (LO.cells [AL.v (i64 (c:Int)),AL.v (i64 (d:Int))])},{ty:=3,sz:=1,fix:=false,o:=some (LO.ints IntKind.i64 ys)}] []) else none else none:=by kernel_rfl
theorem raw102p2 {wb:Nat}{hv:Value}{hk:Option Int}(m:IM)(i:Int)(c d:Nat)(o1 o2 o3 o4 o5:Int):roundM (wb:=wb) (hv:=hv) (hk:=hk) (noOp _) (tabA.at [1,3,4,7,8,10,11,12,13] [6,7,8]) [] [] wk0 600 Try.f102 (loopsOf (bd Try.f102)) (lPick wb hv hk) [mchV,iV i,iV c,iV d,nilV,.l (.sl (.loc 1) 0 1 2),iV 2,iV 2] m [obS o1 o2 o3 o4 o5,obP c d] []=some (exM 1 [(0,mchV),(1,iV i),(15,iV (c:Int)),(16,iV (d:Int)),(21,TV.l (AL.v (Value.slice none 0 0)))] m [{ty:=100,sz:=1,fix:=true,o:=some (LO.cells [AL.v (i64 o1),AL.v (i64 o2),AL.v (i64 o3),AL.v (i64 o4),AL.v (i64 o5)])},{ty:=3,sz:=1,fix:=false,o:=some (LO.cells [AL.v (i64 (c:Int)),AL.v (i64 (d:Int))])}] []):=by kernel_rfl
theorem raw102q2 {wb:Nat}{hv:Value}{hk:Option Int}(m:IM)(i:Int)(c d y:Nat)(ys:List Int)(o1 o2 o3 o4 o5:Int):roundM (wb:=wb) (hv:=hv) (hk:=hk) (noOp _) (tabA.at [1,3,4,7,8,10,11,12,13] [6,7,8]) [] [] wk0 600 Try.f102 (loopsOf (bd Try.f102)) (lPick wb hv hk) [mchV,iV i,iV c,iV d,.l (.sl (.loc 2) 0 1 y),.l (.sl (.loc 1) 0 1 2),iV 2,iV 2] m [obS o1 o2 o3 o4 o5,obP c d,obI ys] []=some (exM 1 [(0,mchV),(1,iV i),(15,iV (c:Int)),(16,iV (d:Int)),(21,TV.l (AL.sl (Tg.loc 2) 0 1 y))] m [{ty:=100,sz:=1,fix:=true,o:=some (LO.cells [AL.v (i64 o1),AL.v (i64 o2),AL.v (i64 o3),AL.v (i64 o4),AL.v (i64 o5)])},{ty:=3,sz:=1,fix:=false,o:=some (LO.cells [AL.v (i64 (c:Int)),AL.v (i64 (d:Int))])},{ty:=3,sz:=1,fix:=false,o:=some (LO.ints IntKind.i64 ys)}] []):=by kernel_rfl
theorem pick_cc (m:IM)(i:Int)(c d:Nat)(o1 o2 o3 o4 o5:Int)(x y:IChan)(hx:m.chans[c]?=some x)(hy:m.chans[d]?=some y)(hxc:x.closed=true)(hyc:y.closed=true):iterM (wb:=wb) (hv:=hv) (hk:=hk) (noOp _) (tabA.at [1,3,4,7,8,10,11,12,13] [6,7,8]) [] [] wk0 600 Try.f102 (loopsOf (bd Try.f102)) (lPick wb hv hk) 3 [mchV,iV i,iV c,iV d,nilV,.l (.sl (.loc 1) 0 1 2),iV 2,iV 0] m [obS o1 o2 o3 o4 o5,obP c d] []=some (exM 1 [(0,mchV),(1,iV i),(15,iV c),(16,iV d),(21,nilV)] m [obS o1 o2 o3 o4 o5,obP c d] []):=by
 obtain⟨hxl,hx⟩:=List.getElem?_eq_some_iff.1 hx;obtain⟨hyl,hy⟩:=List.getElem?_eq_some_iff.1 hy;have w1:IntKind.i64.wrap ((0:Int)+1)=1:=wrap_small' (by omega) (by omega);have w2:IntKind.i64.wrap ((1:Int)+1)=2:=wrap_small' (by omega) (by omega)
 refine (iterM_succ (L':=_) [mchV,iV i,iV c,iV d,nilV,.l (.sl (.loc 1) 0 1 2),iV 2,iV 1] (by rw[raw102p0];simp[hxl,hx,hyl,hy,hxc,hyc,w1,w2,lPick,zipK,nrmM];rfl)).trans ?_
 refine (iterM_succ (L':=_) [mchV,iV i,iV c,iV d,nilV,.l (.sl (.loc 1) 0 1 2),iV 2,iV 2] (by rw[raw102p1];simp[hxl,hx,hyl,hy,hxc,hyc,w1,w2,lPick,zipK,nrmM];rfl)).trans ?_
 refine iterM_exit ?_ (fun s h=>by cases h)
 rw[raw102p2]
theorem pick_co (m:IM)(i:Int)(c d:Nat)(o1 o2 o3 o4 o5:Int)(x y:IChan)(hx:m.chans[c]?=some x)(hy:m.chans[d]?=some y)(hxc:x.closed=true)(hyc:y.closed=false):iterM (wb:=wb) (hv:=hv) (hk:=hk) (noOp _) (tabA.at [1,3,4,7,8,10,11,12,13] [6,7,8]) [] [] wk0 600 Try.f102 (loopsOf (bd Try.f102)) (lPick wb hv hk) 3 [mchV,iV i,iV c,iV d,nilV,.l (.sl (.loc 1) 0 1 2),iV 2,iV 0] m [obS o1 o2 o3 o4 o5,obP c d] []=some (exM 1 [(0,mchV),(1,iV i),(15,iV c),(16,iV d),(21,.l (.sl (.loc 2) 0 1 1))] m [obS o1 o2 o3 o4 o5,obP c d,obI [(d:Int)]] []):=by
 obtain⟨hxl,hx⟩:=List.getElem?_eq_some_iff.1 hx;obtain⟨hyl,hy⟩:=List.getElem?_eq_some_iff.1 hy;have w1:IntKind.i64.wrap ((0:Int)+1)=1:=wrap_small' (by omega) (by omega);have w2:IntKind.i64.wrap ((1:Int)+1)=2:=wrap_small' (by omega) (by omega)
 refine (iterM_succ (L':=_) [mchV,iV i,iV c,iV d,nilV,.l (.sl (.loc 1) 0 1 2),iV 2,iV 1] (by rw[raw102p0];simp[hxl,hx,hyl,hy,hxc,hyc,w1,w2,lPick,zipK,nrmM];rfl)).trans ?_
 refine (iterM_succ (L':=_) [mchV,iV i,iV c,iV d,.l (.sl (.loc 2) 0 1 1),.l (.sl (.loc 1) 0 1 2),iV 2,iV 2] (by rw[raw102p1];simp[hxl,hx,hyl,hy,hxc,hyc,w1,w2,lPick,zipK,nrmM];rfl)).trans ?_
 refine iterM_exit ?_ (fun s h=>by cases h)
 rw[raw102q2]
theorem pick_oc (m:IM)(i:Int)(c d:Nat)(o1 o2 o3 o4 o5:Int)(x y:IChan)(hx:m.chans[c]?=some x)(hy:m.chans[d]?=some y)(hxc:x.closed=false)(hyc:y.closed=true):iterM (wb:=wb) (hv:=hv) (hk:=hk) (noOp _) (tabA.at [1,3,4,7,8,10,11,12,13] [6,7,8]) [] [] wk0 600 Try.f102 (loopsOf (bd Try.f102)) (lPick wb hv hk) 3 [mchV,iV i,iV c,iV d,nilV,.l (.sl (.loc 1) 0 1 2),iV 2,iV 0] m [obS o1 o2 o3 o4 o5,obP c d] []=some (exM 1 [(0,mchV),(1,iV i),(15,iV c),(16,iV d),(21,.l (.sl (.loc 2) 0 1 1))] m [obS o1 o2 o3 o4 o5,obP c d,obI [(c:Int)]] []):=by
 obtain⟨hxl,hx⟩:=List.getElem?_eq_some_iff.1 hx;obtain⟨hyl,hy⟩:=List.getElem?_eq_some_iff.1 hy;have w1:IntKind.i64.wrap ((0:Int)+1)=1:=wrap_small' (by omega) (by omega);have w2:IntKind.i64.wrap ((1:Int)+1)=2:=wrap_small' (by omega) (by omega)
 refine (iterM_succ (L':=_) [mchV,iV i,iV c,iV d,.l (.sl (.loc 2) 0 1 1),.l (.sl (.loc 1) 0 1 2),iV 2,iV 1] (by rw[raw102p0];simp[hxl,hx,hyl,hy,hxc,hyc,w1,w2,lPick,zipK,nrmM];rfl)).trans ?_
 refine (iterM_succ (L':=_) [mchV,iV i,iV c,iV d,.l (.sl (.loc 2) 0 1 1),.l (.sl (.loc 1) 0 1 2),iV 2,iV 2] (by rw[raw102q1];simp[hxl,hx,hyl,hy,hxc,hyc,w1,w2,lPick,zipK,nrmM];rfl)).trans ?_
 refine iterM_exit ?_ (fun s h=>by cases h)
 rw[raw102q2]
theorem pick_oo (m:IM)(i:Int)(c d:Nat)(o1 o2 o3 o4 o5:Int)(x y:IChan)(hx:m.chans[c]?=some x)(hy:m.chans[d]?=some y)(hxc:x.closed=false)(hyc:y.closed=false):iterM (wb:=wb) (hv:=hv) (hk:=hk) (noOp _) (tabA.at [1,3,4,7,8,10,11,12,13] [6,7,8]) [] [] wk0 600 Try.f102 (loopsOf (bd Try.f102)) (lPick wb hv hk) 3 [mchV,iV i,iV c,iV d,nilV,.l (.sl (.loc 1) 0 1 2),iV 2,iV 0] m [obS o1 o2 o3 o4 o5,obP c d] []=some (exM 1 [(0,mchV),(1,iV i),(15,iV c),(16,iV d),(21,.l (.sl (.loc 2) 0 1 2))] m [obS o1 o2 o3 o4 o5,obP c d,obI [(c:Int),(d:Int)]] []):=by
 obtain⟨hxl,hx⟩:=List.getElem?_eq_some_iff.1 hx;obtain⟨hyl,hy⟩:=List.getElem?_eq_some_iff.1 hy;have w1:IntKind.i64.wrap ((0:Int)+1)=1:=wrap_small' (by omega) (by omega);have w2:IntKind.i64.wrap ((1:Int)+1)=2:=wrap_small' (by omega) (by omega)
 refine (iterM_succ (L':=_) [mchV,iV i,iV c,iV d,.l (.sl (.loc 2) 0 1 1),.l (.sl (.loc 1) 0 1 2),iV 2,iV 1] (by rw[raw102p0];simp[hxl,hx,hyl,hy,hxc,hyc,w1,w2,lPick,zipK,nrmM];rfl)).trans ?_
 refine (iterM_succ (L':=_) [mchV,iV i,iV c,iV d,.l (.sl (.loc 2) 0 1 2),.l (.sl (.loc 1) 0 1 2),iV 2,iV 2] (by rw[raw102q1];simp[hxl,hx,hyl,hy,hxc,hyc,w1,w2,lPick,zipK,nrmM];rfl)).trans ?_
 refine iterM_exit ?_ (fun s h=>by cases h)
 rw[raw102q2]
theorem pick_lp {LS:List (Nat×Code)}(hLS:LS=(loopsOf (bd Try.f102))):LpOk PG (tabA.at [1,3,4,7,8,10,11,12,13] [6,7,8]) (DM wb hv hk) Try.f102.ntmps LS [lPick wb hv hk]:=by
 subst hLS
 refine mkLp (tabAOk.at _ _) (mdI_ok _) mixOk noOp_ok EnvOk.nil LpOk.nil (wk:=wk0) (N:=600) LpOk.nil (by kernel_rfl) fun vs m L dk κ x h0=>?_
 simp only[lPick] at h0
 split at h0
 ·obtain⟨c,rfl,h1⟩:=natOf_some h0
  obtain⟨d,rfl,h2⟩:=natOf_some h1;clear h0 h1
  split at h2
  ·rename_i h3
   obtain⟨rfl,rfl⟩:=h3
   split at h2
   ·cases h2
   ·rename_i x hx
    split at h2
    ·cases h2
    ·rename_i y hy
     cases hxc:x.closed with
     |true=>
      cases hyc:y.closed with
      |true=>rw[hxc,hyc] at h2;exact⟨_,_,pick_cc (wb:=wb) (hv:=hv) (hk:=hk) m _ c d _ _ _ _ _ x y hx hy hxc hyc,h2⟩
      |false=>rw[hxc,hyc] at h2;exact⟨_,_,pick_co (wb:=wb) (hv:=hv) (hk:=hk) m _ c d _ _ _ _ _ x y hx hy hxc hyc,h2⟩
     |false=>
      cases hyc:y.closed with
      |true=>rw[hxc,hyc] at h2;exact⟨_,_,pick_oc (wb:=wb) (hv:=hv) (hk:=hk) m _ c d _ _ _ _ _ x y hx hy hxc hyc,h2⟩
      |false=>rw[hxc,hyc] at h2;exact⟨_,_,pick_oo (wb:=wb) (hv:=hv) (hk:=hk) m _ c d _ _ _ _ _ x y hx hy hxc hyc,h2⟩
  ·cases h2
 ·cases h0
end Go.Beat
end
section
namespace Go.Beat
open Go _root_.Beat Go.Proofs
attribute [local simp] int_beq int_bne ble_dec
set_option maxRecDepth 100000
variable {wb:Nat} {hv:Value} {hk:Option Int}
theorem raw102_7 {wb:Nat}{hv:Value}{hk:Option Int}(m:IM)(i:Nat)(a b n z:Int):runM (wb:=wb) (hv:=hv) (hk:=hk) (opI _) (tabA.at [1,3,4,7,8,10,11,12,13] [6,7,8]) [(86,cSpawn wb hv hk),(99,cNote wb hv hk),(100,cReady wb hv hk),(101,cFinish wb hv hk),(104,cGets wb hv hk),(105,cSend wb hv hk),(118,cWaited wb hv hk),(119,cFail wb hv hk),(120,cTake wb hv hk),(121,cLine wb hv hk),(122,cClose wb hv hk)] [lPick wb hv hk] wk102 2000 Try.f102 [mchV,iV i,tskV i,stpV ⟨7,a,b,n,z⟩] m=m.tasks[i]?.bind fun val=>m.tasks[i]?.bind fun val_1=>m.tasks[i]?.bind fun val_2=>(m.tasks.set i (val_2.wPc (IntKind.i64.wrap (val_1.pc+(1:Int)))))[i]?.bind fun val_3=>((m.tasks.set i (val_2.wPc (IntKind.i64.wrap (val_1.pc+(1:Int))))).set i (val_3.wA a))[i]?.bind fun val_4=>(((m.tasks.set i (val_2.wPc (IntKind.i64.wrap (val_1.pc+(1:Int))))).set i (val_3.wA a)).set i (val_4.wOp (7:Int)))[i]?.bind fun val_5=>bif (↑((((m.tasks.set i (val_2.wPc (IntKind.i64.wrap (val_1.pc+(1:Int))))).set i (val_3.wA a)).set i (val_4.wOp (7:Int))).set i (val_5.wAsked (IntKind.i64.wrap (m.asks+(1:Int))))).length:Int)==(50:Int) then ((((((m.setT i (val_2.wPc (IntKind.i64.wrap (val_1.pc+(1:Int))))).setT i (val_3.wA a)).setT i (val_4.wOp (7:Int))).wAsks (IntKind.i64.wrap (m.asks+(1:Int)))).setT i (val_5.wAsked (IntKind.i64.wrap (m.asks+(1:Int))))).fail i (1:Int)).bind fun val=>some (okM (TV.tup []) val []) else ((((((m.setT i (val_2.wPc (IntKind.i64.wrap (val_1.pc+(1:Int))))).setT i (val_3.wA a)).setT i (val_4.wOp (7:Int))).wAsks (IntKind.i64.wrap (m.asks+(1:Int)))).setT i (val_5.wAsked (IntKind.i64.wrap (m.asks+(1:Int))))).spawn b).bind fun val_6=>bif decide (i<((((m.tasks.set i (val_2.wPc (IntKind.i64.wrap (val_1.pc+(1:Int))))).set i (val_3.wA a)).set i (val_4.wOp (7:Int))).set i (val_5.wAsked (IntKind.i64.wrap (m.asks+(1:Int))))).length) then bif decide (i<((((m.tasks.set i (val_2.wPc (IntKind.i64.wrap (val_1.pc+(1:Int))))).set i (val_3.wA a)).set i (val_4.wOp (7:Int))).set i (val_5.wAsked (IntKind.i64.wrap (m.asks+(1:Int))))).length) then bif decide (i<((((m.tasks.set i (val_2.wPc (IntKind.i64.wrap (val_1.pc+(1:Int))))).set i (val_3.wA a)).set i (val_4.wOp (7:Int))).set i (val_5.wAsked (IntKind.i64.wrap (m.asks+(1:Int))))).length) then bif decide (i<((((m.tasks.set i (val_2.wPc (IntKind.i64.wrap (val_1.pc+(1:Int))))).set i (val_3.wA a)).set i (val_4.wOp (7:Int))).set i (val_5.wAsked (IntKind.i64.wrap (m.asks+(1:Int))))).length) then bif decide (i<((((m.tasks.set i (val_2.wPc (IntKind.i64.wrap (val_1.pc+(1:Int))))).set i (val_3.wA a)).set i (val_4.wOp (7:Int))).set i (val_5.wAsked (IntKind.i64.wrap (m.asks+(1:Int))))).length) then bif decide (i<((((m.tasks.set i (val_2.wPc (IntKind.i64.wrap (val_1.pc+(1:Int))))).set i (val_3.wA a)).set i (val_4.wOp (7:Int))).set i (val_5.wAsked (IntKind.i64.wrap (m.asks+(1:Int))))).length) then bif decide (i<((((m.tasks.set i (val_2.wPc (IntKind.i64.wrap (val_1.pc+(1:Int))))).set i (val_3.wA a)).set i (val_4.wOp (7:Int))).set i (val_5.wAsked (IntKind.i64.wrap (m.asks+(1:Int))))).length) then bif decide (i<((((m.tasks.set i (val_2.wPc (IntKind.i64.wrap (val_1.pc+(1:Int))))).set i (val_3.wA a)).set i (val_4.wOp (7:Int))).set i (val_5.wAsked (IntKind.i64.wrap (m.asks+(1:Int))))).length) then bif decide (i<((((m.tasks.set i (val_2.wPc (IntKind.i64.wrap (val_1.pc+(1:Int))))).set i (val_3.wA a)).set i (val_4.wOp (7:Int))).set i (val_5.wAsked (IntKind.i64.wrap (m.asks+(1:Int))))).length) then bif decide (i<((((m.tasks.set i (val_2.wPc (IntKind.i64.wrap (val_1.pc+(1:Int))))).set i (val_3.wA a)).set i (val_4.wOp (7:Int))).set i (val_5.wAsked (IntKind.i64.wrap (m.asks+(1:Int))))).length) then bif decide (i<((((m.tasks.set i (val_2.wPc (IntKind.i64.wrap (val_1.pc+(1:Int))))).set i (val_3.wA a)).set i (val_4.wOp (7:Int))).set i (val_5.wAsked (IntKind.i64.wrap (m.asks+(1:Int))))).length) then bif decide (i<((((m.tasks.set i (val_2.wPc (IntKind.i64.wrap (val_1.pc+(1:Int))))).set i (val_3.wA a)).set i (val_4.wOp (7:Int))).set i (val_5.wAsked (IntKind.i64.wrap (m.asks+(1:Int))))).length) then bif decide (i<((((m.tasks.set i (val_2.wPc (IntKind.i64.wrap (val_1.pc+(1:Int))))).set i (val_3.wA a)).set i (val_4.wOp (7:Int))).set i (val_5.wAsked (IntKind.i64.wrap (m.asks+(1:Int))))).length) then bif decide (i<((((m.tasks.set i (val_2.wPc (IntKind.i64.wrap (val_1.pc+(1:Int))))).set i (val_3.wA a)).set i (val_4.wOp (7:Int))).set i (val_5.wAsked (IntKind.i64.wrap (m.asks+(1:Int))))).length) then bif decide (i<((((m.tasks.set i (val_2.wPc (IntKind.i64.wrap (val_1.pc+(1:Int))))).set i (val_3.wA a)).set i (val_4.wOp (7:Int))).set i (val_5.wAsked (IntKind.i64.wrap (m.asks+(1:Int))))).length) then bif decide (i<((((m.tasks.set i (val_2.wPc (IntKind.i64.wrap (val_1.pc+(1:Int))))).set i (val_3.wA a)).set i (val_4.wOp (7:Int))).set i (val_5.wAsked (IntKind.i64.wrap (m.asks+(1:Int))))).length) then bif decide (i<((((m.tasks.set i (val_2.wPc (IntKind.i64.wrap (val_1.pc+(1:Int))))).set i (val_3.wA a)).set i (val_4.wOp (7:Int))).set i (val_5.wAsked (IntKind.i64.wrap (m.asks+(1:Int))))).length) then bif decide (i<((((m.tasks.set i (val_2.wPc (IntKind.i64.wrap (val_1.pc+(1:Int))))).set i (val_3.wA a)).set i (val_4.wOp (7:Int))).set i (val_5.wAsked (IntKind.i64.wrap (m.asks+(1:Int))))).length) then if (0:Int)≤a∧a<(4:Int) then val_6.tasks[i]?.bind fun val=>if a.toNat<4∧a.toNat<val.regs.length then some (okM (TV.tup []) (val_6.setT i (val.wRegs (val.regs.set a.toNat (IntKind.i64.wrap ((val_6.tasks.length:Int) - (1:Int)))))) []) else none else none else none else none else none else none else none else none else none else none else none else none else none else none else none else none else none else none else none else none:=by kernel_rfl
theorem step7 {m m':IM}{i:Nat}{a b n z:Int}(h:m.step i ⟨7,a,b,n,z⟩=some m'):runM (wb:=wb) (hv:=hv) (hk:=hk) (opI _) (tabA.at [1,3,4,7,8,10,11,12,13] [6,7,8]) [(86,cSpawn wb hv hk),(99,cNote wb hv hk),(100,cReady wb hv hk),(101,cFinish wb hv hk),(104,cGets wb hv hk),(105,cSend wb hv hk),(118,cWaited wb hv hk),(119,cFail wb hv hk),(120,cTake wb hv hk),(121,cLine wb hv hk),(122,cClose wb hv hk)] [lPick wb hv hk] wk102 2000 Try.f102 [mchV,iV i,tskV i,stpV ⟨7,a,b,n,z⟩] m=some (okM (.tup []) m' []):=by
 rw[raw102_7];simp only[IM.step,bind,Option.bind_eq_some_iff] at h;obtain⟨t,ht,h⟩:=h;obtain⟨hi,ht⟩:=List.getElem?_eq_some_iff.1 ht;simp[IM.act,Option.bind_eq_some_iff] at h
 split at h
 ·rename_i hl
  have hi':i<50:=hl ▸ hi
  have hx:m.tasks[i]?=some t:=by rw[←ht];exact List.getElem?_eq_getElem hi
  simp[hl,hi',ht,h]
 ·rename_i hl
  have hl':(m.tasks.length:Int)≠50:=by omega
  simp only[Option.bind_eq_some_iff,Option.some.injEq] at h;obtain⟨m1,h1,t1,ht1,t2,h2,rfl⟩:=h;obtain⟨a1,a2,a3,rfl⟩:=setR_some h2;obtain⟨hi1,ht1⟩:=List.getElem?_eq_some_iff.1 ht1
  have a4:a.toNat<4:=by omega
  simp[hi,ht,hl,hl',h1,hi1,ht1,a1,a2,a3,a4]
end Go.Beat
end
section
namespace Go.Beat
open Go _root_.Beat Go.Proofs
attribute [local simp] int_beq int_bne ble_dec
set_option maxRecDepth 100000
variable {wb:Nat} {hv:Value} {hk:Option Int}
theorem raw102_8 {wb:Nat}{hv:Value}{hk:Option Int}(m:IM)(i:Nat)(a b n z:Int):runM (wb:=wb) (hv:=hv) (hk:=hk) (opI _) (tabA.at [1,3,4,7,8,10,11,12,13] [6,7,8]) [(86,cSpawn wb hv hk),(99,cNote wb hv hk),(100,cReady wb hv hk),(101,cFinish wb hv hk),(104,cGets wb hv hk),(105,cSend wb hv hk),(118,cWaited wb hv hk),(119,cFail wb hv hk),(120,cTake wb hv hk),(121,cLine wb hv hk),(122,cClose wb hv hk)] [lPick wb hv hk] wk102 2000 Try.f102 [mchV,iV i,tskV i,stpV ⟨8,a,b,n,z⟩] m=m.tasks[i]?.bind fun val=>m.tasks[i]?.bind fun val_1=>m.tasks[i]?.bind fun val_2=>(m.tasks.set i (val_2.wPc (IntKind.i64.wrap (val_1.pc+(1:Int)))))[i]?.bind fun val_3=>((m.tasks.set i (val_2.wPc (IntKind.i64.wrap (val_1.pc+(1:Int))))).set i (val_3.wA a))[i]?.bind fun val_4=>(((m.tasks.set i (val_2.wPc (IntKind.i64.wrap (val_1.pc+(1:Int))))).set i (val_3.wA a)).set i (val_4.wOp (8:Int)))[i]?.bind fun val_5=>if (0:Int)≤a∧a<(4:Int) then ((((m.tasks.set i (val_2.wPc (IntKind.i64.wrap (val_1.pc+(1:Int))))).set i (val_3.wA a)).set i (val_4.wOp (8:Int))).set i (val_5.wAsked (IntKind.i64.wrap (m.asks+(1:Int)))))[i]?.bind fun val_6=>if a.toNat<4 then val_6.regs[a.toNat]?.bind fun val_7=>bif decide (val_7<(0:Int)) then ((((((m.setT i (val_2.wPc (IntKind.i64.wrap (val_1.pc+(1:Int))))).setT i (val_3.wA a)).setT i (val_4.wOp (8:Int))).wAsks (IntKind.i64.wrap (m.asks+(1:Int)))).setT i (val_5.wAsked (IntKind.i64.wrap (m.asks+(1:Int))))).fail i (3:Int)).bind fun val=>some (okM (TV.tup []) val []) else bif decide (val_7≥(↑((((m.tasks.set i (val_2.wPc (IntKind.i64.wrap (val_1.pc+(1:Int))))).set i (val_3.wA a)).set i (val_4.wOp (8:Int))).set i (val_5.wAsked (IntKind.i64.wrap (m.asks+(1:Int))))).length:Int)) then ((((((m.setT i (val_2.wPc (IntKind.i64.wrap (val_1.pc+(1:Int))))).setT i (val_3.wA a)).setT i (val_4.wOp (8:Int))).wAsks (IntKind.i64.wrap (m.asks+(1:Int)))).setT i (val_5.wAsked (IntKind.i64.wrap (m.asks+(1:Int))))).fail i (3:Int)).bind fun val=>some (okM (TV.tup []) val []) else if 0+((((m.tasks.set i (val_2.wPc (IntKind.i64.wrap (val_1.pc+(1:Int))))).set i (val_3.wA a)).set i (val_4.wOp (8:Int))).set i (val_5.wAsked (IntKind.i64.wrap (m.asks+(1:Int))))).length≤((((m.tasks.set i (val_2.wPc (IntKind.i64.wrap (val_1.pc+(1:Int))))).set i (val_3.wA a)).set i (val_4.wOp (8:Int))).set i (val_5.wAsked (IntKind.i64.wrap (m.asks+(1:Int))))).length∧(0:Int)≤val_7∧val_7<(↑((((m.tasks.set i (val_2.wPc (IntKind.i64.wrap (val_1.pc+(1:Int))))).set i (val_3.wA a)).set i (val_4.wOp (8:Int))).set i (val_5.wAsked (IntKind.i64.wrap (m.asks+(1:Int))))).length:Int) then if 0+val_7.toNat<((((m.tasks.set i (val_2.wPc (IntKind.i64.wrap (val_1.pc+(1:Int))))).set i (val_3.wA a)).set i (val_4.wOp (8:Int))).set i (val_5.wAsked (IntKind.i64.wrap (m.asks+(1:Int))))).length then ((((m.tasks.set i (val_2.wPc (IntKind.i64.wrap (val_1.pc+(1:Int))))).set i (val_3.wA a)).set i (val_4.wOp (8:Int))).set i (val_5.wAsked (IntKind.i64.wrap (m.asks+(1:Int)))))[0+val_7.toNat]?.bind fun val_8=>bif val_8.state==(6:Int) then ((((((m.setT i (val_2.wPc (IntKind.i64.wrap (val_1.pc+(1:Int))))).setT i (val_3.wA a)).setT i (val_4.wOp (8:Int))).wAsks (IntKind.i64.wrap (m.asks+(1:Int)))).setT i (val_5.wAsked (IntKind.i64.wrap (m.asks+(1:Int))))).waited i val_8.state).bind fun val=>some (okM (TV.tup []) val []) else bif val_8.state==(7:Int) then ((((((m.setT i (val_2.wPc (IntKind.i64.wrap (val_1.pc+(1:Int))))).setT i (val_3.wA a)).setT i (val_4.wOp (8:Int))).wAsks (IntKind.i64.wrap (m.asks+(1:Int)))).setT i (val_5.wAsked (IntKind.i64.wrap (m.asks+(1:Int))))).waited i val_8.state).bind fun val=>some (okM (TV.tup []) val []) else ((((m.tasks.set i (val_2.wPc (IntKind.i64.wrap (val_1.pc+(1:Int))))).set i (val_3.wA a)).set i (val_4.wOp (8:Int))).set i (val_5.wAsked (IntKind.i64.wrap (m.asks+(1:Int)))))[i]?.bind fun val_9=>(((((m.tasks.set i (val_2.wPc (IntKind.i64.wrap (val_1.pc+(1:Int))))).set i (val_3.wA a)).set i (val_4.wOp (8:Int))).set i (val_5.wAsked (IntKind.i64.wrap (m.asks+(1:Int))))).set i (val_9.wState (3:Int)))[i]?.bind fun val_10=>if wb=wb∧(0:Int)≤val_7 then if 0+(m.wait val_7.toNat).length≤(List.map Int.ofNat (m.wait val_7.toNat)).length∧((m.wait val_7.toNat).length+1)*8≤140737488355328∧(m.wait val_7.toNat).length+1≤9223372036854775807 then bif (List.take (m.wait val_7.toNat).length (List.drop 0 (List.map Int.ofNat (m.wait val_7.toNat)))++[(i:Int)]).length.ble 9223372036854775807 then if wb=wb∧(0:Int)≤val_7 then if 0+((m.wait val_7.toNat).length+1)≤(List.take (m.wait val_7.toNat).length (List.drop 0 (List.map Int.ofNat (m.wait val_7.toNat)))++[(i:Int)]).length then (toNats (List.take ((m.wait val_7.toNat).length+1) (List.drop 0 (List.take (m.wait val_7.toNat).length (List.drop 0 (List.map Int.ofNat (m.wait val_7.toNat)))++[(i:Int)])))).bind fun (val:List Nat)=>if (m.wait val_7.toNat).length+1=val.length then if TI.waitL val_7.toNat=TI.waitL val_7.toNat then some (okM (TV.tup []) ((((((((m.setT i (val_2.wPc (IntKind.i64.wrap (val_1.pc+(1:Int))))).setT i (val_3.wA a)).setT i (val_4.wOp (8:Int))).wAsks (IntKind.i64.wrap (m.asks+(1:Int)))).setT i (val_5.wAsked (IntKind.i64.wrap (m.asks+(1:Int))))).setT i (val_9.wState (3:Int))).setT i (val_10.wTarget val_7)).wWait val_7.toNat val) []) else none else none else none else none else none else none else none else none else none else none else none:=by kernel_rfl
theorem step8 {m m':IM}{i:Nat}{a b n z:Int}(h:m.step i ⟨8,a,b,n,z⟩=some m'):runM (wb:=wb) (hv:=hv) (hk:=hk) (opI _) (tabA.at [1,3,4,7,8,10,11,12,13] [6,7,8]) [(86,cSpawn wb hv hk),(99,cNote wb hv hk),(100,cReady wb hv hk),(101,cFinish wb hv hk),(104,cGets wb hv hk),(105,cSend wb hv hk),(118,cWaited wb hv hk),(119,cFail wb hv hk),(120,cTake wb hv hk),(121,cLine wb hv hk),(122,cClose wb hv hk)] [lPick wb hv hk] wk102 2000 Try.f102 [mchV,iV i,tskV i,stpV ⟨8,a,b,n,z⟩] m=some (okM (.tup []) m' []):=by
 rw[raw102_8];simp only[IM.step,bind,Option.bind_eq_some_iff] at h;obtain⟨t,ht,h⟩:=h;obtain⟨hi,ht⟩:=List.getElem?_eq_some_iff.1 ht;simp[IM.act,Option.bind_eq_some_iff] at h;obtain⟨v,hv0,h⟩:=h;obtain⟨b1,b2,b3⟩:=getR_some hv0
 have b4:a.toNat<4:=by omega
 simp at b3
 obtain⟨b6,b5⟩:=List.getElem?_eq_some_iff.1 b3
 split at h
 ·rename_i hc
  by_cases h1:v<0
  ·simp[hi,ht,b1,b2,b4,b5,b6,h1,h]
  ·have h2:(m.tasks.length:Int)≤v:=by omega
   simp[hi,ht,b1,b2,b4,b5,b6,h1,h2,h]
 ·rename_i hc
  have h1:¬v<0:=by omega
  have h2:¬(m.tasks.length:Int)≤v:=by omega
  have h3:0≤v:=by omega
  have h4:v<(m.tasks.length:Int):=by omega
  have h5:v.toNat<m.tasks.length:=by omega
  simp only[Option.bind_eq_some_iff] at h;obtain⟨u,hu,h⟩:=h;obtain⟨hul,hu⟩:=List.getElem?_eq_some_iff.1 hu
  split at h
  ·rename_i hs
   rcases hs with hs|hs
   ·rw[hs] at h
    simp[hi,ht,b1,b2,b4,b5,b6,h1,h2,h3,h4,h5,hul,hu,hs,h]
   ·rw[hs] at h
    simp[hi,ht,b1,b2,b4,b5,b6,h1,h2,h3,h4,h5,hul,hu,hs,h]
  ·rename_i hs
   have s6:¬u.state=6:=fun e=>hs (.inl e)
   have s7:¬u.state=7:=fun e=>hs (.inr e)
   simp only[Option.bind_eq_some_iff,Option.some.injEq] at h;obtain⟨l,hp,rfl⟩:=h;obtain⟨hp,rfl⟩:=push_some hp
   have g1:((m.wait v.toNat).length+1)*8≤140737488355328:=by omega
   have g2:(m.wait v.toNat).length≤9223372036854775806:=by omega
   simp[hi,ht,b1,b2,b4,b5,b6,h1,h2,h3,h4,h5,hul,hu,s6,s7,g1,g2]
end Go.Beat
end
section
namespace Go.Beat
open Go _root_.Beat Go.Proofs
attribute [local simp] int_beq int_bne ble_dec
set_option maxRecDepth 100000
variable {wb:Nat} {hv:Value} {hk:Option Int}
theorem step_raw {m m':IM}{i:Nat}{op a b n z:Int}(h:m.step i ⟨op,a,b,n,z⟩=some m'):runM (wb:=wb) (hv:=hv) (hk:=hk) (opI _) (tabA.at [1,3,4,7,8,10,11,12,13] [6,7,8]) [(86,cSpawn wb hv hk),(99,cNote wb hv hk),(100,cReady wb hv hk),(101,cFinish wb hv hk),(104,cGets wb hv hk),(105,cSend wb hv hk),(118,cWaited wb hv hk),(119,cFail wb hv hk),(120,cTake wb hv hk),(121,cLine wb hv hk),(122,cClose wb hv hk)] [lPick wb hv hk] wk102 2000 Try.f102 [mchV,iV i,tskV i,stpV ⟨op,a,b,n,z⟩] m=some (okM (.tup []) m' []):=by
 by_cases h1:op=1
 ·subst h1;exact step1 h
 by_cases h2:op=2
 ·subst h2;exact step2 h
 by_cases h3:op=3
 ·subst h3;exact step3 h
 by_cases h4:op=4
 ·subst h4;exact step4 h
 by_cases h5:op=5
 ·subst h5;exact step5 h
 by_cases h6:op=6
 ·subst h6;exact step6 h
 by_cases h7:op=7
 ·subst h7;exact step7 h
 by_cases h8:op=8
 ·subst h8;exact step8 h
 by_cases h9:op=9
 ·subst h9;exact step9 h
 by_cases h10:op=10
 ·subst h10;exact step10 h
 by_cases h11:op=11
 ·subst h11;exact step11 h
 by_cases h12:op=12
 ·subst h12;exact step12 h
 by_cases h13:op=13
 ·subst h13;exact step13 h
 by_cases h14:op=14
 ·subst h14;exact step14 h
 by_cases h15:op=15
 ·subst h15;exact step15 h
 by_cases h16:op=16
 ·subst h16;exact step16 h
 exfalso
 simp only[IM.step,bind,Option.bind_eq_some_iff] at h;obtain⟨t,ht,h⟩:=h;simp[IM.act,h1,h2,h3,h4,h5,h6,h7,h8,h9,h10,h11,h12,h13,h14,h15,h16] at h
variable (hN:CtrOk (D:=DM wb hv hk) PG 99 (cNote wb hv hk))
include hN
theorem step_env:EnvOk PG [(86,cSpawn wb hv hk),(99,cNote wb hv hk),(100,cReady wb hv hk),(101,cFinish wb hv hk),(104,cGets wb hv hk),(105,cSend wb hv hk),(118,cWaited wb hv hk),(119,cFail wb hv hk),(120,cTake wb hv hk),(121,cLine wb hv hk),(122,cClose wb hv hk)]:=EnvOk.cons spawn_ok (EnvOk.cons hN (EnvOk.cons ready_ok (EnvOk.cons finish_ok (EnvOk.cons gets_ok (EnvOk.cons send_ok (EnvOk.cons waited_ok (EnvOk.cons (fail_ok hN) (EnvOk.cons take_ok (EnvOk.cons line_ok (EnvOk.cons (close_ok hN) EnvOk.nil))))))))))
theorem step_ok:CtrOk (D:=DM wb hv hk) PG 102 (cStep wb hv hk):=mkCtr tabAOk (mdI_ok _) mixOk (opI_ok _) (step_env hN) (fn:=Try.f102) (by kernel_rfl) (by kernel_rfl) (by kernel_rfl) [1,3,4,7,8,10,11,12,13] [6,7,8] (by kernel_rfl) (pick_lp rfl) (I:=fun _=>True) (fun _ _ _ _=>trivial) fun vs st κ x h0=>by
 simp only[cStep] at h0
 split at h0
 ·obtain⟨i,rfl,h1⟩:=natOf_some h0
  split at h1
  case isFalse=>cases h1
  rename_i hii;subst hii
  split at h1
  ·cases h1
  ·rename_i m' hm
   exact⟨of_decide_eq_true rfl,_,_,_,h1,fun _=>step_raw hm⟩
 ·cases h0
end Go.Beat
end
