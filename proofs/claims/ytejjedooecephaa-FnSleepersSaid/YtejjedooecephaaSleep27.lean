/-
  Texts joined by a program (shake.py), without what the claim does not use; printed walks among them (print.sh), and own ones.
-/
import Derived.Test.YtejjedooecephaaSleep24
import Derived.Test.YtejjedooecephaaSleep26
section
namespace Go.Beat
open Go _root_.Beat Go.Proofs
attribute [local simp] int_beq int_bne ble_dec
set_option maxRecDepth 100000
variable {wb:Nat} {hv:Value} {hk:Option Int}
theorem raw24p1 {wb:Nat}{hv:Value}{hk:Option Int}(m:IM)(nb nr n b l:Nat)(sl i k n_ j_ l_ k_ x s0 s1 s2 s3 s4:Int):roundM (wb:=wb) (hv:=hv) (hk:=hk) (noOp _) (tabA.at [] []) [] [] wk0 600 Try.f24 (loopsOf (loopC (loopsOf (loopC (loopsOf (bd Try.f24)) 8)) 10)) (lP12 wb hv hk) (evE i 1 k n n_ j_ b l l_ k_) m [obPl nb nr sl,obFa 0 0 0,obE1 x,obS5 s0 s1 s2 s3 s4] []=some (exM 12 [(1,TV.l (AL.p (Tg.loc 0) 0 1 0)),(2,TV.l (AL.p (Tg.loc 1) 0 1 0)),(11,TV.l (AL.v (Value.int IntKind.i64 i))),(13,TV.l (AL.sl (Tg.loc 2) 0 1 1)),(14,TV.l (AL.v (Value.int IntKind.i64 k))),(15,TV.l (AL.p (Tg.loc 3) 0 1 0)),(98,TV.l (AL.sl (Tg.m TI.bodies) 0 1 n)),(99,TV.l (AL.v (Value.int IntKind.i64 n_))),(100,TV.l (AL.v (Value.int IntKind.i64 j_))),(110,TV.l (AL.sl (Tg.m (TI.steps b)) 0 5 l)),(111,TV.l (AL.v (Value.int IntKind.i64 l_))),(112,TV.l (AL.v (Value.int IntKind.i64 k_)))] m [{ty:=35,sz:=1,fix:=true,o:=some (LO.cells [AL.sl (Tg.m TI.bodies) 0 1 nb,AL.sl (Tg.m TI.rooms) 0 1 nr,AL.v (Value.int IntKind.i64 sl)]):LObj TI},{ty:=45,sz:=1,fix:=true,o:=some (LO.cells [AL.v (Value.int IntKind.i64 (0:Int)),AL.v (Value.int IntKind.i64 (0:Int)),AL.v (Value.int IntKind.i64 (0:Int))]):LObj TI},{ty:=3,sz:=1,fix:=false,o:=some (LO.cells [AL.v (Value.int IntKind.i64 x)]):LObj TI},{ty:=100,sz:=1,fix:=true,o:=some (LO.cells [AL.v (Value.int IntKind.i64 s0),AL.v (Value.int IntKind.i64 s1),AL.v (Value.int IntKind.i64 s2),AL.v (Value.int IntKind.i64 s3),AL.v (Value.int IntKind.i64 s4)]):LObj TI}] []):=by kernel_rfl
theorem raw24p2 {wb:Nat}{hv:Value}{hk:Option Int}(m:IM)(nb nr n b l q:Nat)(ys:List Int)(sl i k n_ j_ l_ k_ s0 s1 s2 s3 s4:Int):roundM (wb:=wb) (hv:=hv) (hk:=hk) (noOp _) (tabA.at [] []) [] [] wk0 600 Try.f24 (loopsOf (loopC (loopsOf (loopC (loopsOf (bd Try.f24)) 8)) 10)) (lP12 wb hv hk) (evE i q k n n_ j_ b l l_ k_) m [obPl nb nr sl,obFa 0 0 0,obE ys,obS5 s0 s1 s2 s3 s4] []=bif decide ((↑q:Int)>(1:Int)) then if 0+q≤ys.length∧(0:Int)≤IntKind.i64.wrap ((↑q:Int) - (1:Int))∧IntKind.i64.wrap ((↑q:Int) - (1:Int))<(↑q:Int) then ys[0+(IntKind.i64.wrap ((↑q:Int) - (1:Int))).toNat]?.bind fun (val:Int)=>bif decide (val≤k) then if q≤ys.length∧(0:Int)≤(0:Int)∧(0:Int)≤IntKind.i64.wrap ((↑q:Int) - (1:Int))∧IntKind.i64.wrap ((↑q:Int) - (1:Int))≤(↑q:Int) then some (nrmM [(1,TV.l (AL.p (Tg.loc 0) 0 1 0)),(2,TV.l (AL.p (Tg.loc 1) 0 1 0)),(11,TV.l (AL.v (Value.int IntKind.i64 i))),(13,TV.l (AL.sl (Tg.loc 2) 0 1 (IntKind.i64.wrap ((↑q:Int) - (1:Int)) - (0:Int)).toNat)),(14,TV.l (AL.v (Value.int IntKind.i64 k))),(15,TV.l (AL.p (Tg.loc 3) 0 1 0)),(98,TV.l (AL.sl (Tg.m TI.bodies) 0 1 n)),(99,TV.l (AL.v (Value.int IntKind.i64 n_))),(100,TV.l (AL.v (Value.int IntKind.i64 j_))),(110,TV.l (AL.sl (Tg.m (TI.steps b)) 0 5 l)),(111,TV.l (AL.v (Value.int IntKind.i64 l_))),(112,TV.l (AL.v (Value.int IntKind.i64 k_)))] m [{ty:=35,sz:=1,fix:=true,o:=some (LO.cells [AL.sl (Tg.m TI.bodies) 0 1 nb,AL.sl (Tg.m TI.rooms) 0 1 nr,AL.v (Value.int IntKind.i64 sl)]):LObj TI},{ty:=45,sz:=1,fix:=true,o:=some (LO.cells [AL.v (Value.int IntKind.i64 (0:Int)),AL.v (Value.int IntKind.i64 (0:Int)),AL.v (Value.int IntKind.i64 (0:Int))]):LObj TI},{ty:=3,sz:=1,fix:=false,o:=some (LO.ints IntKind.i64 ys):LObj TI},{ty:=100,sz:=1,fix:=true,o:=some (LO.cells [AL.v (Value.int IntKind.i64 s0),AL.v (Value.int IntKind.i64 s1),AL.v (Value.int IntKind.i64 s2),AL.v (Value.int IntKind.i64 s3),AL.v (Value.int IntKind.i64 s4)]):LObj TI}] []) else none else some (exM 12 [(1,TV.l (AL.p (Tg.loc 0) 0 1 0)),(2,TV.l (AL.p (Tg.loc 1) 0 1 0)),(11,TV.l (AL.v (Value.int IntKind.i64 i))),(13,TV.l (AL.sl (Tg.loc 2) 0 1 q)),(14,TV.l (AL.v (Value.int IntKind.i64 k))),(15,TV.l (AL.p (Tg.loc 3) 0 1 0)),(98,TV.l (AL.sl (Tg.m TI.bodies) 0 1 n)),(99,TV.l (AL.v (Value.int IntKind.i64 n_))),(100,TV.l (AL.v (Value.int IntKind.i64 j_))),(110,TV.l (AL.sl (Tg.m (TI.steps b)) 0 5 l)),(111,TV.l (AL.v (Value.int IntKind.i64 l_))),(112,TV.l (AL.v (Value.int IntKind.i64 k_)))] m [{ty:=35,sz:=1,fix:=true,o:=some (LO.cells [AL.sl (Tg.m TI.bodies) 0 1 nb,AL.sl (Tg.m TI.rooms) 0 1 nr,AL.v (Value.int IntKind.i64 sl)]):LObj TI},{ty:=45,sz:=1,fix:=true,o:=some (LO.cells [AL.v (Value.int IntKind.i64 (0:Int)),AL.v (Value.int IntKind.i64 (0:Int)),AL.v (Value.int IntKind.i64 (0:Int))]):LObj TI},{ty:=3,sz:=1,fix:=false,o:=some (LO.ints IntKind.i64 ys):LObj TI},{ty:=100,sz:=1,fix:=true,o:=some (LO.cells [AL.v (Value.int IntKind.i64 s0),AL.v (Value.int IntKind.i64 s1),AL.v (Value.int IntKind.i64 s2),AL.v (Value.int IntKind.i64 s3),AL.v (Value.int IntKind.i64 s4)]):LObj TI}] []) else none else some (exM 12 [(1,TV.l (AL.p (Tg.loc 0) 0 1 0)),(2,TV.l (AL.p (Tg.loc 1) 0 1 0)),(11,TV.l (AL.v (Value.int IntKind.i64 i))),(13,TV.l (AL.sl (Tg.loc 2) 0 1 q)),(14,TV.l (AL.v (Value.int IntKind.i64 k))),(15,TV.l (AL.p (Tg.loc 3) 0 1 0)),(98,TV.l (AL.sl (Tg.m TI.bodies) 0 1 n)),(99,TV.l (AL.v (Value.int IntKind.i64 n_))),(100,TV.l (AL.v (Value.int IntKind.i64 j_))),(110,TV.l (AL.sl (Tg.m (TI.steps b)) 0 5 l)),(111,TV.l (AL.v (Value.int IntKind.i64 l_))),(112,TV.l (AL.v (Value.int IntKind.i64 k_)))] m [{ty:=35,sz:=1,fix:=true,o:=some (LO.cells [AL.sl (Tg.m TI.bodies) 0 1 nb,AL.sl (Tg.m TI.rooms) 0 1 nr,AL.v (Value.int IntKind.i64 sl)]):LObj TI},{ty:=45,sz:=1,fix:=true,o:=some (LO.cells [AL.v (Value.int IntKind.i64 (0:Int)),AL.v (Value.int IntKind.i64 (0:Int)),AL.v (Value.int IntKind.i64 (0:Int))]):LObj TI},{ty:=3,sz:=1,fix:=false,o:=some (LO.ints IntKind.i64 ys):LObj TI},{ty:=100,sz:=1,fix:=true,o:=some (LO.cells [AL.v (Value.int IntKind.i64 s0),AL.v (Value.int IntKind.i64 s1),AL.v (Value.int IntKind.i64 s2),AL.v (Value.int IntKind.i64 s3),AL.v (Value.int IntKind.i64 s4)]):LObj TI}] []):=by kernel_rfl
theorem raw24r {wb:Nat}{hv:Value}{hk:Option Int}(m:IM)(nb nr n j:Nat)(sl:Int):roundM (wb:=wb) (hv:=hv) (hk:=hk) (noOp _) (tabA.at [] []) [] [] wk0 600 Try.f24 (loopsOf (bd Try.f24)) (lP0 wb hv hk) [lcV 0,lcV 1,.l (.sl (.m .rooms) 0 1 n),iV n,iV j] m [obPl nb nr sl,obFa 0 0 0] []=bif decide ((↑j:Int)<(↑n:Int)) then if 0+n≤m.p.rooms.length∧(0:Int)≤(↑j:Int)∧(↑j:Int)<(↑n:Int) then m.p.rooms[0+(↑j:Int).toNat]?.bind fun (val:Int)=>bif decide (val<(0:Int)) then some (retM [(1,TV.l (AL.p (Tg.loc 0) 0 1 0)),(2,TV.l (AL.p (Tg.loc 1) 0 1 0))] m [{ty:=35,sz:=1,fix:=true,o:=some (LO.cells [AL.sl (Tg.m TI.bodies) 0 1 nb,AL.sl (Tg.m TI.rooms) 0 1 nr,AL.v (Value.int IntKind.i64 sl)]):LObj TI},{ty:=45,sz:=1,fix:=true,o:=some (LO.cells [AL.v (Value.int IntKind.i64 (2:Int)),AL.v (Value.int IntKind.i64 (0:Int)),AL.v (Value.int IntKind.i64 (0:Int))]):LObj (DM wb hv hk).τ}] []) else bif decide (val>(10:Int)) then some (retM [(1,TV.l (AL.p (Tg.loc 0) 0 1 0)),(2,TV.l (AL.p (Tg.loc 1) 0 1 0))] m [{ty:=35,sz:=1,fix:=true,o:=some (LO.cells [AL.sl (Tg.m TI.bodies) 0 1 nb,AL.sl (Tg.m TI.rooms) 0 1 nr,AL.v (Value.int IntKind.i64 sl)]):LObj TI},{ty:=45,sz:=1,fix:=true,o:=some (LO.cells [AL.v (Value.int IntKind.i64 (2:Int)),AL.v (Value.int IntKind.i64 (0:Int)),AL.v (Value.int IntKind.i64 (0:Int))]):LObj (DM wb hv hk).τ}] []) else some (nrmM [(1,TV.l (AL.p (Tg.loc 0) 0 1 0)),(2,TV.l (AL.p (Tg.loc 1) 0 1 0)),(43,TV.l (AL.sl (Tg.m TI.rooms) 0 1 n)),(44,TV.l (AL.v (Value.int IntKind.i64 (↑n:Int)))),(45,TV.l (AL.v (Value.int IntKind.i64 (IntKind.i64.wrap ((↑j:Int)+(1:Int))))))] m [{ty:=35,sz:=1,fix:=true,o:=some (LO.cells [AL.sl (Tg.m TI.bodies) 0 1 nb,AL.sl (Tg.m TI.rooms) 0 1 nr,AL.v (Value.int IntKind.i64 sl)]):LObj TI},{ty:=45,sz:=1,fix:=true,o:=some (LO.cells [AL.v (Value.int IntKind.i64 (0:Int)),AL.v (Value.int IntKind.i64 (0:Int)),AL.v (Value.int IntKind.i64 (0:Int))]):LObj TI}] []) else none else some (exM 0 [(1,TV.l (AL.p (Tg.loc 0) 0 1 0)),(2,TV.l (AL.p (Tg.loc 1) 0 1 0))] m [{ty:=35,sz:=1,fix:=true,o:=some (LO.cells [AL.sl (Tg.m TI.bodies) 0 1 nb,AL.sl (Tg.m TI.rooms) 0 1 nr,AL.v (Value.int IntKind.i64 sl)]):LObj TI},{ty:=45,sz:=1,fix:=true,o:=some (LO.cells [AL.v (Value.int IntKind.i64 (0:Int)),AL.v (Value.int IntKind.i64 (0:Int)),AL.v (Value.int IntKind.i64 (0:Int))]):LObj TI}] []):=by kernel_rfl
theorem raw24l {wb:Nat}{hv:Value}{hk:Option Int}(m:IM)(nb nr n j:Nat)(sl:Int):roundM (wb:=wb) (hv:=hv) (hk:=hk) (noOp _) (tabA.at [] []) [] [] wk0 600 Try.f24 (loopsOf (bd Try.f24)) (lP2 wb hv hk) [lcV 0,lcV 1,bdV n,iV n,iV j] m [obPl nb nr sl,obFa 0 0 0] []=bif decide ((↑j:Int)<(↑n:Int)) then if 0+n≤m.p.bodies.length∧(0:Int)≤(↑j:Int)∧(↑j:Int)<(↑n:Int) then m.p.bodies[0+(↑j:Int).toNat]?.bind fun (val:List Step)=>bif decide ((↑val.length:Int)>(200:Int)) then some (retM [(1,TV.l (AL.p (Tg.loc 0) 0 1 0)),(2,TV.l (AL.p (Tg.loc 1) 0 1 0))] m [{ty:=35,sz:=1,fix:=true,o:=some (LO.cells [AL.sl (Tg.m TI.bodies) 0 1 nb,AL.sl (Tg.m TI.rooms) 0 1 nr,AL.v (Value.int IntKind.i64 sl)]):LObj TI},{ty:=45,sz:=1,fix:=true,o:=some (LO.cells [AL.v (Value.int IntKind.i64 (3:Int)),AL.v (Value.int IntKind.i64 (↑j:Int)),AL.v (Value.int IntKind.i64 (0:Int))]):LObj (DM wb hv hk).τ}] []) else some (nrmM [(1,TV.l (AL.p (Tg.loc 0) 0 1 0)),(2,TV.l (AL.p (Tg.loc 1) 0 1 0)),(58,TV.l (AL.sl (Tg.m TI.bodies) 0 1 n)),(59,TV.l (AL.v (Value.int IntKind.i64 (↑n:Int)))),(60,TV.l (AL.v (Value.int IntKind.i64 (IntKind.i64.wrap ((↑j:Int)+(1:Int))))))] m [{ty:=35,sz:=1,fix:=true,o:=some (LO.cells [AL.sl (Tg.m TI.bodies) 0 1 nb,AL.sl (Tg.m TI.rooms) 0 1 nr,AL.v (Value.int IntKind.i64 sl)]):LObj TI},{ty:=45,sz:=1,fix:=true,o:=some (LO.cells [AL.v (Value.int IntKind.i64 (0:Int)),AL.v (Value.int IntKind.i64 (0:Int)),AL.v (Value.int IntKind.i64 (0:Int))]):LObj TI}] []) else none else some (exM 2 [(1,TV.l (AL.p (Tg.loc 0) 0 1 0)),(2,TV.l (AL.p (Tg.loc 1) 0 1 0))] m [{ty:=35,sz:=1,fix:=true,o:=some (LO.cells [AL.sl (Tg.m TI.bodies) 0 1 nb,AL.sl (Tg.m TI.rooms) 0 1 nr,AL.v (Value.int IntKind.i64 sl)]):LObj TI},{ty:=45,sz:=1,fix:=true,o:=some (LO.cells [AL.v (Value.int IntKind.i64 (0:Int)),AL.v (Value.int IntKind.i64 (0:Int)),AL.v (Value.int IntKind.i64 (0:Int))]):LObj TI}] []):=by kernel_rfl
theorem raw24s {wb:Nat}{hv:Value}{hk:Option Int}(m:IM)(nb nr n b l k:Nat)(sl i n_ j:Int):roundM (wb:=wb) (hv:=hv) (hk:=hk) (noOp _) (tabA.at [] []) [(65,cStepOk wb hv hk)] [] wk0 600 Try.f24 (loopsOf (loopC (loopsOf (bd Try.f24)) 4)) (lP6 wb hv hk) [lcV 0,lcV 1,iV i,bdV n,iV n_,iV j,sfV b l,iV l,iV k] m [obPl nb nr sl,obFa 0 0 0] []=bif decide ((↑k:Int)<(↑l:Int)) then m.p.bodies[b]?.bind fun (val:List Step)=>if 0+l≤val.length∧(0:Int)≤(↑k:Int)∧(↑k:Int)<(↑l:Int) then m.p.bodies[b]?.bind fun (val:List Step)=>(List.map stepRow val)[0+(↑k:Int).toNat]?.bind fun (val:List Int)=>bif !stepB nb nr (val.getD 0 (0:Int)) (val.getD (0+1) (0:Int)) (val.getD (0+1+1) (0:Int)) (val.getD (0+1+1+1) (0:Int)) (val.getD (0+1+1+1+1) (0:Int)) then some (retM [(1,TV.l (AL.p (Tg.loc 0) 0 1 0)),(2,TV.l (AL.p (Tg.loc 1) 0 1 0)),(73,TV.l (AL.sl (Tg.m TI.bodies) 0 1 n)),(74,TV.l (AL.v (Value.int IntKind.i64 n_))),(75,TV.l (AL.v (Value.int IntKind.i64 j)))] m [{ty:=35,sz:=1,fix:=true,o:=some (LO.cells [AL.sl (Tg.m TI.bodies) 0 1 nb,AL.sl (Tg.m TI.rooms) 0 1 nr,AL.v (Value.int IntKind.i64 sl)]):LObj TI},{ty:=45,sz:=1,fix:=true,o:=some (LO.cells [AL.v (Value.int IntKind.i64 (4:Int)),AL.v (Value.int IntKind.i64 i),AL.v (Value.int IntKind.i64 (↑k:Int))]):LObj (DM wb hv hk).τ}] []) else some (nrmM [(1,TV.l (AL.p (Tg.loc 0) 0 1 0)),(2,TV.l (AL.p (Tg.loc 1) 0 1 0)),(7,TV.l (AL.v (Value.int IntKind.i64 i))),(73,TV.l (AL.sl (Tg.m TI.bodies) 0 1 n)),(74,TV.l (AL.v (Value.int IntKind.i64 n_))),(75,TV.l (AL.v (Value.int IntKind.i64 j))),(81,TV.l (AL.sl (Tg.m (TI.steps b)) 0 5 l)),(82,TV.l (AL.v (Value.int IntKind.i64 (↑l:Int)))),(83,TV.l (AL.v (Value.int IntKind.i64 (IntKind.i64.wrap ((↑k:Int)+(1:Int))))))] m [{ty:=35,sz:=1,fix:=true,o:=some (LO.cells [AL.sl (Tg.m TI.bodies) 0 1 nb,AL.sl (Tg.m TI.rooms) 0 1 nr,AL.v (Value.int IntKind.i64 sl)]):LObj TI},{ty:=45,sz:=1,fix:=true,o:=some (LO.cells [AL.v (Value.int IntKind.i64 (0:Int)),AL.v (Value.int IntKind.i64 (0:Int)),AL.v (Value.int IntKind.i64 (0:Int))]):LObj TI}] []) else none else some (exM 6 [(1,TV.l (AL.p (Tg.loc 0) 0 1 0)),(2,TV.l (AL.p (Tg.loc 1) 0 1 0)),(73,TV.l (AL.sl (Tg.m TI.bodies) 0 1 n)),(74,TV.l (AL.v (Value.int IntKind.i64 n_))),(75,TV.l (AL.v (Value.int IntKind.i64 j)))] m [{ty:=35,sz:=1,fix:=true,o:=some (LO.cells [AL.sl (Tg.m TI.bodies) 0 1 nb,AL.sl (Tg.m TI.rooms) 0 1 nr,AL.v (Value.int IntKind.i64 sl)]):LObj TI},{ty:=45,sz:=1,fix:=true,o:=some (LO.cells [AL.v (Value.int IntKind.i64 (0:Int)),AL.v (Value.int IntKind.i64 (0:Int)),AL.v (Value.int IntKind.i64 (0:Int))]):LObj TI}] []):=by kernel_rfl
theorem raw24b {wb:Nat}{hv:Value}{hk:Option Int}(m:IM)(nb nr n j:Nat)(sl:Int):roundM (wb:=wb) (hv:=hv) (hk:=hk) (noOp _) (tabA.at [] []) [] [lP6 wb hv hk] wk0 600 Try.f24 (loopsOf (bd Try.f24)) (lP4 wb hv hk) [lcV 0,lcV 1,bdV n,iV n,iV j] m [obPl nb nr sl,obFa 0 0 0] []=bif decide ((↑j:Int)<(↑n:Int)) then if 0+n≤m.p.bodies.length∧(0:Int)≤(↑j:Int)∧(↑j:Int)<(↑n:Int) then m.p.bodies[0+(↑j:Int).toNat]?.bind fun (val:List Step)=>m.p.bodies[0+(↑j:Int).toNat]?.bind fun (val_1:List Step)=>if nb=m.p.bodies.length∧nr=m.p.rooms.length∧(↑val.length:Int)=(↑val.length:Int)∧val.length=val_1.length∧val.length<1000000 then (badIn m.p val_1 0).elim (some (nrmM [(1,TV.l (AL.p (Tg.loc 0) 0 1 0)),(2,TV.l (AL.p (Tg.loc 1) 0 1 0)),(73,TV.l (AL.sl (Tg.m TI.bodies) 0 1 n)),(74,TV.l (AL.v (Value.int IntKind.i64 (↑n:Int)))),(75,TV.l (AL.v (Value.int IntKind.i64 (IntKind.i64.wrap ((↑j:Int)+(1:Int))))))] m [{ty:=35,sz:=1,fix:=true,o:=some (LO.cells [AL.sl (Tg.m TI.bodies) 0 1 nb,AL.sl (Tg.m TI.rooms) 0 1 nr,AL.v (Value.int IntKind.i64 sl)]):LObj TI},{ty:=45,sz:=1,fix:=true,o:=some (LO.cells [AL.v (Value.int IntKind.i64 (0:Int)),AL.v (Value.int IntKind.i64 (0:Int)),AL.v (Value.int IntKind.i64 (0:Int))]):LObj TI}] [])) fun (val:Nat)=>some (retM [(1,TV.l (AL.p (Tg.loc 0) 0 1 0)),(2,TV.l (AL.p (Tg.loc 1) 0 1 0))] m [{ty:=35,sz:=1,fix:=true,o:=some (LO.cells [AL.sl (Tg.m TI.bodies) 0 1 nb,AL.sl (Tg.m TI.rooms) 0 1 nr,AL.v (Value.int IntKind.i64 sl)]):LObj TI},{ty:=45,sz:=1,fix:=true,o:=some (LO.cells [AL.v (Value.int IntKind.i64 (4:Int)),AL.v (Value.int IntKind.i64 (↑j:Int)),AL.v (Value.int IntKind.i64 (↑val:Int))]):LObj TI}] []) else none else none else some (exM 4 [(1,TV.l (AL.p (Tg.loc 0) 0 1 0)),(2,TV.l (AL.p (Tg.loc 1) 0 1 0))] m [{ty:=35,sz:=1,fix:=true,o:=some (LO.cells [AL.sl (Tg.m TI.bodies) 0 1 nb,AL.sl (Tg.m TI.rooms) 0 1 nr,AL.v (Value.int IntKind.i64 sl)]):LObj TI},{ty:=45,sz:=1,fix:=true,o:=some (LO.cells [AL.v (Value.int IntKind.i64 (0:Int)),AL.v (Value.int IntKind.i64 (0:Int)),AL.v (Value.int IntKind.i64 (0:Int))]):LObj TI}] []):=by kernel_rfl
theorem raw24n {wb:Nat}{hv:Value}{hk:Option Int}(m:IM)(nb nr n j:Nat)(sl:Int):roundM (wb:=wb) (hv:=hv) (hk:=hk) (noOp _) (tabA.at [] []) [] [lP10 wb hv hk] wk0 900 Try.f24 (loopsOf (bd Try.f24)) (lP8 wb hv hk) [lcV 0,lcV 1,bdV n,iV n,iV j] m [obPl nb nr sl,obFa 0 0 0] []=bif decide ((↑j:Int)<(↑n:Int)) then if 0+n≤m.p.bodies.length∧(0:Int)≤(↑j:Int)∧(↑j:Int)<(↑n:Int) then m.p.bodies[0+(↑j:Int).toNat]?.bind fun (val:List Step)=>m.p.bodies[0+(↑j:Int).toNat]?.bind fun (val_1:List Step)=>if (↑val.length:Int)=(↑val.length:Int)∧val.length=val_1.length∧(↑val.length:Int)=(↑val.length:Int)∧val.length<1000000 then (nestIn val_1 0 [(↑val.length:Int)]).elim (some (nrmM [(1,TV.l (AL.p (Tg.loc 0) 0 1 0)),(2,TV.l (AL.p (Tg.loc 1) 0 1 0)),(98,TV.l (AL.sl (Tg.m TI.bodies) 0 1 n)),(99,TV.l (AL.v (Value.int IntKind.i64 (↑n:Int)))),(100,TV.l (AL.v (Value.int IntKind.i64 (IntKind.i64.wrap ((↑j:Int)+(1:Int))))))] m [{ty:=35,sz:=1,fix:=true,o:=some (LO.cells [AL.sl (Tg.m TI.bodies) 0 1 nb,AL.sl (Tg.m TI.rooms) 0 1 nr,AL.v (Value.int IntKind.i64 sl)]):LObj TI},{ty:=45,sz:=1,fix:=true,o:=some (LO.cells [AL.v (Value.int IntKind.i64 (0:Int)),AL.v (Value.int IntKind.i64 (0:Int)),AL.v (Value.int IntKind.i64 (0:Int))]):LObj TI}] [])) fun (val:Int×Nat)=>some (retM [(1,TV.l (AL.p (Tg.loc 0) 0 1 0)),(2,TV.l (AL.p (Tg.loc 1) 0 1 0))] m [{ty:=35,sz:=1,fix:=true,o:=some (LO.cells [AL.sl (Tg.m TI.bodies) 0 1 nb,AL.sl (Tg.m TI.rooms) 0 1 nr,AL.v (Value.int IntKind.i64 sl)]):LObj TI},{ty:=45,sz:=1,fix:=true,o:=some (LO.cells [AL.v (Value.int IntKind.i64 val.fst),AL.v (Value.int IntKind.i64 (↑j:Int)),AL.v (Value.int IntKind.i64 (↑val.snd:Int))]):LObj TI}] []) else none else none else some (exM 8 [(1,TV.l (AL.p (Tg.loc 0) 0 1 0)),(2,TV.l (AL.p (Tg.loc 1) 0 1 0))] m [{ty:=35,sz:=1,fix:=true,o:=some (LO.cells [AL.sl (Tg.m TI.bodies) 0 1 nb,AL.sl (Tg.m TI.rooms) 0 1 nr,AL.v (Value.int IntKind.i64 sl)]):LObj TI},{ty:=45,sz:=1,fix:=true,o:=some (LO.cells [AL.v (Value.int IntKind.i64 (0:Int)),AL.v (Value.int IntKind.i64 (0:Int)),AL.v (Value.int IntKind.i64 (0:Int))]):LObj TI}] []):=by kernel_rfl
theorem raw24i1 {wb:Nat}{hv:Value}{hk:Option Int}(m:IM)(nb nr n b l k:Nat)(sl x i n_ j:Int):roundM (wb:=wb) (hv:=hv) (hk:=hk) (noOp _) (tabA.at [] []) [] [lP12 wb hv hk] wk0 900 Try.f24 (loopsOf (loopC (loopsOf (bd Try.f24)) 8)) (lP10 wb hv hk) [lcV 0,lcV 1,iV i,.l (.sl (.loc 2) 0 1 1),bdV n,iV n_,iV j,sfV b l,iV l,iV k] m [obPl nb nr sl,obFa 0 0 0,obE1 x] []=bif decide ((↑k:Int)<(↑l:Int)) then m.p.bodies[b]?.bind fun (val:List Step)=>if 0+l≤val.length∧(0:Int)≤(↑k:Int)∧(↑k:Int)<(↑l:Int) then m.p.bodies[b]?.bind fun (val:List Step)=>(List.map stepRow val)[0+(↑k:Int).toNat]?.bind fun (val:List Int)=>bif val.getD 0 (0:Int) !=(15:Int) then bif val.getD 0 (0:Int) !=(16:Int) then some (nrmM [(1,TV.l (AL.p (Tg.loc 0) 0 1 0)),(2,TV.l (AL.p (Tg.loc 1) 0 1 0)),(11,TV.l (AL.v (Value.int IntKind.i64 i))),(13,TV.l (AL.sl (Tg.loc 2) 0 1 1)),(98,TV.l (AL.sl (Tg.m TI.bodies) 0 1 n)),(99,TV.l (AL.v (Value.int IntKind.i64 n_))),(100,TV.l (AL.v (Value.int IntKind.i64 j))),(110,TV.l (AL.sl (Tg.m (TI.steps b)) 0 5 l)),(111,TV.l (AL.v (Value.int IntKind.i64 (↑l:Int)))),(112,TV.l (AL.v (Value.int IntKind.i64 (IntKind.i64.wrap ((↑k:Int)+(1:Int))))))] m [{ty:=35,sz:=1,fix:=true,o:=some (LO.cells [AL.sl (Tg.m TI.bodies) 0 1 nb,AL.sl (Tg.m TI.rooms) 0 1 nr,AL.v (Value.int IntKind.i64 sl)]):LObj TI},{ty:=45,sz:=1,fix:=true,o:=some (LO.cells [AL.v (Value.int IntKind.i64 (0:Int)),AL.v (Value.int IntKind.i64 (0:Int)),AL.v (Value.int IntKind.i64 (0:Int))]):LObj TI},{ty:=3,sz:=1,fix:=false,o:=some (LO.cells [AL.v (Value.int IntKind.i64 x)]):LObj TI}] []) else bif decide (val.getD (0+1+1+1+1) (0:Int)>IntKind.i64.wrap (IntKind.i64.wrap (x - (↑k:Int)) - (1:Int))) then some (retM [(1,TV.l (AL.p (Tg.loc 0) 0 1 0)),(2,TV.l (AL.p (Tg.loc 1) 0 1 0)),(98,TV.l (AL.sl (Tg.m TI.bodies) 0 1 n)),(99,TV.l (AL.v (Value.int IntKind.i64 n_))),(100,TV.l (AL.v (Value.int IntKind.i64 j)))] m [{ty:=35,sz:=1,fix:=true,o:=some (LO.cells [AL.sl (Tg.m TI.bodies) 0 1 nb,AL.sl (Tg.m TI.rooms) 0 1 nr,AL.v (Value.int IntKind.i64 sl)]):LObj TI},{ty:=45,sz:=1,fix:=true,o:=some (LO.cells [AL.v (Value.int IntKind.i64 (5:Int)),AL.v (Value.int IntKind.i64 i),AL.v (Value.int IntKind.i64 (↑k:Int))]):LObj (DM wb hv hk).τ}] []) else some (nrmM [(1,TV.l (AL.p (Tg.loc 0) 0 1 0)),(2,TV.l (AL.p (Tg.loc 1) 0 1 0)),(11,TV.l (AL.v (Value.int IntKind.i64 i))),(13,TV.l (AL.sl (Tg.loc 2) 0 1 2)),(98,TV.l (AL.sl (Tg.m TI.bodies) 0 1 n)),(99,TV.l (AL.v (Value.int IntKind.i64 n_))),(100,TV.l (AL.v (Value.int IntKind.i64 j))),(110,TV.l (AL.sl (Tg.m (TI.steps b)) 0 5 l)),(111,TV.l (AL.v (Value.int IntKind.i64 (↑l:Int)))),(112,TV.l (AL.v (Value.int IntKind.i64 (IntKind.i64.wrap ((↑k:Int)+(1:Int))))))] m [{ty:=35,sz:=1,fix:=true,o:=some (LO.cells [AL.sl (Tg.m TI.bodies) 0 1 nb,AL.sl (Tg.m TI.rooms) 0 1 nr,AL.v (Value.int IntKind.i64 sl)]):LObj TI},{ty:=45,sz:=1,fix:=true,o:=some (LO.cells [AL.v (Value.int IntKind.i64 (0:Int)),AL.v (Value.int IntKind.i64 (0:Int)),AL.v (Value.int IntKind.i64 (0:Int))]):LObj TI},{ty:=3,sz:=1,fix:=false,o:=some (LO.ints IntKind.i64 [x,IntKind.i64.wrap (IntKind.i64.wrap ((↑k:Int)+(1:Int))+val.getD (0+1+1+1+1) (0:Int))]):LObj (DM wb hv hk).τ}] []) else bif decide (val.getD (0+1+1+1+1) (0:Int)>IntKind.i64.wrap (IntKind.i64.wrap (x - (↑k:Int)) - (1:Int))) then some (retM [(1,TV.l (AL.p (Tg.loc 0) 0 1 0)),(2,TV.l (AL.p (Tg.loc 1) 0 1 0)),(98,TV.l (AL.sl (Tg.m TI.bodies) 0 1 n)),(99,TV.l (AL.v (Value.int IntKind.i64 n_))),(100,TV.l (AL.v (Value.int IntKind.i64 j)))] m [{ty:=35,sz:=1,fix:=true,o:=some (LO.cells [AL.sl (Tg.m TI.bodies) 0 1 nb,AL.sl (Tg.m TI.rooms) 0 1 nr,AL.v (Value.int IntKind.i64 sl)]):LObj TI},{ty:=45,sz:=1,fix:=true,o:=some (LO.cells [AL.v (Value.int IntKind.i64 (5:Int)),AL.v (Value.int IntKind.i64 i),AL.v (Value.int IntKind.i64 (↑k:Int))]):LObj (DM wb hv hk).τ}] []) else some (nrmM [(1,TV.l (AL.p (Tg.loc 0) 0 1 0)),(2,TV.l (AL.p (Tg.loc 1) 0 1 0)),(11,TV.l (AL.v (Value.int IntKind.i64 i))),(13,TV.l (AL.sl (Tg.loc 2) 0 1 2)),(98,TV.l (AL.sl (Tg.m TI.bodies) 0 1 n)),(99,TV.l (AL.v (Value.int IntKind.i64 n_))),(100,TV.l (AL.v (Value.int IntKind.i64 j))),(110,TV.l (AL.sl (Tg.m (TI.steps b)) 0 5 l)),(111,TV.l (AL.v (Value.int IntKind.i64 (↑l:Int)))),(112,TV.l (AL.v (Value.int IntKind.i64 (IntKind.i64.wrap ((↑k:Int)+(1:Int))))))] m [{ty:=35,sz:=1,fix:=true,o:=some (LO.cells [AL.sl (Tg.m TI.bodies) 0 1 nb,AL.sl (Tg.m TI.rooms) 0 1 nr,AL.v (Value.int IntKind.i64 sl)]):LObj TI},{ty:=45,sz:=1,fix:=true,o:=some (LO.cells [AL.v (Value.int IntKind.i64 (0:Int)),AL.v (Value.int IntKind.i64 (0:Int)),AL.v (Value.int IntKind.i64 (0:Int))]):LObj TI},{ty:=3,sz:=1,fix:=false,o:=some (LO.ints IntKind.i64 [x,IntKind.i64.wrap (IntKind.i64.wrap ((↑k:Int)+(1:Int))+val.getD (0+1+1+1+1) (0:Int))]):LObj (DM wb hv hk).τ}] []) else none else some (exM 10 [(1,TV.l (AL.p (Tg.loc 0) 0 1 0)),(2,TV.l (AL.p (Tg.loc 1) 0 1 0)),(98,TV.l (AL.sl (Tg.m TI.bodies) 0 1 n)),(99,TV.l (AL.v (Value.int IntKind.i64 n_))),(100,TV.l (AL.v (Value.int IntKind.i64 j)))] m [{ty:=35,sz:=1,fix:=true,o:=some (LO.cells [AL.sl (Tg.m TI.bodies) 0 1 nb,AL.sl (Tg.m TI.rooms) 0 1 nr,AL.v (Value.int IntKind.i64 sl)]):LObj TI},{ty:=45,sz:=1,fix:=true,o:=some (LO.cells [AL.v (Value.int IntKind.i64 (0:Int)),AL.v (Value.int IntKind.i64 (0:Int)),AL.v (Value.int IntKind.i64 (0:Int))]):LObj TI}] []):=by kernel_rfl
theorem raw24i2 {wb:Nat}{hv:Value}{hk:Option Int}(m:IM)(nb nr n b l k q:Nat)(sl i n_ j:Int)(ys:List Int):roundM (wb:=wb) (hv:=hv) (hk:=hk) (noOp _) (tabA.at [] []) [] [lP12 wb hv hk] wk0 900 Try.f24 (loopsOf (loopC (loopsOf (bd Try.f24)) 8)) (lP10 wb hv hk) [lcV 0,lcV 1,iV i,.l (.sl (.loc 2) 0 1 q),bdV n,iV n_,iV j,sfV b l,iV l,iV k] m [obPl nb nr sl,obFa 0 0 0,obE ys] []=bif decide ((↑k:Int)<(↑l:Int)) then m.p.bodies[b]?.bind fun (val:List Step)=>if 0+l≤val.length∧(0:Int)≤(↑k:Int)∧(↑k:Int)<(↑l:Int) then m.p.bodies[b]?.bind fun (val:List Step)=>(List.map stepRow val)[0+(↑k:Int).toNat]?.bind fun (val:List Int)=>if q≤ys.length∧ys.length<1000000 then bif val.getD 0 (0:Int) !=(15:Int) then bif val.getD 0 (0:Int) !=(16:Int) then some (nrmM [(1,TV.l (AL.p (Tg.loc 0) 0 1 0)),(2,TV.l (AL.p (Tg.loc 1) 0 1 0)),(11,TV.l (AL.v (Value.int IntKind.i64 i))),(13,TV.l (AL.sl (Tg.loc 2) 0 1 (popN (↑k:Int) ys q))),(98,TV.l (AL.sl (Tg.m TI.bodies) 0 1 n)),(99,TV.l (AL.v (Value.int IntKind.i64 n_))),(100,TV.l (AL.v (Value.int IntKind.i64 j))),(110,TV.l (AL.sl (Tg.m (TI.steps b)) 0 5 l)),(111,TV.l (AL.v (Value.int IntKind.i64 (↑l:Int)))),(112,TV.l (AL.v (Value.int IntKind.i64 (IntKind.i64.wrap ((↑k:Int)+(1:Int))))))] m [{ty:=35,sz:=1,fix:=true,o:=some (LO.cells [AL.sl (Tg.m TI.bodies) 0 1 nb,AL.sl (Tg.m TI.rooms) 0 1 nr,AL.v (Value.int IntKind.i64 sl)]):LObj TI},{ty:=45,sz:=1,fix:=true,o:=some (LO.cells [AL.v (Value.int IntKind.i64 (0:Int)),AL.v (Value.int IntKind.i64 (0:Int)),AL.v (Value.int IntKind.i64 (0:Int))]):LObj TI},{ty:=3,sz:=1,fix:=false,o:=some (LO.ints IntKind.i64 ys):LObj TI}] []) else if 0+popN (↑k:Int) ys q≤ys.length∧(0:Int)≤IntKind.i64.wrap ((↑(popN (↑k:Int) ys q):Int) - (1:Int))∧IntKind.i64.wrap ((↑(popN (↑k:Int) ys q):Int) - (1:Int))<(↑(popN (↑k:Int) ys q):Int) then ys[0+(IntKind.i64.wrap ((↑(popN (↑k:Int) ys q):Int) - (1:Int))).toNat]?.bind fun (val_1:Int)=>bif decide (val.getD (0+1+1+1+1) (0:Int)>IntKind.i64.wrap (IntKind.i64.wrap (val_1 - (↑k:Int)) - (1:Int))) then some (retM [(1,TV.l (AL.p (Tg.loc 0) 0 1 0)),(2,TV.l (AL.p (Tg.loc 1) 0 1 0)),(98,TV.l (AL.sl (Tg.m TI.bodies) 0 1 n)),(99,TV.l (AL.v (Value.int IntKind.i64 n_))),(100,TV.l (AL.v (Value.int IntKind.i64 j)))] m [{ty:=35,sz:=1,fix:=true,o:=some (LO.cells [AL.sl (Tg.m TI.bodies) 0 1 nb,AL.sl (Tg.m TI.rooms) 0 1 nr,AL.v (Value.int IntKind.i64 sl)]):LObj TI},{ty:=45,sz:=1,fix:=true,o:=some (LO.cells [AL.v (Value.int IntKind.i64 (5:Int)),AL.v (Value.int IntKind.i64 i),AL.v (Value.int IntKind.i64 (↑k:Int))]):LObj (DM wb hv hk).τ}] []) else bif decide (IntKind.i64.wrap ((↑(popN (↑k:Int) ys q):Int) - (1:Int))≥(10:Int)) then some (retM [(1,TV.l (AL.p (Tg.loc 0) 0 1 0)),(2,TV.l (AL.p (Tg.loc 1) 0 1 0)),(98,TV.l (AL.sl (Tg.m TI.bodies) 0 1 n)),(99,TV.l (AL.v (Value.int IntKind.i64 n_))),(100,TV.l (AL.v (Value.int IntKind.i64 j)))] m [{ty:=35,sz:=1,fix:=true,o:=some (LO.cells [AL.sl (Tg.m TI.bodies) 0 1 nb,AL.sl (Tg.m TI.rooms) 0 1 nr,AL.v (Value.int IntKind.i64 sl)]):LObj TI},{ty:=45,sz:=1,fix:=true,o:=some (LO.cells [AL.v (Value.int IntKind.i64 (6:Int)),AL.v (Value.int IntKind.i64 i),AL.v (Value.int IntKind.i64 (↑k:Int))]):LObj (DM wb hv hk).τ}] []) else if 0+popN (↑k:Int) ys q≤ys.length∧(popN (↑k:Int) ys q+1)*8≤140737488355328∧popN (↑k:Int) ys q+1≤9223372036854775807 then bif (List.take (popN (↑k:Int) ys q) (List.drop 0 ys)++[IntKind.i64.wrap (IntKind.i64.wrap ((↑k:Int)+(1:Int))+val.getD (0+1+1+1+1) (0:Int))]).length.ble 9223372036854775807 then some (nrmM [(1,TV.l (AL.p (Tg.loc 0) 0 1 0)),(2,TV.l (AL.p (Tg.loc 1) 0 1 0)),(11,TV.l (AL.v (Value.int IntKind.i64 i))),(13,TV.l (AL.sl (Tg.loc 2) 0 1 (popN (↑k:Int) ys q+1))),(98,TV.l (AL.sl (Tg.m TI.bodies) 0 1 n)),(99,TV.l (AL.v (Value.int IntKind.i64 n_))),(100,TV.l (AL.v (Value.int IntKind.i64 j))),(110,TV.l (AL.sl (Tg.m (TI.steps b)) 0 5 l)),(111,TV.l (AL.v (Value.int IntKind.i64 (↑l:Int)))),(112,TV.l (AL.v (Value.int IntKind.i64 (IntKind.i64.wrap ((↑k:Int)+(1:Int))))))] m [{ty:=35,sz:=1,fix:=true,o:=some (LO.cells [AL.sl (Tg.m TI.bodies) 0 1 nb,AL.sl (Tg.m TI.rooms) 0 1 nr,AL.v (Value.int IntKind.i64 sl)]):LObj TI},{ty:=45,sz:=1,fix:=true,o:=some (LO.cells [AL.v (Value.int IntKind.i64 (0:Int)),AL.v (Value.int IntKind.i64 (0:Int)),AL.v (Value.int IntKind.i64 (0:Int))]):LObj TI},{ty:=3,sz:=1,fix:=false,o:=some (LO.ints IntKind.i64 (List.take (popN (↑k:Int) ys q) (List.drop 0 ys)++[IntKind.i64.wrap (IntKind.i64.wrap ((↑k:Int)+(1:Int))+val.getD (0+1+1+1+1) (0:Int))])):LObj (DM wb hv hk).τ}] []) else none else none else none else if 0+popN (↑k:Int) ys q≤ys.length∧(0:Int)≤IntKind.i64.wrap ((↑(popN (↑k:Int) ys q):Int) - (1:Int))∧IntKind.i64.wrap ((↑(popN (↑k:Int) ys q):Int) - (1:Int))<(↑(popN (↑k:Int) ys q):Int) then ys[0+(IntKind.i64.wrap ((↑(popN (↑k:Int) ys q):Int) - (1:Int))).toNat]?.bind fun (val_1:Int)=>bif decide (val.getD (0+1+1+1+1) (0:Int)>IntKind.i64.wrap (IntKind.i64.wrap (val_1 - (↑k:Int)) - (1:Int))) then some (retM [(1,TV.l (AL.p (Tg.loc 0) 0 1 0)),(2,TV.l (AL.p (Tg.loc 1) 0 1 0)),(98,TV.l (AL.sl (Tg.m TI.bodies) 0 1 n)),(99,TV.l (AL.v (Value.int IntKind.i64 n_))),(100,TV.l (AL.v (Value.int IntKind.i64 j)))] m [{ty:=35,sz:=1,fix:=true,o:=some (LO.cells [AL.sl (Tg.m TI.bodies) 0 1 nb,AL.sl (Tg.m TI.rooms) 0 1 nr,AL.v (Value.int IntKind.i64 sl)]):LObj TI},{ty:=45,sz:=1,fix:=true,o:=some (LO.cells [AL.v (Value.int IntKind.i64 (5:Int)),AL.v (Value.int IntKind.i64 i),AL.v (Value.int IntKind.i64 (↑k:Int))]):LObj (DM wb hv hk).τ}] []) else bif decide (IntKind.i64.wrap ((↑(popN (↑k:Int) ys q):Int) - (1:Int))≥(10:Int)) then some (retM [(1,TV.l (AL.p (Tg.loc 0) 0 1 0)),(2,TV.l (AL.p (Tg.loc 1) 0 1 0)),(98,TV.l (AL.sl (Tg.m TI.bodies) 0 1 n)),(99,TV.l (AL.v (Value.int IntKind.i64 n_))),(100,TV.l (AL.v (Value.int IntKind.i64 j)))] m [{ty:=35,sz:=1,fix:=true,o:=some (LO.cells [AL.sl (Tg.m TI.bodies) 0 1 nb,AL.sl (Tg.m TI.rooms) 0 1 nr,AL.v (Value.int IntKind.i64 sl)]):LObj TI},{ty:=45,sz:=1,fix:=true,o:=some (LO.cells [AL.v (Value.int IntKind.i64 (6:Int)),AL.v (Value.int IntKind.i64 i),AL.v (Value.int IntKind.i64 (↑k:Int))]):LObj (DM wb hv hk).τ}] []) else if 0+popN (↑k:Int) ys q≤ys.length∧(popN (↑k:Int) ys q+1)*8≤140737488355328∧popN (↑k:Int) ys q+1≤9223372036854775807 then bif (List.take (popN (↑k:Int) ys q) (List.drop 0 ys)++[IntKind.i64.wrap (IntKind.i64.wrap ((↑k:Int)+(1:Int))+val.getD (0+1+1+1+1) (0:Int))]).length.ble 9223372036854775807 then some (nrmM [(1,TV.l (AL.p (Tg.loc 0) 0 1 0)),(2,TV.l (AL.p (Tg.loc 1) 0 1 0)),(11,TV.l (AL.v (Value.int IntKind.i64 i))),(13,TV.l (AL.sl (Tg.loc 2) 0 1 (popN (↑k:Int) ys q+1))),(98,TV.l (AL.sl (Tg.m TI.bodies) 0 1 n)),(99,TV.l (AL.v (Value.int IntKind.i64 n_))),(100,TV.l (AL.v (Value.int IntKind.i64 j))),(110,TV.l (AL.sl (Tg.m (TI.steps b)) 0 5 l)),(111,TV.l (AL.v (Value.int IntKind.i64 (↑l:Int)))),(112,TV.l (AL.v (Value.int IntKind.i64 (IntKind.i64.wrap ((↑k:Int)+(1:Int))))))] m [{ty:=35,sz:=1,fix:=true,o:=some (LO.cells [AL.sl (Tg.m TI.bodies) 0 1 nb,AL.sl (Tg.m TI.rooms) 0 1 nr,AL.v (Value.int IntKind.i64 sl)]):LObj TI},{ty:=45,sz:=1,fix:=true,o:=some (LO.cells [AL.v (Value.int IntKind.i64 (0:Int)),AL.v (Value.int IntKind.i64 (0:Int)),AL.v (Value.int IntKind.i64 (0:Int))]):LObj TI},{ty:=3,sz:=1,fix:=false,o:=some (LO.ints IntKind.i64 (List.take (popN (↑k:Int) ys q) (List.drop 0 ys)++[IntKind.i64.wrap (IntKind.i64.wrap ((↑k:Int)+(1:Int))+val.getD (0+1+1+1+1) (0:Int))])):LObj (DM wb hv hk).τ}] []) else none else none else none else none else none else some (exM 10 [(1,TV.l (AL.p (Tg.loc 0) 0 1 0)),(2,TV.l (AL.p (Tg.loc 1) 0 1 0)),(98,TV.l (AL.sl (Tg.m TI.bodies) 0 1 n)),(99,TV.l (AL.v (Value.int IntKind.i64 n_))),(100,TV.l (AL.v (Value.int IntKind.i64 j)))] m [{ty:=35,sz:=1,fix:=true,o:=some (LO.cells [AL.sl (Tg.m TI.bodies) 0 1 nb,AL.sl (Tg.m TI.rooms) 0 1 nr,AL.v (Value.int IntKind.i64 sl)]):LObj TI},{ty:=45,sz:=1,fix:=true,o:=some (LO.cells [AL.v (Value.int IntKind.i64 (0:Int)),AL.v (Value.int IntKind.i64 (0:Int)),AL.v (Value.int IntKind.i64 (0:Int))]):LObj TI}] []):=by kernel_rfl
theorem raw24 {wb:Nat}{hv:Value}{hk:Option Int}(m:IM)(nb nr:Nat)(sl:Int):runM (wb:=wb) (hv:=hv) (hk:=hk) (noOp _) (tabA.at [] []) [] [lP0 wb hv hk,lP2 wb hv hk,lP4 wb hv hk,lP8 wb hv hk] wk0 900 Try.f24 [plnV nb nr sl] m=bif (↑nb:Int)==(0:Int) then some (okM (TV.agg [AL.v (Value.int IntKind.i64 (1:Int)),AL.v (Value.int IntKind.i64 (0:Int)),AL.v (Value.int IntKind.i64 (0:Int))]) m []) else bif decide ((↑nb:Int)>(20:Int)) then some (okM (TV.agg [AL.v (Value.int IntKind.i64 (1:Int)),AL.v (Value.int IntKind.i64 (0:Int)),AL.v (Value.int IntKind.i64 (0:Int))]) m []) else bif decide ((↑nr:Int)>(10:Int)) then some (okM (TV.agg [AL.v (Value.int IntKind.i64 (2:Int)),AL.v (Value.int IntKind.i64 (0:Int)),AL.v (Value.int IntKind.i64 (0:Int))]) m []) else bif decide (sl<(1:Int)) then some (okM (TV.agg [AL.v (Value.int IntKind.i64 (2:Int)),AL.v (Value.int IntKind.i64 (0:Int)),AL.v (Value.int IntKind.i64 (0:Int))]) m []) else bif decide (sl>(100:Int)) then some (okM (TV.agg [AL.v (Value.int IntKind.i64 (2:Int)),AL.v (Value.int IntKind.i64 (0:Int)),AL.v (Value.int IntKind.i64 (0:Int))]) m []) else if (↑nr:Int)=(↑nr:Int)∧nr=m.p.rooms.length∧nr<1000000 then bif roomsOkI m.p.rooms then if (↑nb:Int)=(↑nb:Int)∧nb=m.p.bodies.length∧nb<1000000 then (longI m.p.bodies 0).elim (if (↑nb:Int)=(↑nb:Int)∧nb=m.p.bodies.length∧nb<1000000∧nb=nb∧nr=m.p.rooms.length∧∀(l:List Step),l∈m.p.bodies→l.length<1000000 then (badI m.p m.p.bodies 0).elim (if (↑nb:Int)=(↑nb:Int)∧nb=m.p.bodies.length∧nb<1000000∧∀(l:List Step),l∈m.p.bodies→l.length<1000000 then (nestI m.p.bodies 0).elim (some (okM (TV.agg [AL.v (Value.int IntKind.i64 (0:Int)),AL.v (Value.int IntKind.i64 (0:Int)),AL.v (Value.int IntKind.i64 (0:Int))]) m [])) fun (val:Int×Nat×Nat)=>some (okM (TV.agg [AL.v (Value.int IntKind.i64 val.fst),AL.v (Value.int IntKind.i64 (↑val.snd.fst:Int)),AL.v (Value.int IntKind.i64 (↑val.snd.snd:Int))]) m []) else none) fun (val:Nat×Nat)=>some (okM (TV.agg [AL.v (Value.int IntKind.i64 (4:Int)),AL.v (Value.int IntKind.i64 (↑val.fst:Int)),AL.v (Value.int IntKind.i64 (↑val.snd:Int))]) m []) else none) fun (val:Nat)=>some (okM (TV.agg [AL.v (Value.int IntKind.i64 (3:Int)),AL.v (Value.int IntKind.i64 (↑val:Int)),AL.v (Value.int IntKind.i64 (0:Int))]) m []) else none else some (okM (TV.agg [AL.v (Value.int IntKind.i64 (2:Int)),AL.v (Value.int IntKind.i64 (0:Int)),AL.v (Value.int IntKind.i64 (0:Int))]) m []) else none:=by kernel_rfl
theorem stepok_ok:CtrOk (D:=DM wb hv hk) PG 65 (cStepOk wb hv hk):=fun vs st κ x h0=>by
 simp only[cStepOk] at h0
 split at h0
 ·refine⟨_,_,_,_,_,h0,of_decide_eq_true rfl,fun S w R=>?_⟩
  rename_i nb nr sl op a b n z
  refine (_root_.Go.BeatS.step_says _ _ _ _ _ _ sl op a b n z w).mono fun e w'=>?_
  rintro⟨u,rfl,rfl,k⟩
  have hk:∀b,b<w.heap.size→w'.heap[b]?=w.heap[b]?:=fun b hb=>k.keep b hb rfl
  have hE:Evn S w S w':=⟨⟨k.os,k.tape,k.output,k.size,fun _ _=>Iff.rfl,fun b hb _=>hk b hb⟩,fun b es cl hb=>(hk b (Array.getElem?_eq_some_iff.1 hb).1).trans hb⟩;exact⟨S,rfl,R.step (mdI_ok _) hE (fun t cs ht=>(R.H t cs ht).other rfl (fun _ _ h=>h) fun b hb _=>hk b hb) (fun b hb=>R.fresh b (Nat.le_trans k.size hb)) (fun _ _=>rfl) rfl (fun _ _ h=>h) fun _ _ h=>h⟩
 ·cases h0
theorem get_mid {α:Type}{xs pre rest:List α}{t:α}(h:xs=pre++t::rest):xs[pre.length]?=some t∧pre.length<xs.length:=by subst h;simp
theorem rooms_iter (m:IM)(hn:m.p.rooms.length<1000000)(nb nr:Nat)(sl:Int):∀(rest pre:List Int),m.p.rooms=pre++rest→
  iterM (wb:=wb) (hv:=hv) (hk:=hk) (noOp _) (tabA.at [] []) [] [] wk0 600 Try.f24 (loopsOf (bd Try.f24)) (lP0 wb hv hk) (rest.length+1) [lcV 0,lcV 1,.l (.sl (.m .rooms) 0 1 m.p.rooms.length),iV m.p.rooms.length,iV pre.length] m [obPl nb nr sl,obFa 0 0 0] []=
   some (bif roomsOkI rest then exM 0 fr12 m [obPl nb nr sl,obFa 0 0 0] [] else retM fr12 m [obPl nb nr sl,obFa 2 0 0] [])
 |[],pre,h=>by
  refine iterM_exit ?_ (fun s h=>by cases h)
  rw[raw24r];simp only[List.append_nil] at h;simp[h,roomsOkI]
 |e::rest,pre,h=>by
  have ih:=rooms_iter m hn nb nr sl rest (pre++[e]) (by simp[h]);obtain⟨hg,hlt⟩:=get_mid h
  have hlt':(pre.length:Int)<(m.p.rooms.length:Int):=by omega
  have he:=(List.getElem?_eq_some_iff.1 hg).2;have hw:=wrap_succ (j:=pre.length) (by omega)
  by_cases c1:e<0
  ·have e1:roomsOkI (e::rest)=false:=by simp only[roomsOkI,List.all_cons,decide_eq_false (show ¬(0:Int)≤e by omega),Bool.false_and]
   rw[e1]
   refine iterM_exit ?_ (fun s h=>by cases h)
   rw[raw24r];simp[hlt,hlt',he,c1];rfl
  ·by_cases c2:e>10
   ·have e1:roomsOkI (e::rest)=false:=by simp only[roomsOkI,List.all_cons,decide_eq_false (show ¬e≤(10:Int) by omega),Bool.and_false,Bool.false_and]
    rw[e1]
    refine iterM_exit ?_ (fun s h=>by cases h)
    rw[raw24r];simp[hlt,hlt',he,c1,c2];rfl
   ·have e1:roomsOkI (e::rest)=roomsOkI rest:=by simp only[roomsOkI,List.all_cons,decide_eq_true (show (0:Int)≤e by omega),decide_eq_true (show e≤(10:Int) by omega),Bool.true_and]
    rw[e1,←ih]
    refine iterM_succ [lcV 0,lcV 1,.l (.sl (.m .rooms) 0 1 m.p.rooms.length),iV m.p.rooms.length,iV (pre++[e]).length] ?_
    rw[raw24r];simp[hlt,hlt',he,hw,c1,c2,lP0,zipK]
theorem long_iter (m:IM)(hn:m.p.bodies.length<1000000)(nb nr:Nat)(sl:Int):∀(rest pre:List (List _root_.Beat.Step)),m.p.bodies=pre++rest→
  iterM (wb:=wb) (hv:=hv) (hk:=hk) (noOp _) (tabA.at [] []) [] [] wk0 600 Try.f24 (loopsOf (bd Try.f24)) (lP2 wb hv hk) (rest.length+1) [lcV 0,lcV 1,bdV m.p.bodies.length,iV m.p.bodies.length,iV pre.length] m [obPl nb nr sl,obFa 0 0 0] []=
   some (match longI rest pre.length with|none=>exM 2 fr12 m [obPl nb nr sl,obFa 0 0 0] []|some i=>retM fr12 m [obPl nb nr sl,obFa 3 i 0] [])
 |[],pre,h=>by
  refine iterM_exit ?_ (fun s h=>by cases h)
  rw[raw24l];simp only[List.append_nil] at h;simp[h,longI]
 |e::rest,pre,h=>by
  have ih:=long_iter m hn nb nr sl rest (pre++[e]) (by simp[h]);obtain⟨hg,hlt⟩:=get_mid h
  have hlt':(pre.length:Int)<(m.p.bodies.length:Int):=by omega
  have he:=(List.getElem?_eq_some_iff.1 hg).2;have hw:=wrap_succ (j:=pre.length) (by omega)
  by_cases c1:e.length>200
  ·have e1:longI (e::rest) pre.length=some pre.length:=by simp only[longI,if_pos c1]
   rw[e1]
   refine iterM_exit ?_ (fun s h=>by cases h)
   rw[raw24l]
   have c1':(200:Int)<e.length:=by omega
   simp[hlt,hlt',he,c1'];rfl
  ·have e1:longI (e::rest) pre.length=longI rest (pre++[e]).length:=by simp only[longI,if_neg c1,List.length_append,List.length_singleton]
   rw[e1,←ih]
   have c1':¬(200:Int)<e.length:=by omega
   refine iterM_succ [lcV 0,lcV 1,bdV m.p.bodies.length,iV m.p.bodies.length,iV (pre++[e]).length] ?_
   rw[raw24l];simp[hlt,hlt',he,hw,c1',lP2,zipK]
theorem bad_iter (m:IM)(b:Nat)(i n_ j:Int)(st:List _root_.Beat.Step)(hb:m.p.bodies[b]?=some st)(hn:st.length<1000000)(sl:Int)(n:Nat):∀(rest pre:List _root_.Beat.Step),st=pre++rest→
  iterM (wb:=wb) (hv:=hv) (hk:=hk) (noOp _) (tabA.at [] []) [(65,cStepOk wb hv hk)] [] wk0 600 Try.f24 (loopsOf (loopC (loopsOf (bd Try.f24)) 4)) (lP6 wb hv hk) (rest.length+1) [lcV 0,lcV 1,iV i,bdV n,iV n_,iV j,sfV b st.length,iV st.length,iV pre.length] m [obPl m.p.bodies.length m.p.rooms.length sl,obFa 0 0 0] []=
   some (match badIn m.p rest pre.length with|none=>exM 6 [(1,lcV 0),(2,lcV 1),(73,bdV n),(74,iV n_),(75,iV j)] m [obPl m.p.bodies.length m.p.rooms.length sl,obFa 0 0 0] []|some k=>retM [(1,lcV 0),(2,lcV 1),(73,bdV n),(74,iV n_),(75,iV j)] m [obPl m.p.bodies.length m.p.rooms.length sl,obFa 4 i k] [])
 |[],pre,h=>by
  refine iterM_exit ?_ (fun s h=>by cases h)
  rw[raw24s];simp only[List.append_nil] at h;simp[h,badIn]
 |e::rest,pre,h=>by
  have ih:=bad_iter m b i n_ j st hb hn sl n rest (pre++[e]) (by simp[h]);obtain⟨hg,hlt⟩:=get_mid h
  have hlt':(pre.length:Int)<(st.length:Int):=by omega
  have hw:=wrap_succ (j:=pre.length) (by omega)
  have hgm:(List.map stepRow st)[pre.length]?=some (stepRow e):=by simp only[List.getElem?_map,hg,Option.map_some]
  cases c1:stepOkI m.p e with
  |false=>
   have e1:badIn m.p (e::rest) pre.length=some pre.length:=by simp only[badIn,c1,Bool.false_eq_true,if_false]
   rw[e1]
   refine iterM_exit ?_ (fun s h=>by cases h)
   rw[raw24s];have c1':stepB m.p.bodies.length m.p.rooms.length e.op e.a e.b e.n e.size=false:=c1;simp only[hb,Option.bind_some,hlt',decide_true,cond_true,Nat.zero_add,Int.toNat_natCast,hgm,Nat.le_refl,true_and,Int.natCast_nonneg,and_self,if_true,stepRow,List.getD_cons_zero,List.getD_cons_succ,Nat.reduceAdd,c1',Bool.not_false];rfl
  |true=>
   have e1:badIn m.p (e::rest) pre.length=badIn m.p rest (pre++[e]).length:=by simp only[badIn,c1,if_true,List.length_append,List.length_singleton]
   rw[e1,←ih]
   refine iterM_succ [lcV 0,lcV 1,iV i,bdV n,iV n_,iV j,sfV b st.length,iV st.length,iV (pre++[e]).length] ?_
   rw[raw24s];have c1':stepB m.p.bodies.length m.p.rooms.length e.op e.a e.b e.n e.size=true:=c1;simp only[hb,Option.bind_some,hlt',decide_true,cond_true,Nat.zero_add,Int.toNat_natCast,hgm,Nat.le_refl,true_and,Int.natCast_nonneg,and_self,if_true,stepRow,List.getD_cons_zero,List.getD_cons_succ,Nat.reduceAdd,c1',Bool.not_true,cond_false];simp[hw,lP6,zipK]
theorem body_iter (m:IM)(hn:m.p.bodies.length<1000000)(hl:∀l∈m.p.bodies,l.length<1000000)(sl:Int):∀(rest pre:List (List _root_.Beat.Step)),m.p.bodies=pre++rest→
  iterM (wb:=wb) (hv:=hv) (hk:=hk) (noOp _) (tabA.at [] []) [] [lP6 wb hv hk] wk0 600 Try.f24 (loopsOf (bd Try.f24)) (lP4 wb hv hk) (rest.length+1) [lcV 0,lcV 1,bdV m.p.bodies.length,iV m.p.bodies.length,iV pre.length] m [obPl m.p.bodies.length m.p.rooms.length sl,obFa 0 0 0] []=
   some (match badI m.p rest pre.length with|none=>exM 4 fr12 m [obPl m.p.bodies.length m.p.rooms.length sl,obFa 0 0 0] []|some q=>retM fr12 m [obPl m.p.bodies.length m.p.rooms.length sl,obFa 4 q.1 q.2] [])
 |[],pre,h=>by
  refine iterM_exit ?_ (fun s h=>by cases h)
  rw[raw24b];simp only[List.append_nil] at h;simp[h,badI]
 |e::rest,pre,h=>by
  have ih:=body_iter m hn hl sl rest (pre++[e]) (by simp[h]);obtain⟨hg,hlt⟩:=get_mid h
  have hlt':(pre.length:Int)<(m.p.bodies.length:Int):=by omega
  have he:=(List.getElem?_eq_some_iff.1 hg).2;have hle:e.length<1000000:=hl e (by rw[h];simp);have hw:=wrap_succ (j:=pre.length) (by omega)
  cases c1:badIn m.p e 0 with
  |some k=>
   have e1:badI m.p (e::rest) pre.length=some (pre.length,k):=by simp only[badI,c1]
   rw[e1]
   refine iterM_exit ?_ (fun s h=>by cases h)
   rw[raw24b];simp[hlt,hlt',he,hle,c1]
  |none=>
   have e1:badI m.p (e::rest) pre.length=badI m.p rest (pre++[e]).length:=by simp only[badI,c1,List.length_append,List.length_singleton]
   rw[e1,←ih]
   refine iterM_succ [lcV 0,lcV 1,bdV m.p.bodies.length,iV m.p.bodies.length,iV (pre++[e]).length] ?_
   rw[raw24b];simp[hlt,hlt',he,hle,hw,c1,lP4,zipK]
theorem nest_iter0 (m:IM)(hn:m.p.bodies.length<1000000)(hl:∀l∈m.p.bodies,l.length<1000000)(nb nr:Nat)(sl:Int):∀(rest pre:List (List _root_.Beat.Step)),m.p.bodies=pre++rest→
  iterM (wb:=wb) (hv:=hv) (hk:=hk) (noOp _) (tabA.at [] []) [] [lP10 wb hv hk] wk0 900 Try.f24 (loopsOf (bd Try.f24)) (lP8 wb hv hk) (rest.length+1) [lcV 0,lcV 1,bdV m.p.bodies.length,iV m.p.bodies.length,iV pre.length] m [obPl nb nr sl,obFa 0 0 0] []=
   some (match nestI rest pre.length with|none=>exM 8 fr12 m [obPl nb nr sl,obFa 0 0 0] []|some q=>retM fr12 m [obPl nb nr sl,obFa q.1 q.2.1 q.2.2] [])
 |[],pre,h=>by
  refine iterM_exit ?_ (fun s h=>by cases h)
  rw[raw24n];simp only[List.append_nil] at h;simp[h,nestI]
 |e::rest,pre,h=>by
  have ih:=nest_iter0 m hn hl nb nr sl rest (pre++[e]) (by simp[h]);obtain⟨hg,hlt⟩:=get_mid h
  have hlt':(pre.length:Int)<(m.p.bodies.length:Int):=by omega
  have he:=(List.getElem?_eq_some_iff.1 hg).2;have hle:e.length<1000000:=hl e (by rw[h];simp);have hw:=wrap_succ (j:=pre.length) (by omega)
  cases c1:nestIn e 0 [(e.length:Int)] with
  |some k=>
   have e1:nestI (e::rest) pre.length=some (k.1,pre.length,k.2):=by simp only[nestI,c1]
   rw[e1]
   refine iterM_exit ?_ (fun s h=>by cases h)
   rw[raw24n];simp[hlt,hlt',he,hle,c1]
  |none=>
   have e1:nestI (e::rest) pre.length=nestI rest (pre++[e]).length:=by simp only[nestI,c1,List.length_append,List.length_singleton]
   rw[e1,←ih]
   refine iterM_succ [lcV 0,lcV 1,bdV m.p.bodies.length,iV m.p.bodies.length,iV (pre++[e]).length] ?_
   rw[raw24n];simp[hlt,hlt',he,hle,hw,c1,lP8,zipK]
theorem popE_ne {k:Int}:∀{es:List Int},es≠[]→popE k es≠[]∧(popE k es).length≤es.length
 |[],h=>absurd rfl h
 |[_],_=>⟨by simp[popE],by simp[popE]⟩
 |t::u::r,_=>by
  unfold popE
  split
  ·have:=popE_ne (k:=k) (es:=u::r) (by simp)
   exact⟨this.1,by have:=this.2;simp only[List.length_cons] at this ⊢;omega⟩
  ·exact⟨by simp,Nat.le_refl _⟩
theorem popN_popE (k:Int)(ys:List Int):∀es:List Int,es.reverse=ys.take es.length→popN k ys es.length=(popE k es).length∧(popE k es).reverse=ys.take (popE k es).length
 |[],h=>⟨by simp[popN,popE],by simp[popE]⟩
 |[t],h=>⟨by simp[popN,popE],by simpa [popE] using h⟩
 |t::u::r,h=>by
  have hlen:(u::r).length+1≤ys.length:=by
   have:=congrArg List.length h;simp only[List.length_reverse,List.length_cons,List.length_take] at this ⊢;omega
  have h2:ys.take ((u::r).length+1)=(u::r).reverse++[t]:=by rw[←List.reverse_cons];exact h.symm
  have h3:(u::r).reverse=ys.take (u::r).length:=by
   have:=congrArg (List.take (u::r).length) h2;rw[List.take_take,Nat.min_eq_left (Nat.le_succ _)] at this;rw[this,List.take_left' (by simp)]
  have h4:ys.getD (u::r).length 0=t:=by
   have:=congrArg (fun l=>l[(u::r).length]?) h2;simp only[List.getElem?_take] at this;rw[if_pos (Nat.lt_succ_self _),List.getElem?_append_right (by simp)] at this;simp only[List.length_reverse,Nat.sub_self,List.getElem?_cons_zero] at this
   rw[List.getD_eq_getElem?_getD,this];rfl
  have ih:=popN_popE k ys (u::r) h3
  show popN k ys (r.length+2)=_∧_
  unfold popN popE;have h4':ys.getD (r.length+1) 0=t:=h4;rw[h4']
  by_cases hc:t≤k
  ·rw[if_pos hc,if_pos hc];exact ih
  ·rw[if_neg hc,if_neg hc];exact⟨rfl,h⟩
theorem pop_iter1 (m:IM)(nb nr n b l:Nat)(sl i k n_ j_ l_ k_ x s0 s1 s2 s3 s4:Int):
  iterM (wb:=wb) (hv:=hv) (hk:=hk) (noOp _) (tabA.at [] []) [] [] wk0 600 Try.f24 (loopsOf (loopC (loopsOf (loopC (loopsOf (bd Try.f24)) 8)) 10)) (lP12 wb hv hk) 1 (evE i 1 k n n_ j_ b l l_ k_) m [obPl nb nr sl,obFa 0 0 0,obE1 x,obS5 s0 s1 s2 s3 s4] []=
   some (exM 12 (zipK ksE (evE i 1 k n n_ j_ b l l_ k_)) m [obPl nb nr sl,obFa 0 0 0,obE1 x,obS5 s0 s1 s2 s3 s4] []):=by
 refine iterM_exit ?_ (fun s h=>by cases h)
 rw[raw24p1];rfl
theorem pop_iter2 (m:IM)(nb nr n b l:Nat)(ys:List Int)(hy:ys.length<1000000)(sl i k n_ j_ l_ k_ s0 s1 s2 s3 s4:Int):∀q:Nat,q≤ys.length→
  iterM (wb:=wb) (hv:=hv) (hk:=hk) (noOp _) (tabA.at [] []) [] [] wk0 600 Try.f24 (loopsOf (loopC (loopsOf (loopC (loopsOf (bd Try.f24)) 8)) 10)) (lP12 wb hv hk) (q+1) (evE i q k n n_ j_ b l l_ k_) m [obPl nb nr sl,obFa 0 0 0,obE ys,obS5 s0 s1 s2 s3 s4] []=
   some (exM 12 (zipK ksE (evE i (popN k ys q) k n n_ j_ b l l_ k_)) m [obPl nb nr sl,obFa 0 0 0,obE ys,obS5 s0 s1 s2 s3 s4] [])
 |0,_=>by
  refine iterM_exit ?_ (fun s h=>by cases h)
  rw[raw24p2];rfl
 |1,_=>by
  refine iterM_exit ?_ (fun s h=>by cases h)
  rw[raw24p2];rfl
 |q+2,hq=>by
  have ih:=pop_iter2 m nb nr n b l ys hy sl i k n_ j_ l_ k_ s0 s1 s2 s3 s4 (q+1) (by omega);have hw:IntKind.i64.wrap (((q+2:Nat):Int) - 1)=((q+1:Nat):Int):=(wrap_small' (by omega) (by omega)).trans (by omega)
  have hlt:((q+1:Nat):Int)<((q+2:Nat):Int):=by omega
  have hle:((q+1:Nat):Int)≤((q+2:Nat):Int):=by omega
  have h1:((q+2:Nat):Int)>1:=by omega
  obtain⟨t,ht⟩:∃t,ys[q+1]?=some t:=⟨_,List.getElem?_eq_getElem (by omega)⟩
  have hd:ys.getD (q+1) 0=t:=by rw[List.getD_eq_getElem?_getD,ht];rfl
  by_cases hc:t≤k
  ·have e1:popN k ys (q+2)=popN k ys (q+1):=by rw[popN,hd,if_pos hc]
   rw[e1,←ih]
   refine iterM_succ (evE i (q+1) k n n_ j_ b l l_ k_) ?_
   rw[raw24p2];simp only[decide_eq_true h1,cond_true,Nat.zero_add,hw,Int.natCast_nonneg,hlt,hle,hq,and_self,true_and,Int.le_refl,if_true,Int.toNat_natCast,ht,Option.bind_some,decide_eq_true hc,Int.sub_zero];rfl
  ·have e1:popN k ys (q+2)=q+2:=by rw[popN,hd,if_neg hc]
   rw[e1]
   refine iterM_exit ?_ (fun s h=>by cases h)
   rw[raw24p2];simp only[decide_eq_true h1,cond_true,Nat.zero_add,hw,Int.natCast_nonneg,hlt,hle,hq,and_self,true_and,Int.le_refl,if_true,Int.toNat_natCast,ht,Option.bind_some,decide_eq_false hc,cond_false];rfl
def StE (es:List Int)(q:Nat)(o:LObj TI):Prop:=(∃x,es=[x]∧q=1∧o=obE1 x)∨∃ys,o=obE ys∧q=es.length∧es.reverse=ys.take es.length∧ys.length≤20
theorem nestIn_cons {e:_root_.Beat.Step}{rest:List _root_.Beat.Step}{k:Nat}{es:List Int}{hd:Int}{tl:List Int}(h:popE (k:Int) es=hd::tl):nestIn (e::rest) k es=
  if e.op≠15∧e.op≠16 then nestIn rest (k+1) (hd::tl) else if e.size>IntKind.i64.wrap (IntKind.i64.wrap (hd - (k:Int)) - 1) then some (5,k) else if (tl.length:Int)≥10 then some (6,k) else nestIn rest (k+1) (IntKind.i64.wrap ((k:Int)+1+e.size)::hd::tl):=by
 have e1:((hd::tl).length:Int) - 1=tl.length:=by simp
 rw[nestIn,h,e1];rfl
theorem nest_iter (m:IM)(b:Nat)(i n_ j:Int)(st:List _root_.Beat.Step)(hb:m.p.bodies[b]?=some st)(hn:st.length<1000000)(nb nr:Nat)(sl:Int)(n:Nat):∀(rest pre:List _root_.Beat.Step) (es:List Int) (q:Nat) (o:LObj TI),st=pre++rest→es≠[]→StE es q o→
  iterM (wb:=wb) (hv:=hv) (hk:=hk) (noOp _) (tabA.at [] []) [] [lP12 wb hv hk] wk0 900 Try.f24 (loopsOf (loopC (loopsOf (bd Try.f24)) 8)) (lP10 wb hv hk) (rest.length+1) [lcV 0,lcV 1,iV i,.l (.sl (.loc 2) 0 1 q),bdV n,iV n_,iV j,sfV b st.length,iV st.length,iV pre.length] m [obPl nb nr sl,obFa 0 0 0,o] []=
   some (match nestIn rest pre.length es with|none=>exM 10 [(1,lcV 0),(2,lcV 1),(98,bdV n),(99,iV n_),(100,iV j)] m [obPl nb nr sl,obFa 0 0 0] []|some k=>retM [(1,lcV 0),(2,lcV 1),(98,bdV n),(99,iV n_),(100,iV j)] m [obPl nb nr sl,obFa k.1 i k.2] [])
 |[],pre,es,q,o,h,hes,hs=>by
  refine iterM_exit ?_ (fun s h=>by cases h)
  simp only[List.append_nil] at h
  rcases hs with ⟨x,rfl,rfl,rfl⟩|⟨ys,rfl,rfl,hr,hy⟩
  ·rw[raw24i1];simp[h,nestIn]
  ·rw[raw24i2];simp[h,nestIn]
 |e::rest,pre,es,q,o,h,hes,hs=>by
  obtain⟨hg,hlt⟩:=get_mid h
  have hlt':(pre.length:Int)<(st.length:Int):=by omega
  have hw:=wrap_succ (j:=pre.length) (by omega)
  have hgm:(List.map stepRow st)[pre.length]?=some (stepRow e):=by simp only[List.getElem?_map,hg,Option.map_some]
  have hp1:(pre++[e]).length=pre.length+1:=by simp
  have hpc:((pre.length+1:Nat):Int)=(pre.length:Int)+1:=by omega
  rcases hs with ⟨x,rfl,rfl,rfl⟩|⟨ys,rfl,rfl,hr,hy⟩
  ·have hpop:popE (pre.length:Int) [x]=[x]:=by simp[popE]
   rw[nestIn_cons hpop]
   by_cases c15:e.op≠15∧e.op≠16
   ·rw[if_pos c15,←hp1]
    rw[←nest_iter m b i n_ j st hb hn nb nr sl n rest (pre++[e]) [x] 1 (obE1 x) (by simp[h]) (by simp) (.inl ⟨x,rfl,rfl,rfl⟩)]
    refine iterM_succ [lcV 0,lcV 1,iV i,.l (.sl (.loc 2) 0 1 1),bdV n,iV n_,iV j,sfV b st.length,iV st.length,iV (pre++[e]).length] ?_
    rw[raw24i1];simp only[hb,Option.bind_some,hlt',decide_true,cond_true,Nat.zero_add,Int.toNat_natCast,hgm,Nat.le_refl,true_and,Int.natCast_nonneg,and_self,if_true,stepRow,List.getD_cons_zero,List.getD_cons_succ,Nat.reduceAdd,bne_iff_ne.2 c15.1,bne_iff_ne.2 c15.2,hw,hp1,hpc];rfl
   ·rw[if_neg c15]
    by_cases d15:e.op=15
    ·have f15:(e.op !=15)=false:=by rw[d15];rfl
     by_cases c5:e.size>IntKind.i64.wrap (IntKind.i64.wrap (x - (pre.length:Int)) - 1)
     ·rw[if_pos c5]
      refine iterM_exit ?_ (fun s h=>by cases h)
      rw[raw24i1];simp only[hb,Option.bind_some,hlt',decide_true,cond_true,cond_false,Nat.zero_add,Int.toNat_natCast,hgm,Nat.le_refl,true_and,Int.natCast_nonneg,and_self,if_true,stepRow,List.getD_cons_zero,List.getD_cons_succ,Nat.reduceAdd,hw,f15,decide_eq_true c5];rfl
     ·rw[if_neg c5,if_neg (show ¬((([]:List Int).length:Int)≥10) by simp),←hp1]
      rw[←nest_iter m b i n_ j st hb hn nb nr sl n rest (pre++[e]) [IntKind.i64.wrap ((pre.length:Int)+1+e.size),x] 2 (obE [x,IntKind.i64.wrap ((pre.length:Int)+1+e.size)]) (by simp[h]) (by simp) (.inr ⟨_,rfl,rfl,rfl,by simp⟩)]
      refine iterM_succ [lcV 0,lcV 1,iV i,.l (.sl (.loc 2) 0 1 2),bdV n,iV n_,iV j,sfV b st.length,iV st.length,iV (pre++[e]).length] ?_
      rw[raw24i1];simp only[hb,Option.bind_some,hlt',decide_true,cond_true,cond_false,Nat.zero_add,Int.toNat_natCast,hgm,Nat.le_refl,true_and,Int.natCast_nonneg,and_self,if_true,stepRow,List.getD_cons_zero,List.getD_cons_succ,Nat.reduceAdd,hw,f15,decide_eq_false c5,hp1,hpc];rfl
    ·have f16:(e.op !=16)=false:=by rw[show e.op=16 from Classical.byContradiction fun h=>c15 ⟨d15,h⟩];rfl
     by_cases c5:e.size>IntKind.i64.wrap (IntKind.i64.wrap (x - (pre.length:Int)) - 1)
     ·rw[if_pos c5]
      refine iterM_exit ?_ (fun s h=>by cases h)
      rw[raw24i1];simp only[hb,Option.bind_some,hlt',decide_true,cond_true,cond_false,Nat.zero_add,Int.toNat_natCast,hgm,Nat.le_refl,true_and,Int.natCast_nonneg,and_self,if_true,stepRow,List.getD_cons_zero,List.getD_cons_succ,Nat.reduceAdd,hw,bne_iff_ne.2 d15,f16,decide_eq_true c5];rfl
     ·rw[if_neg c5,if_neg (show ¬((([]:List Int).length:Int)≥10) by simp),←hp1]
      rw[←nest_iter m b i n_ j st hb hn nb nr sl n rest (pre++[e]) [IntKind.i64.wrap ((pre.length:Int)+1+e.size),x] 2 (obE [x,IntKind.i64.wrap ((pre.length:Int)+1+e.size)]) (by simp[h]) (by simp) (.inr ⟨_,rfl,rfl,rfl,by simp⟩)]
      refine iterM_succ [lcV 0,lcV 1,iV i,.l (.sl (.loc 2) 0 1 2),bdV n,iV n_,iV j,sfV b st.length,iV st.length,iV (pre++[e]).length] ?_
      rw[raw24i1];simp only[hb,Option.bind_some,hlt',decide_true,cond_true,cond_false,Nat.zero_add,Int.toNat_natCast,hgm,Nat.le_refl,true_and,Int.natCast_nonneg,and_self,if_true,stepRow,List.getD_cons_zero,List.getD_cons_succ,Nat.reduceAdd,hw,bne_iff_ne.2 d15,f16,decide_eq_false c5,hp1,hpc];rfl
  ·obtain⟨hqv,hrev⟩:=popN_popE (pre.length:Int) ys es hr
   obtain⟨hne,hlen⟩:=popE_ne (k:=(pre.length:Int)) hes
   have hesy:es.length≤ys.length:=by have:=congrArg List.length hr;simp only[List.length_reverse,List.length_take] at this;omega
   have hr':es.length≤ys.length∧ys.length<1000000:=⟨hesy,by omega⟩;generalize hes':popE (pre.length:Int) es=es' at hqv hrev hne hlen ⊢
   cases es' with
   |nil=>exact absurd rfl hne
   |cons hd tl=>
   rw[nestIn_cons hes'];simp only[List.length_cons] at hqv hrev hlen
   have hb1:tl.length+1≤ys.length:=by omega
   have hget:ys[tl.length]?=some hd:=by
    have:=congrArg (fun l=>l[tl.length]?) hrev;simp only[List.reverse_cons,List.getElem?_take] at this;rw[if_pos (Nat.lt_succ_self _),List.getElem?_append_right (by simp)] at this
    simpa using this.symm
   have hwp:IntKind.i64.wrap (((tl.length+1:Nat):Int) - 1)=(tl.length:Int):=(wrap_small' (by omega) (by omega)).trans (by omega)
   have hltq:(tl.length:Int)<((tl.length+1:Nat):Int):=by omega
   by_cases c15:e.op≠15∧e.op≠16
   ·rw[if_pos c15,←hp1]
    rw[←nest_iter m b i n_ j st hb hn nb nr sl n rest (pre++[e]) (hd::tl) (tl.length+1) (obE ys) (by simp[h]) (by simp) (.inr ⟨ys,rfl,rfl,hrev,hy⟩)]
    refine iterM_succ [lcV 0,lcV 1,iV i,.l (.sl (.loc 2) 0 1 (tl.length+1)),bdV n,iV n_,iV j,sfV b st.length,iV st.length,iV (pre++[e]).length] ?_
    rw[raw24i2];simp only[hb,Option.bind_some,hlt',decide_true,cond_true,cond_false,Nat.zero_add,Int.toNat_natCast,hgm,Nat.le_refl,true_and,Int.natCast_nonneg,and_self,if_true,stepRow,List.getD_cons_zero,List.getD_cons_succ,Nat.reduceAdd,hw,hr',hqv,bne_iff_ne.2 c15.1,bne_iff_ne.2 c15.2,hp1,hpc];rfl
   ·rw[if_neg c15]
    have hcap:(tl.length+1+1)*8≤140737488355328∧tl.length+1+1≤9223372036854775807:=⟨by omega,by omega⟩
    have hble:∀v:Int,(List.take (tl.length+1) ys++[v]).length.ble 9223372036854775807=true:=fun v=>Nat.ble_eq_true_of_le (by simp only[List.length_append,List.length_take,List.length_singleton];omega)
    have hnew:∀v:Int,(v::hd::tl).reverse=(List.take (tl.length+1) ys++[v]).take (v::hd::tl).length:=fun v=>by
     rw[List.reverse_cons,hrev];exact (List.take_of_length_le (by simp only[List.length_append,List.length_take,List.length_singleton,List.length_cons];exact Nat.add_le_add_right (Nat.min_le_left _ _) 1)).symm
    by_cases d15:e.op=15
    ·have f15:(e.op !=15)=false:=by rw[d15];rfl
     by_cases c5:e.size>IntKind.i64.wrap (IntKind.i64.wrap (hd - (pre.length:Int)) - 1)
     ·rw[if_pos c5]
      refine iterM_exit ?_ (fun s h=>by cases h)
      rw[raw24i2];simp only[hb,Option.bind_some,hlt',decide_true,cond_true,cond_false,Nat.zero_add,Int.toNat_natCast,hgm,Nat.le_refl,true_and,Int.natCast_nonneg,and_self,if_true,stepRow,List.getD_cons_zero,List.getD_cons_succ,Nat.reduceAdd,hw,hr',hqv,hwp,hget,hb1,hltq,f15,decide_eq_true c5];rfl
     ·rw[if_neg c5]
      by_cases c6:(tl.length:Int)≥10
      ·rw[if_pos c6]
       refine iterM_exit ?_ (fun s h=>by cases h)
       rw[raw24i2];simp only[hb,Option.bind_some,hlt',decide_true,cond_true,cond_false,Nat.zero_add,Int.toNat_natCast,hgm,Nat.le_refl,true_and,Int.natCast_nonneg,and_self,if_true,stepRow,List.getD_cons_zero,List.getD_cons_succ,Nat.reduceAdd,hw,hr',hqv,hwp,hget,hb1,hltq,f15,decide_eq_false c5,decide_eq_true c6];rfl
      ·rw[if_neg c6,←hp1]
       rw[←nest_iter m b i n_ j st hb hn nb nr sl n rest (pre++[e]) (IntKind.i64.wrap ((pre.length:Int)+1+e.size)::hd::tl) (tl.length+1+1) (obE (ys.take (tl.length+1)++[IntKind.i64.wrap ((pre.length:Int)+1+e.size)])) (by simp[h]) (by simp) (.inr ⟨_,rfl,rfl,hnew _,by simp;omega⟩)]
       refine iterM_succ [lcV 0,lcV 1,iV i,.l (.sl (.loc 2) 0 1 (tl.length+1+1)),bdV n,iV n_,iV j,sfV b st.length,iV st.length,iV (pre++[e]).length] ?_
       rw[raw24i2];simp only[hb,Option.bind_some,hlt',decide_true,cond_true,cond_false,Nat.zero_add,Int.toNat_natCast,hgm,Nat.le_refl,true_and,Int.natCast_nonneg,and_self,if_true,stepRow,List.getD_cons_zero,List.getD_cons_succ,Nat.reduceAdd,hw,hr',hqv,hwp,hget,hb1,hltq,f15,decide_eq_false c5,decide_eq_false c6,hcap,List.drop_zero,hble,hp1,hpc];rfl
    ·have f16:(e.op !=16)=false:=by rw[show e.op=16 from Classical.byContradiction fun h=>c15 ⟨d15,h⟩];rfl
     by_cases c5:e.size>IntKind.i64.wrap (IntKind.i64.wrap (hd - (pre.length:Int)) - 1)
     ·rw[if_pos c5]
      refine iterM_exit ?_ (fun s h=>by cases h)
      rw[raw24i2];simp only[hb,Option.bind_some,hlt',decide_true,cond_true,cond_false,Nat.zero_add,Int.toNat_natCast,hgm,Nat.le_refl,true_and,Int.natCast_nonneg,and_self,if_true,stepRow,List.getD_cons_zero,List.getD_cons_succ,Nat.reduceAdd,hw,hr',hqv,hwp,hget,hb1,hltq,bne_iff_ne.2 d15,f16,decide_eq_true c5];rfl
     ·rw[if_neg c5]
      by_cases c6:(tl.length:Int)≥10
      ·rw[if_pos c6]
       refine iterM_exit ?_ (fun s h=>by cases h)
       rw[raw24i2];simp only[hb,Option.bind_some,hlt',decide_true,cond_true,cond_false,Nat.zero_add,Int.toNat_natCast,hgm,Nat.le_refl,true_and,Int.natCast_nonneg,and_self,if_true,stepRow,List.getD_cons_zero,List.getD_cons_succ,Nat.reduceAdd,hw,hr',hqv,hwp,hget,hb1,hltq,bne_iff_ne.2 d15,f16,decide_eq_false c5,decide_eq_true c6];rfl
      ·rw[if_neg c6,←hp1]
       rw[←nest_iter m b i n_ j st hb hn nb nr sl n rest (pre++[e]) (IntKind.i64.wrap ((pre.length:Int)+1+e.size)::hd::tl) (tl.length+1+1) (obE (ys.take (tl.length+1)++[IntKind.i64.wrap ((pre.length:Int)+1+e.size)])) (by simp[h]) (by simp) (.inr ⟨_,rfl,rfl,hnew _,by simp;omega⟩)]
       refine iterM_succ [lcV 0,lcV 1,iV i,.l (.sl (.loc 2) 0 1 (tl.length+1+1)),bdV n,iV n_,iV j,sfV b st.length,iV st.length,iV (pre++[e]).length] ?_
       rw[raw24i2];simp only[hb,Option.bind_some,hlt',decide_true,cond_true,cond_false,Nat.zero_add,Int.toNat_natCast,hgm,Nat.le_refl,true_and,Int.natCast_nonneg,and_self,if_true,stepRow,List.getD_cons_zero,List.getD_cons_succ,Nat.reduceAdd,hw,hr',hqv,hwp,hget,hb1,hltq,bne_iff_ne.2 d15,f16,decide_eq_false c5,decide_eq_false c6,hcap,List.drop_zero,hble,hp1,hpc];rfl
theorem two_some {X:Type}{L:List (LObj TI)}{κ:Nat→Nat→Int→Option X}{x:X}(h:two L κ=some x):∃nb nr sl,L=[obPl nb nr sl,obFa 0 0 0]∧κ nb nr sl=some x:=by
 unfold two at h
 split at h
 ·exact⟨_,_,_,rfl,h⟩
 ·cases h
theorem rooms_lp {LS:List (Nat×Code)}{ld:List (LoopD (DM wb hv hk))}(hld:LpOk PG (tabA.at [] []) (DM wb hv hk) Try.f24.ntmps LS ld)(hLS:LS=(loopsOf (bd Try.f24))):LpOk PG (tabA.at [] []) (DM wb hv hk) Try.f24.ntmps LS (lP0 wb hv hk::ld):=by
 subst hLS
 refine mkLp (tabAOk.at _ _) (mdI_ok _) mixOk noOp_ok (EnvOk.nil) hld (wk:=wk0) (N:=600) (LpOk.nil) (by kernel_rfl) fun vs m L dk κ x h0=>?_
 simp only[lP0] at h0
 split at h0
 ·obtain⟨nb,nr,sl,rfl,h1⟩:=two_some h0
  split at h1
  case isFalse=>cases h1
  rename_i hc;obtain⟨rfl,rfl,hn⟩:=hc;refine⟨_,_,rooms_iter m hn nb nr sl m.p.rooms [] rfl,?_⟩
  cases hb:roomsOkI m.p.rooms<;>rw [hb] at h1<;>exact h1
 ·cases h0
theorem long_lp {LS:List (Nat×Code)}{ld:List (LoopD (DM wb hv hk))}(hld:LpOk PG (tabA.at [] []) (DM wb hv hk) Try.f24.ntmps LS ld)(hLS:LS=(loopsOf (bd Try.f24))):LpOk PG (tabA.at [] []) (DM wb hv hk) Try.f24.ntmps LS (lP2 wb hv hk::ld):=by
 subst hLS
 refine mkLp (tabAOk.at _ _) (mdI_ok _) mixOk noOp_ok (EnvOk.nil) hld (wk:=wk0) (N:=600) (LpOk.nil) (by kernel_rfl) fun vs m L dk κ x h0=>?_
 simp only[lP2] at h0
 split at h0
 ·obtain⟨nb,nr,sl,rfl,h1⟩:=two_some h0
  split at h1
  case isFalse=>cases h1
  rename_i hc;obtain⟨rfl,rfl,hn⟩:=hc;refine⟨_,_,long_iter m hn nb nr sl m.p.bodies [] rfl,?_⟩;simp only[List.length_nil]
  cases hb:longI m.p.bodies 0<;>rw [hb] at h1<;>exact h1
 ·cases h0
theorem bad_lp {LS:List (Nat×Code)}{ld:List (LoopD (DM wb hv hk))}(hld:LpOk PG (tabA.at [] []) (DM wb hv hk) Try.f24.ntmps LS ld)(hLS:LS=(loopsOf (loopC (loopsOf (bd Try.f24)) 4))):LpOk PG (tabA.at [] []) (DM wb hv hk) Try.f24.ntmps LS (lP6 wb hv hk::ld):=by
 subst hLS
 refine mkLp (tabAOk.at _ _) (mdI_ok _) mixOk noOp_ok (EnvOk.cons stepok_ok EnvOk.nil) hld (wk:=wk0) (N:=600) (LpOk.nil) (by kernel_rfl) fun vs m L dk κ x h0=>?_
 simp only[lP6] at h0
 split at h0
 ·rename_i i n n' j b l l'
  obtain⟨nb,nr,sl,rfl,h1⟩:=two_some h0
  split at h1
  ·cases h1
  ·rename_i st hb
   split at h1
   case isFalse=>cases h1
   rename_i hc;obtain⟨rfl,rfl,rfl,rfl,hn⟩:=hc;refine⟨_,_,bad_iter m b i n' j st hb hn sl n st [] rfl,?_⟩;simp only[List.length_nil]
   cases hb:badIn m.p st 0<;>rw [hb] at h1<;>exact h1
 ·cases h0
theorem body_lp {LS:List (Nat×Code)}{ld:List (LoopD (DM wb hv hk))}(hld:LpOk PG (tabA.at [] []) (DM wb hv hk) Try.f24.ntmps LS ld)(hLS:LS=(loopsOf (bd Try.f24))):LpOk PG (tabA.at [] []) (DM wb hv hk) Try.f24.ntmps LS (lP4 wb hv hk::ld):=by
 subst hLS
 refine mkLp (tabAOk.at _ _) (mdI_ok _) mixOk noOp_ok (EnvOk.nil) hld (wk:=wk0) (N:=600) (bad_lp LpOk.nil rfl) (by kernel_rfl) fun vs m L dk κ x h0=>?_
 simp only[lP4] at h0
 split at h0
 ·obtain⟨nb,nr,sl,rfl,h1⟩:=two_some h0
  split at h1
  case isFalse=>cases h1
  rename_i hc;obtain⟨rfl,rfl,hn,rfl,rfl,hl⟩:=hc;refine⟨_,_,body_iter m hn hl sl m.p.bodies [] rfl,?_⟩;simp only[List.length_nil]
  cases hb:badI m.p m.p.bodies 0<;>rw [hb] at h1<;>exact h1
 ·cases h0
theorem ends_lp {LS:List (Nat×Code)}{ld:List (LoopD (DM wb hv hk))}(hld:LpOk PG (tabA.at [] []) (DM wb hv hk) Try.f24.ntmps LS ld)(hLS:LS=(loopsOf (loopC (loopsOf (loopC (loopsOf (bd Try.f24)) 8)) 10))):LpOk PG (tabA.at [] []) (DM wb hv hk) Try.f24.ntmps LS (lP12 wb hv hk::ld):=by
 subst hLS
 refine mkLp (tabAOk.at _ _) (mdI_ok _) mixOk noOp_ok (EnvOk.nil) hld (wk:=wk0) (N:=600) (LpOk.nil) (by kernel_rfl) fun vs m L dk κ x h0=>?_
 simp only[lP12] at h0
 split at h0
 ·rename_i i q k n n' j b l l' k' p0 p1 o2 s0 s1 s2 s3 s4
  obtain⟨nb,nr,sl,hL,h1⟩:=two_some h0
  cases hL
  split at h1
  ·split at h1
   case isFalse=>cases h1
   rename_i x hq;subst hq;exact⟨_,_,pop_iter1 m nb nr n b l sl i k n' j l' k' x s0 s1 s2 s3 s4,h1⟩
  ·split at h1
   case isFalse=>cases h1
   rename_i ys hq;exact⟨_,_,pop_iter2 m nb nr n b l ys hq.2 sl i k n' j l' k' s0 s1 s2 s3 s4 q hq.1,h1⟩
  ·cases h1
 ·cases h0
theorem nest_lp {LS:List (Nat×Code)}{ld:List (LoopD (DM wb hv hk))}(hld:LpOk PG (tabA.at [] []) (DM wb hv hk) Try.f24.ntmps LS ld)(hLS:LS=(loopsOf (loopC (loopsOf (bd Try.f24)) 8))):LpOk PG (tabA.at [] []) (DM wb hv hk) Try.f24.ntmps LS (lP10 wb hv hk::ld):=by
 subst hLS
 refine mkLp (tabAOk.at _ _) (mdI_ok _) mixOk noOp_ok (EnvOk.nil) hld (wk:=wk0) (N:=900) (ends_lp LpOk.nil rfl) (by kernel_rfl) fun vs m L dk κ x h0=>?_
 simp only[lP10] at h0
 split at h0
 ·rename_i i n n' j b l l' p0 p1 x
  obtain⟨nb,nr,sl,hL,h1⟩:=two_some h0
  cases hL
  split at h1
  ·cases h1
  ·rename_i st hb
   split at h1
   case isFalse=>cases h1
   rename_i hc;obtain⟨rfl,rfl,hx,hn⟩:=hc;refine⟨_,_,nest_iter m b i n' j st hb hn nb nr sl n st [] [x] 1 (obE1 x) rfl (by simp) (.inl ⟨x,rfl,rfl,rfl⟩),?_⟩;simp only[List.length_nil]
   cases hb:nestIn st 0 [x]<;>rw [hb] at h1<;>exact h1
 ·cases h0
theorem nests_lp {LS:List (Nat×Code)}{ld:List (LoopD (DM wb hv hk))}(hld:LpOk PG (tabA.at [] []) (DM wb hv hk) Try.f24.ntmps LS ld)(hLS:LS=(loopsOf (bd Try.f24))):LpOk PG (tabA.at [] []) (DM wb hv hk) Try.f24.ntmps LS (lP8 wb hv hk::ld):=by
 subst hLS
 refine mkLp (tabAOk.at _ _) (mdI_ok _) mixOk noOp_ok (EnvOk.nil) hld (wk:=wk0) (N:=900) (nest_lp LpOk.nil rfl) (by kernel_rfl) fun vs m L dk κ x h0=>?_
 simp only[lP8] at h0
 split at h0
 ·obtain⟨nb,nr,sl,rfl,h1⟩:=two_some h0
  split at h1
  case isFalse=>cases h1
  rename_i hc;obtain⟨rfl,rfl,hn,hl⟩:=hc;refine⟨_,_,nest_iter0 m hn hl nb nr sl m.p.bodies [] rfl,?_⟩;simp only[List.length_nil]
  cases hb:nestI m.p.bodies 0<;>rw [hb] at h1<;>exact h1
 ·cases h0
theorem longI_none:∀{ls:List (List _root_.Beat.Step)} {i:Nat},longI ls i=none→∀l∈ls,l.length<1000000
 |[],_,_=>fun _ h=>by cases h
 |l::ls,i,h=>fun l' hl=>by
  unfold longI at h
  split at h
  ·cases h
  ·rcases List.mem_cons.1 hl with rfl|hl
   ·omega
   ·exact longI_none h l' hl
theorem planok_raw (m:IM):runM (wb:=wb) (hv:=hv) (hk:=hk) (noOp _) (tabA.at [] []) [] [lP0 wb hv hk,lP2 wb hv hk,lP4 wb hv hk,lP8 wb hv hk] wk0 900 Try.f24 [plnV m.p.bodies.length m.p.rooms.length m.p.slice] m=
  some (okM (.agg [.v (i64 (planOkI m.p).code),.v (i64 (planOkI m.p).body),.v (i64 (planOkI m.p).step)]) m []):=by
 rw[raw24];unfold planOkI
 by_cases c1:m.p.bodies.length=0
 ·simp[c1]
 ·by_cases c2:m.p.bodies.length>20
  ·have c2':(20:Int)<m.p.bodies.length:=by omega
   simp[c1,c2,c2']
  ·have c2':¬(20:Int)<m.p.bodies.length:=by omega
   by_cases c3:m.p.rooms.length>10
   ·have c3':(10:Int)<m.p.rooms.length:=by omega
    simp[c1,c2,c2',c3,c3']
   ·have c3':¬(10:Int)<m.p.rooms.length:=by omega
    by_cases c4:m.p.slice<1
    ·simp[c1,c2,c2',c3,c3',c4]
    ·by_cases c5:m.p.slice>100
     ·simp[c1,c2,c2',c3,c3',c4,c5]
     ·have hnb:m.p.bodies.length<1000000:=by omega
      have hnr:m.p.rooms.length<1000000:=by omega
      cases c6:roomsOkI m.p.rooms with
      |false=>simp[c1,c2,c2',c3,c3',c4,c5,hnr]
      |true=>
       cases c7:longI m.p.bodies 0 with
       |some i=>simp[c1,c2,c2',c3,c3',c4,c5,hnr,hnb]
       |none=>
        have hl:=longI_none c7
        cases c8:badI m.p m.p.bodies 0 with
        |some q=>simp[c1,c2,c2',c3,c3',c4,c5,hnr,hnb];exact hl
        |none=>
         cases c9:nestI m.p.bodies 0 with
         |some q=>simp[c1,c2,c2',c3,c3',c4,c5,hnr,hnb];exact hl
         |none=>simp[c1,c2,c2',c3,c3',c4,c5,hnr,hnb];exact hl
theorem planok_ok:CtrOk (D:=DM wb hv hk) PG 24 (cPlanOk wb hv hk):=mkCtr tabAOk (mdI_ok _) mixOk noOp_ok EnvOk.nil (fn:=Try.f24) (by kernel_rfl) (by kernel_rfl) (by kernel_rfl) [] [] (by kernel_rfl)
  (rooms_lp (long_lp (body_lp (nests_lp LpOk.nil rfl) rfl) rfl) rfl) (I:=fun _=>True) (fun _ _ _ _=>trivial) (wk:=wk0) (N:=900) fun vs st κ x h0=>by
 simp only[cPlanOk] at h0
 split at h0
 ·split at h0
  case isFalse=>cases h0
  rename_i hc;obtain⟨rfl,rfl,rfl⟩:=hc;exact⟨of_decide_eq_true rfl,_,_,_,h0,fun _=>planok_raw st⟩
 ·cases h0
end Go.Beat
end
