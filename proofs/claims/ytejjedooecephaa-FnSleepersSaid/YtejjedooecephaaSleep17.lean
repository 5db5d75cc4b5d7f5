/-
  Texts joined by a program (shake.py), without what the claim does not use; printed walks among them (print.sh), and own ones.
-/
import Derived.Test.YtejjedooecephaaSleep14
import Derived.Test.YtejjedooecephaaSleep15
import Derived.Test.YtejjedooecephaaSleep16
import Derived.Laws.BitsLemmas
section
namespace Go.Beat
open Go _root_.Beat Go.Proofs
abbrev YM:TyI:=⟨109,116,117,134,131,3,2,72,178,138,110⟩
abbrev GM (wb:Nat)(hv:Value)(hk:Option Int):GI:=⟨YM,wb,hv,hk⟩
abbrev mchV:TV TI:=.l (.p (.m TI.mach) 0 1 0)
abbrev tskV (i:Nat):TV TI:=.l (.p (.m (TI.task i)) 0 1 0)
abbrev iV (i:Int):TV TI:=.l (.v (i64 i))
abbrev bV (b:Bool):TV TI:=.l (.v (.bool b))
abbrev DM (wb:Nat)(hv:Value)(hk:Option Int):Md:=mdI (GM wb hv hk)
abbrev wk0:Nat→List Nat:=fun _=>[]
section
variable {wb:Nat} {hv:Value} {hk:Option Int}
abbrev RM (wb:Nat)(hv:Value)(hk:Option Int):=Ret (mdI (GM wb hv hk))
abbrev SM_ (wb:Nat)(hv:Value)(hk:Option Int):=Stop (mdI (GM wb hv hk))
def okM (r:TV TI)(m:IM)(L:List (LObj TI)):RM wb hv hk:=.ok r m L
def panM (v:Value)(m:IM):RM wb hv hk:=.pan v m
def nrmM (fr:AFr TI)(m:IM)(L:List (LObj TI))(dk:List TI):SM_ wb hv hk:=.norm ⟨fr,m,L,dk⟩
def retM (fr:AFr TI)(m:IM)(L:List (LObj TI))(dk:List TI):SM_ wb hv hk:=.ret ⟨fr,m,L,dk⟩
def exM (id:Nat)(fr:AFr TI)(m:IM)(L:List (LObj TI))(dk:List TI):SM_ wb hv hk:=.exit id ⟨fr,m,L,dk⟩
def pnM (v:Value)(fr:AFr TI)(m:IM)(L:List (LObj TI))(dk:List TI):SM_ wb hv hk:=.pan v ⟨fr,m,L,dk⟩
abbrev CM (wb:Nat)(hv:Value)(hk:Option Int):=Ctr (mdI (GM wb hv hk))
def runM (H:OpH (DM wb hv hk))(T:TabA)(l:List (FuncId×CM wb hv hk))(ld:List (LoopD (DM wb hv hk)))(wk:Nat→List Nat)(N:Nat)(fn:Func)(vs:List (TV TI))(m:IM):Option (RM wb hv hk):=runF (D:=DM wb hv hk) H T l ld wk N fn vs m
def roundM (H:OpH (DM wb hv hk))(T:TabA)(l:List (FuncId×CM wb hv hk))(li:List (LoopD (DM wb hv hk)))(wk:Nat→List Nat)(N:Nat)(fn:Func)(LS:List (Nat×Code))(d:LoopD (DM wb hv hk))(vs:List (TV TI))(m:IM)(L:List (LObj TI))(dk:List TI):Option (SM_ wb hv hk):=roundF (D:=DM wb hv hk) H T l li wk N fn LS d vs m L dk
def iterM (H:OpH (DM wb hv hk))(T:TabA)(l:List (FuncId×CM wb hv hk))(li:List (LoopD (DM wb hv hk)))(wk:Nat→List Nat)(N:Nat)(fn:Func)(LS:List (Nat×Code))(d:LoopD (DM wb hv hk))(k:Nat)(vs:List (TV TI))(m:IM)(L:List (LObj TI))(dk:List TI):Option (SM_ wb hv hk):=iterF (D:=DM wb hv hk) H T l li wk N fn LS d k vs m L dk
theorem iterM_succ {H:OpH (DM wb hv hk)}{T:TabA}{l:List (FuncId×CM wb hv hk)}{li:List (LoopD (DM wb hv hk))}{wk:Nat→List Nat}{N:Nat}{fn:Func}{LS:List (Nat×Code)}{d:LoopD (DM wb hv hk)}{k:Nat}{vs:List (TV TI)}(vs':List (TV TI)){m m':IM}{L L':List (LObj TI)}{dk dk':List TI}(h:roundM H T l li wk N fn LS d vs m L dk=some (nrmM (zipK d.ks vs') m' L' dk')):iterM H T l li wk N fn LS d (k+1) vs m L dk=iterM H T l li wk N fn LS d k vs' m' L' dk':=iterF_succ h
theorem iterM_exit {H:OpH (DM wb hv hk)}{T:TabA}{l:List (FuncId×CM wb hv hk)}{li:List (LoopD (DM wb hv hk))}{wk:Nat→List Nat}{N:Nat}{fn:Func}{LS:List (Nat×Code)}{d:LoopD (DM wb hv hk)}{k:Nat}{vs:List (TV TI)}{m:IM}{L:List (LObj TI)}{dk:List TI}{o:SM_ wb hv hk}(h:roundM H T l li wk N fn LS d vs m L dk=some o)(hn:∀s,o≠.norm s):iterM H T l li wk N fn LS d (k+1) vs m L dk=some o:=iterF_exit h hn
def cNote (wb:Nat)(hv:Value)(hk:Option Int):CM wb hv hk:=⟨fun vs m κ=>match vs with
 |[.l (.p (.m .mach) 0 1 0),.l (.v (.int .i64 k)),.l (.v (.int .i64 t)),.l (.v (.int .i64 n))]=>match IM.note m k t n with|none=>none|some m'=>κ (.tup []) [] m' [1] []
 |_=>none⟩
def cReady (wb:Nat)(hv:Value)(hk:Option Int):CM wb hv hk:=⟨fun vs m κ=>match vs with
 |[.l (.p (.m .mach) 0 1 0),.l (.v (.int .i64 i))]=>natOf i fun i=>match IM.ready m i with|none=>none|some m'=>κ (.tup []) [] m' [4] []
 |_=>none⟩
def cSpawn (wb:Nat)(hv:Value)(hk:Option Int):CM wb hv hk:=⟨fun vs m κ=>match vs with
 |[.l (.p (.m .mach) 0 1 0),.l (.v (.int .i64 b))]=>match IM.spawn m b with|none=>none|some m'=>κ (.tup []) [] m' [3,4] [6,7,8]
 |_=>none⟩
def cWaited (wb:Nat)(hv:Value)(hk:Option Int):CM wb hv hk:=⟨fun vs m κ=>match vs with
 |[.l (.p (.m .mach) 0 1 0),.l (.p (.m (.task k)) 0 1 0),.l (.v (.int .i64 s))]=>match IM.waited m k s with|none=>none|some m'=>κ (.tup []) [] m' [] []
 |_=>none⟩
def cFinish (wb:Nat)(hv:Value)(hk:Option Int):CM wb hv hk:=⟨fun vs m κ=>match vs with
 |[.l (.p (.m .mach) 0 1 0),.l (.v (.int .i64 i)),.l (.v (.int .i64 s))]=>natOf i fun i=>match IM.finish m i s with|none=>none|some m'=>κ (.tup []) [] m' [4,13] []
 |_=>none⟩
def cFail (wb:Nat)(hv:Value)(hk:Option Int):CM wb hv hk:=⟨fun vs m κ=>match vs with
 |[.l (.p (.m .mach) 0 1 0),.l (.v (.int .i64 i)),.l (.v (.int .i64 c))]=>natOf i fun i=>match IM.fail m i c with|none=>none|some m'=>κ (.tup []) [] m' [1,4,13] []
 |_=>none⟩
def cUnline (wb:Nat)(hv:Value)(hk:Option Int):CM wb hv hk:=⟨fun vs m κ=>match vs with
 |[.l (.p (.m .mach) 0 1 0),.l (.v (.int .i64 c)),.l (.v (.int .i64 i))]=>natOf c fun c=>natOf i fun i=>match IM.unline m c i with|none=>none|some m'=>κ (.tup []) [] m' [12] []
 |_=>none⟩
def cLeave (wb:Nat)(hv:Value)(hk:Option Int):CM wb hv hk:=⟨fun vs m κ=>match vs with
 |[.l (.p (.m .mach) 0 1 0),.l (.v (.int .i64 i))]=>natOf i fun i=>match IM.leave m i with|none=>none|some m'=>κ (.tup []) [] m' [8,12] []
 |_=>none⟩
def cGets (wb:Nat)(hv:Value)(hk:Option Int):CM wb hv hk:=⟨fun vs m κ=>match vs with
 |[.l (.p (.m .mach) 0 1 0),.l (.v (.int .i64 i)),.l (.v (.int .i64 c)),.l (.v (.int .i64 n)),.l (.v (.bool b))]=>natOf i fun i=>natOf c fun c=>match IM.gets m i c n b with|none=>none|some m'=>κ (.tup []) [] m' [] []
 |_=>none⟩
def cSend (wb:Nat)(hv:Value)(hk:Option Int):CM wb hv hk:=⟨fun vs m κ=>match vs with
 |[.l (.p (.m .mach) 0 1 0),.l (.v (.int .i64 c)),.l (.v (.int .i64 n))]=>natOf c fun c=>match IM.send m c n with|none=>none|some q=>κ (.l (.v (.bool q.2))) [] q.1 [4,8,10,12] []
 |_=>none⟩
def cTake (wb:Nat)(hv:Value)(hk:Option Int):CM wb hv hk:=⟨fun vs m κ=>match vs with
 |[.l (.p (.m .mach) 0 1 0),.l (.v (.int .i64 c))]=>natOf c fun c=>match IM.take m c with|none=>none|some q=>κ (.tup [.inl (.v (i64 q.2.1)),.inl (.v (.bool q.2.2))]) [] q.1 [4,10,11] []
 |_=>none⟩
def cLine (wb:Nat)(hv:Value)(hk:Option Int):CM wb hv hk:=⟨fun vs m κ=>match vs with
 |[.l (.p (.m .mach) 0 1 0),.l (.v (.int .i64 i)),.l (.sl (.m .arg) 0 1 n)]=>natOf i fun i=>if n=m.arg.length∧n<1000000 then (match IM.line m i m.arg with|none=>none|some m'=>κ (.tup []) [] m' [8,12] []) else none
 |_=>none⟩
abbrev stpV (s:_root_.Beat.Step):TV TI:=.agg [.v (i64 s.op),.v (i64 s.a),.v (i64 s.b),.v (i64 s.n),.v (i64 s.size)]
def cStep (wb:Nat)(hv:Value)(hk:Option Int):CM wb hv hk:=⟨fun vs m κ=>match vs with
 |[.l (.p (.m .mach) 0 1 0),.l (.v (.int .i64 i)),.l (.p (.m (.task i')) 0 1 0),.agg [.v (.int .i64 op),.v (.int .i64 a),.v (.int .i64 b),.v (.int .i64 n),.v (.int .i64 z)]]=>natOf i fun i=>if i'=i then (match IM.step m i ⟨op,a,b,n,z⟩ with|none=>none|some m'=>κ (.tup []) [] m' [1,3,4,7,8,10,11,12,13] [6,7,8]) else none
 |_=>none⟩
def cClose (wb:Nat)(hv:Value)(hk:Option Int):CM wb hv hk:=⟨fun vs m κ=>match vs with
 |[.l (.p (.m .mach) 0 1 0),.l (.v (.int .i64 c))]=>natOf c fun c=>match IM.close m c with|none=>none|some m'=>κ (.tup []) [] m' [1,4,8,11,12,13] []
 |_=>none⟩
end
end Go.Beat
end
section
namespace Beat
@[simp] theorem ITask.wPc_blocks (s:ITask) (x0):(s.wPc x0).blocks=s.blocks:=rfl
@[simp] theorem ITask.wPc_regs (s:ITask) (x0):(s.wPc x0).regs=s.regs:=rfl
@[simp] theorem ITask.wState_regs (s:ITask) (x0):(s.wState x0).regs=s.regs:=rfl
@[simp] theorem ITask.wA_blocks (s:ITask) (x0):(s.wA x0).blocks=s.blocks:=rfl
@[simp] theorem ITask.wA_regs (s:ITask) (x0):(s.wA x0).regs=s.regs:=rfl
@[simp] theorem ITask.wOp_blocks (s:ITask) (x0):(s.wOp x0).blocks=s.blocks:=rfl
@[simp] theorem ITask.wOp_regs (s:ITask) (x0):(s.wOp x0).regs=s.regs:=rfl
@[simp] theorem ITask.wAsked_blocks (s:ITask) (x0):(s.wAsked x0).blocks=s.blocks:=rfl
@[simp] theorem ITask.wAsked_regs (s:ITask) (x0):(s.wAsked x0).regs=s.regs:=rfl
@[simp] theorem ITask.wTarget_regs (s:ITask) (x0):(s.wTarget x0).regs=s.regs:=rfl
@[simp] theorem ITask.wBlocks_wBlocks (s:ITask) (x0 y0):(s.wBlocks x0).wBlocks y0=s.wBlocks y0:=rfl
@[simp] theorem ITask.wRegs_blocks (s:ITask) (x0):(s.wRegs x0).blocks=s.blocks:=rfl
@[simp] theorem ITask.wRegs_regs (s:ITask) (x0):(s.wRegs x0).regs=x0:=rfl
@[simp] theorem ITask.wRegs_op (s:ITask) (x0):(s.wRegs x0).op=s.op:=rfl
@[simp] theorem ITask.wRegs_pick0 (s:ITask) (x0):(s.wRegs x0).pick0=s.pick0:=rfl
@[simp] theorem ITask.wRegs_wRegs (s:ITask) (x0 y0):(s.wRegs x0).wRegs y0=s.wRegs y0:=rfl
@[simp] theorem IChan.wClosed_senders (s:IChan) (x0):(s.wClosed x0).senders=s.senders:=rfl
@[simp] theorem IChan.wClosed_takers (s:IChan) (x0):(s.wClosed x0).takers=s.takers:=rfl
@[simp] theorem IChan.wNums_nums (s:IChan) (x0):(s.wNums x0).nums=x0:=rfl
@[simp] theorem IChan.wNums_senders (s:IChan) (x0):(s.wNums x0).senders=s.senders:=rfl
@[simp] theorem IChan.wNums_wNums (s:IChan) (x0 y0):(s.wNums x0).wNums y0=s.wNums y0:=rfl
@[simp] theorem IChan.wSenders_nums (s:IChan) (x0):(s.wSenders x0).nums=s.nums:=rfl
@[simp] theorem IM.wAsks_tasks (s:IM) (x0):(s.wAsks x0).tasks=s.tasks:=rfl
@[simp] theorem IM.wAsks_chans (s:IM) (x0):(s.wAsks x0).chans=s.chans:=rfl
@[simp] theorem IM.wAsks_now (s:IM) (x0):(s.wAsks x0).now=s.now:=rfl
@[simp] theorem IM.wAsks_wait (s:IM) (x0):(s.wAsks x0).wait=s.wait:=rfl
@[simp] theorem IM.wStates_tasks (s:IM) (x0):(s.wStates x0).tasks=s.tasks:=rfl
@[simp] theorem IM.wStates_wStates (s:IM) (x0 y0):(s.wStates x0).wStates y0=s.wStates y0:=rfl
@[simp] theorem IM.wArg_tasks (s:IM) (x0):(s.wArg x0).tasks=s.tasks:=rfl
@[simp] theorem IM.wArg_chans (s:IM) (x0):(s.wArg x0).chans=s.chans:=rfl
@[simp] theorem IM.wArg_wArg (s:IM) (x0 y0):(s.wArg x0).wArg y0=s.wArg y0:=rfl
@[simp] theorem IM.wChansL_p (s:IM) (x0):(s.wChansL x0).p=s.p:=rfl
@[simp] theorem IM.setT_tasks (s:IM) (i t):(s.setT i t).tasks=s.tasks.set i t:=rfl
@[simp] theorem IM.setC_tasks (s:IM) (i t):(s.setC i t).tasks=s.tasks:=rfl
@[simp] theorem IM.setT_chans (s:IM) (i t):(s.setT i t).chans=s.chans:=rfl
@[simp] theorem IM.setT_now (s:IM) (i t):(s.setT i t).now=s.now:=rfl
@[simp] theorem IM.setT_wait (s:IM) (i t):(s.setT i t).wait=s.wait:=rfl
@[simp] theorem IM.setT_arg (s:IM) (i t):(s.setT i t).arg=s.arg:=rfl
@[simp] theorem IM.setC_arg (s:IM) (i t):(s.setC i t).arg=s.arg:=rfl
@[simp] theorem IM.setT_setT (m:IM) (i:Nat) (t u:ITask):(m.setT i t).setT i u=m.setT i u:=by simp[IM.setT]
@[simp] theorem IM.setC_setC (m:IM) (i:Nat) (t u:IChan):(m.setC i t).setC i u=m.setC i u:=by simp[IM.setC]
@[simp] theorem IChan.wSenders_wNums (c:IChan) (a b):(c.wSenders a).wNums b=(c.wNums b).wSenders a:=rfl
@[simp] theorem IM.setT_wAsks (m:IM) (i:Nat) (t:ITask) (x:Int):(m.setT i t).wAsks x=(m.wAsks x).setT i t:=rfl
@[simp] theorem w64_wrap (x:Int):w64 x=Go.IntKind.i64.wrap x:=rfl
theorem push_some {α:Type} {xs:List α} {x:α} {l:List α} (h:push xs x=some l):xs.length<1000000∧l=xs++[x]:=by
 unfold push at h
 split at h
 ·exact⟨by assumption,(Option.some.inj h).symm⟩
 ·cases h
theorem setR_some {t t':ITask}{a v:Int}(h:t.setR a v=some t'):0≤a∧a<4∧t.regs.length=4∧t'=t.wRegs (t.regs.set a.toNat v):=by
 unfold ITask.setR at h
 split at h
 ·rename_i g
  exact⟨g.1,g.2.1,g.2.2,(Option.some.inj h).symm⟩
 ·cases h
theorem getR_some {t:ITask}{a v:Int}(h:t.getR a=some v):0≤a∧a<4∧t.regs[a.toNat]?=some v:=by
 unfold ITask.getR at h
 split at h
 ·rename_i g
  exact⟨g.1,g.2,h⟩
 ·cases h
theorem chanNo_some {b:Int}{c:Nat}(h:chanNo b=some c):b=c:=by
 unfold chanNo at h
 split at h
 ·have:=Option.some.inj h
  omega
 ·cases h
end Beat
namespace Go.Beat
open Go _root_.Beat
@[simp] theorem toNats_nats (xs:List Nat):toNats (xs.map Int.ofNat)=some xs:=by
 induction xs with
 |nil=>rfl
 |cons x xs ih=>simp[toNats,ih]
@[simp] theorem toNats_push (xs:List Nat)(i:Nat):toNats (xs.map Int.ofNat++[(i:Int)])=some (xs++[i]):=by
 have e:xs.map Int.ofNat++[(i:Int)]=(xs++[i]).map Int.ofNat:=by simp
 rw[e,toNats_nats]
@[simp] theorem toNats_one (i:Nat):toNats [(i:Int)]=some [i]:=by simp[toNats]
@[simp] theorem toPairs_pairs (xs:List (Int×Int)):toPairs (xs.map pairRow)=some xs:=by
 induction xs with
 |nil=>rfl
 |cons x xs ih=>simp[toPairs,pairRow,ih]
@[simp] theorem toPairs_push (xs:List (Int×Int))(a b:Int):toPairs (xs.map pairRow++[[a,b]])=some (xs++[(a,b)]):=by
 have e:xs.map pairRow++[[a,b]]=(xs++[(a,b)]).map pairRow:=by simp[pairRow]
 rw[e,toPairs_pairs]
@[simp] theorem toRecs_recs (xs:List Rec):toRecs (xs.map recRow)=some xs:=by
 induction xs with
 |nil=>rfl
 |cons x xs ih=>simp[toRecs,recRow,ih]
@[simp] theorem toRecs_push (xs:List Rec)(a b c d:Int):toRecs (xs.map recRow++[[a,b,c,d]])=some (xs++[⟨a,b,c,d⟩]):=by
 have e:xs.map recRow++[[a,b,c,d]]=(xs++[(⟨a,b,c,d⟩:Rec)]).map recRow:=by simp[recRow]
 rw[e,toRecs_recs]
@[simp] theorem some_bindT {α β:Type}(a:α)(f:α→Option β):(some a).bind f=f a:=rfl
@[simp] theorem take_map' {α β:Type} (f:α→β) (xs:List α):(xs.map f).take xs.length=xs.map f:=List.take_of_length_le (by simp)
@[simp] theorem take_map_succ {α β:Type} (f:α→β) (xs:List α) (a:β):(xs.map f++[a]).take (xs.length+1)=xs.map f++[a]:=List.take_of_length_le (by simp)
@[simp] theorem take_succ' {α:Type} (xs:List α) (a:α):(xs++[a]).take (xs.length+1)=xs++[a]:=List.take_of_length_le (by simp)
theorem ble_dec (a b:Nat):Nat.ble a b=decide (a≤b):=by
 cases h:Nat.ble a b with
 |true=>exact (decide_eq_true (Nat.le_of_ble_eq_true h)).symm
 |false=>exact (decide_eq_false fun h2=>by rw[Nat.ble_eq_true_of_le h2] at h;cases h).symm
theorem int_beq (a b:Int):(a==b)=decide (a=b):=by by_cases h:a=b<;>simp [h]
theorem int_bne (a b:Int):(a !=b)=decide (a≠b):=by by_cases h:a=b<;>simp [h]
attribute [local simp] int_beq int_bne ble_dec
theorem wrap_small' {n:Int}(h0: -9223372036854775808≤n)(h1:n<9223372036854775808):IntKind.i64.wrap n=n:=by
 rw[IntKind.wrap_i64];omega
theorem wrap_succ {j:Nat}(h:j<1000000000):IntKind.i64.wrap ((j:Int)+1)=((j:Int)+1):=wrap_small' (by omega) (by omega)
@[simp] theorem take_rev {α β:Type}(f:α→β)(xs:List α):(xs.map f).reverse.take xs.length=(xs.map f).reverse:=List.take_of_length_le (by simp)
@[simp] theorem take_rev_succ {α β:Type} (f:α→β) (xs:List α) (a:β):((xs.map f).reverse++[a]).take (xs.length+1)=(xs.map f).reverse++[a]:=List.take_of_length_le (by simp)
@[simp] theorem toPairs_rev (xs:List (Int×Int)):toPairs (xs.map pairRow).reverse=some xs.reverse:=by rw[←List.map_reverse,toPairs_pairs]
@[simp] theorem toPairs_rev_push (xs:List (Int×Int)) (a b:Int):toPairs ((xs.map pairRow).reverse++[[a,b]])=some (xs.reverse++[(a,b)]):=by rw[←List.map_reverse,toPairs_push]
theorem get_some {α:Type} {l:List α} {i:Nat} {x:α} (h:l[i]?=some x):i<l.length:=(List.getElem?_eq_some_iff.1 h).1
end Go.Beat
end
section
namespace Go.Beat
open Go _root_.Beat Go.Proofs
attribute [local simp] int_beq int_bne ble_dec
abbrev wk121:Nat→List Nat:=fun id=>bif Nat.beq id 13 then [12,99] else []
abbrev wk102:Nat→List Nat:=fun id=>bif Nat.beq id 3 then [6] else bif Nat.beq id 41 then [6] else bif Nat.beq id 42 then [11,99] else bif Nat.beq id 36 then [13,99] else []
abbrev nilV:TV TI:=.l (.v (.slice none 0 0))
abbrev obI (ys:List Int):LObj TI:=⟨3,1,false,some (.ints .i64 ys)⟩
def outV (j:Nat)(ys:List Nat):TV TI:=bif ys.isEmpty then nilV else .l (.sl (.loc j) 0 1 ys.length)
def outL (ys:List Nat):List (LObj TI):=bif ys.isEmpty then [] else [obI (ys.map Int.ofNat)]
def lUnline (wb:Nat)(hv:Value)(hk:Option Int):LoopD (DM wb hv hk):=⟨0,[0,1,2,7,20,21,22],[0,1,2,7],0,1,some 7,fun vs m L dk κ=>match vs,L,dk with
 |[.l (.p (.m .mach) 0 1 0),.l (.v (.int .i64 c)),.l (.v (.int .i64 i)),.l (.v (.slice none 0 0)),.l (.sl (.m (.takers c')) 0 1 n),.l (.v (.int .i64 n')),.l (.v (.int .i64 0))],[],[]=>
  natOf c fun c=>natOf i fun i=>if c'=c∧n'=n then (match m.chans[c]? with
   |none=>none
   |some x=>if n=x.takers.length∧n<1000000 then
     bif (without x.takers i).isEmpty then κ (.exit 0 ⟨[(0,mchV),(1,iV c),(2,iV i),(7,nilV)],m,[],[]⟩)
     else κ (.exit 0 ⟨[(0,mchV),(1,iV c),(2,iV i),(7,.l (.sl (.loc 0) 0 1 (without x.takers i).length))],m,[obI ((without x.takers i).map Int.ofNat)],[]⟩)
    else none) else none
 |_,_,_=>none⟩
def lLeave (wb:Nat)(hv:Value)(hk:Option Int):LoopD (DM wb hv hk):=⟨0,[0,1,15,16,17],[0,1],0,0,none,fun vs m L dk κ=>match vs,L,dk with
 |[.l (.p (.m .mach) 0 1 0),.l (.v (.int .i64 i)),.l (.sl (.m (.tchans i')) 0 1 n),.l (.v (.int .i64 n')),.l (.v (.int .i64 0))],[],[]=>
  natOf i fun i=>if i'=i∧n'=n then (match m.tasks[i]? with
   |none=>none
   |some t=>if n=t.chans.length∧n<1000000 then (match IM.leaveLoop i t.chans m with
    |none=>none
    |some m'=>κ (.exit 0 ⟨[(0,mchV),(1,iV i)],m',[],[]⟩)) else none) else none
 |_,_,_=>none⟩
def lFinish (wb:Nat)(hv:Value)(hk:Option Int):LoopD (DM wb hv hk):=⟨0,[0,1,2,23,24,25],[0,1],0,0,none,fun vs m L dk κ=>match vs,L,dk with
 |[.l (.p (.m .mach) 0 1 0),.l (.v (.int .i64 i)),.l (.v (.int .i64 s)),.l (.sl (.m (.waitL i')) 0 1 n),.l (.v (.int .i64 n')),.l (.v (.int .i64 0))],[],[]=>
  natOf i fun i=>if i'=i∧n'=n∧n=(m.wait i).length∧n<1000000 then (match IM.finishLoop s (m.wait i) m with
   |none=>none
   |some m'=>κ (.exit 0 ⟨[(0,mchV),(1,iV i)],m',[],[]⟩)) else none
 |_,_,_=>none⟩
def lLineIn (wb:Nat)(hv:Value)(hk:Option Int):LoopD (DM wb hv hk):=⟨2,[0,1,6,8,9,22,23,24,31,32,33],[0,1,6,8,9,22,23,24],0,0,none,fun vs m L dk κ=>match vs,L,dk with
 |[.l (.p (.m .mach) 0 1 0),.l (.v (.int .i64 i)),.l (.p (.m (.task i')) 0 1 0),.l (.v (.int .i64 c)),.l (.v (.bool false)),.l (.sl (.m .arg) 0 1 q),.l (.v (.int .i64 q')),.l (.v (.int .i64 j)),.l (.sl (.m (.tchans i'')) 0 1 n),.l (.v (.int .i64 n')),.l (.v (.int .i64 0))],[],[]=>
  natOf c fun c=>if i''=i'∧n'=n then (match m.tasks[i']? with
   |none=>none
   |some t=>if n=t.chans.length∧n<1000000 then
    κ (.exit 2 ⟨[(0,mchV),(1,iV i),(6,tskV i'),(8,iV c),(9,bV (decide (c∈t.chans))),(22,.l (.sl (.m .arg) 0 1 q)),(23,iV q'),(24,iV j)],m,[],[]⟩) else none) else none
 |_,_,_=>none⟩
def lLine (wb:Nat)(hv:Value)(hk:Option Int):LoopD (DM wb hv hk):=⟨0,[0,1,6,22,23,24],[0],0,0,none,fun vs m L dk κ=>match vs,L,dk with
 |[.l (.p (.m .mach) 0 1 0),.l (.v (.int .i64 i)),.l (.p (.m (.task i')) 0 1 0),.l (.sl (.m .arg) 0 1 n),.l (.v (.int .i64 n')),.l (.v (.int .i64 0))],[],[]=>
  natOf i fun i=>if i'=i∧n'=n∧n=m.arg.length∧n<1000000∧i<m.tasks.length then (match IM.lineLoop i m.arg m with
   |none=>none
   |some m'=>κ (.exit 0 ⟨[(0,mchV)],m',[],[]⟩)) else none
 |_,_,_=>none⟩
abbrev obP (c d:Int):LObj TI:=⟨3,1,false,some (.cells [.v (i64 c),.v (i64 d)])⟩
abbrev obS (o1 o2 o3 o4 o5:Int):LObj TI:=⟨100,1,true,some (.cells [.v (i64 o1),.v (i64 o2),.v (i64 o3),.v (i64 o4),.v (i64 o5)])⟩
def lPick (wb:Nat)(hv:Value)(hk:Option Int):LoopD (DM wb hv hk):=⟨1,[0,1,15,16,21,406,407,408],[0,1,15,16,21],2,3,some 21,fun vs m L dk κ=>match vs,L,dk with
 |[.l (.p (.m .mach) 0 1 0),.l (.v (.int .i64 i)),.l (.v (.int .i64 c)),.l (.v (.int .i64 d)),.l (.v (.slice none 0 0)),.l (.sl (.loc 1) 0 1 2),.l (.v (.int .i64 2)),.l (.v (.int .i64 0))],[⟨100,1,true,some (.cells [.v (.int .i64 o1),.v (.int .i64 o2),.v (.int .i64 o3),.v (.int .i64 o4),.v (.int .i64 o5)])⟩,⟨3,1,false,some (.cells [.v (.int .i64 c'),.v (.int .i64 d')])⟩],[]=>
  natOf c fun c=>natOf d fun d=>if c'=c∧d'=d then (match m.chans[c]? with
   |none=>none
   |some x=>(match m.chans[d]? with
    |none=>none
    |some y=>bif x.closed then
      bif y.closed then κ (.exit 1 ⟨[(0,mchV),(1,iV i),(15,iV c),(16,iV d),(21,nilV)],m,[obS o1 o2 o3 o4 o5,obP c d],[]⟩)
      else κ (.exit 1 ⟨[(0,mchV),(1,iV i),(15,iV c),(16,iV d),(21,.l (.sl (.loc 2) 0 1 1))],m,[obS o1 o2 o3 o4 o5,obP c d,obI [(d:Int)]],[]⟩)
     else bif y.closed then κ (.exit 1 ⟨[(0,mchV),(1,iV i),(15,iV c),(16,iV d),(21,.l (.sl (.loc 2) 0 1 1))],m,[obS o1 o2 o3 o4 o5,obP c d,obI [(c:Int)]],[]⟩)
      else κ (.exit 1 ⟨[(0,mchV),(1,iV i),(15,iV c),(16,iV d),(21,.l (.sl (.loc 2) 0 1 2))],m,[obS o1 o2 o3 o4 o5,obP c d,obI [(c:Int),(d:Int)]],[]⟩))) else none
 |_,_,_=>none⟩
abbrev obW (rs:List (List Int)):LObj TI:=⟨138,2,false,some (.rows k2 rs)⟩
def lCloseFail (wb:Nat)(hv:Value)(hk:Option Int):LoopD (DM wb hv hk):=⟨0,[0,1,5,40,41,42],[0,1,5],2,2,none,fun vs m L dk κ=>match vs,L,dk with
 |[.l (.p (.m .mach) 0 1 0),.l (.v (.int .i64 c)),.l (.sl (.loc 0) 0 1 q),.l (.sl (.loc 1) 0 2 n),.l (.v (.int .i64 n')),.l (.v (.int .i64 0))],[⟨3,1,false,some (.ints .i64 xs)⟩,⟨138,2,false,some (.rows ks rs)⟩],[]=>
  match toPairs rs with
  |none=>none
  |some ws=>if ks=k2∧n'=n∧n=ws.length∧n<1000000 then (match IM.closeFail ws m with
   |none=>none
   |some m'=>κ (.exit 0 ⟨[(0,mchV),(1,iV c),(5,.l (.sl (.loc 0) 0 1 q))],m',[obI xs,obW rs],[]⟩)) else none
 |_,_,_=>none⟩
def lCloseRest (wb:Nat)(hv:Value)(hk:Option Int):LoopD (DM wb hv hk):=⟨4,[0,1,10,11,12,58,59,60,74,75,76],[0,1,10,11,12,58,59,60],1,2,some 12,fun vs m L dk κ=>match vs,L,dk with
 |[.l (.p (.m .mach) 0 1 0),.l (.v (.int .i64 c)),.l (.v (.int .i64 k)),.l (.p (.m (.task i)) 0 1 0),.l (.v (.slice none 0 0)),.l (.sl (.loc 0) 0 1 q),.l (.v (.int .i64 q')),.l (.v (.int .i64 j)),.l (.sl (.m (.tchans i')) 0 1 n),.l (.v (.int .i64 n')),.l (.v (.int .i64 0))],[⟨3,1,false,some (.ints .i64 xs)⟩],[]=>
  natOf c fun c=>if i'=i∧n'=n then (match m.tasks[i]? with
   |none=>none
   |some t=>if n=t.chans.length∧n<1000000 then
     bif (without t.chans c).isEmpty then κ (.exit 4 ⟨[(0,mchV),(1,iV c),(10,iV k),(11,tskV i),(12,nilV),(58,.l (.sl (.loc 0) 0 1 q)),(59,iV q'),(60,iV j)],m,[obI xs],[]⟩)
     else κ (.exit 4 ⟨[(0,mchV),(1,iV c),(10,iV k),(11,tskV i),(12,.l (.sl (.loc 1) 0 1 (without t.chans c).length)),(58,.l (.sl (.loc 0) 0 1 q)),(59,iV q'),(60,iV j)],m,[obI xs,obI ((without t.chans c).map Int.ofNat)],[]⟩)
    else none) else none
 |_,_,_=>none⟩
def lCloseTake (wb:Nat)(hv:Value)(hk:Option Int):LoopD (DM wb hv hk):=⟨2,[0,1,58,59,60],[0],1,0,none,fun vs m L dk κ=>match vs,L,dk with
 |[.l (.p (.m .mach) 0 1 0),.l (.v (.int .i64 c)),.l (.sl (.loc 0) 0 1 n),.l (.v (.int .i64 n')),.l (.v (.int .i64 0))],[⟨3,1,false,some (.ints .i64 xs)⟩],[]=>
  natOf c fun c=>match toNats xs with
  |none=>none
  |some ks=>if n'=n∧n=ks.length∧n<1000000 then (match IM.closeTake c ks m with
   |none=>none
   |some m'=>κ (.exit 2 ⟨[(0,mchV)],m',[],[]⟩)) else none
 |_,_,_=>none⟩
end Go.Beat
end
