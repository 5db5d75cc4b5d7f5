/-
  Texts joined by a program (shake.py), without what the claim does not use; printed walks among them (print.sh), and own ones.
-/
import Derived.Test.YtejjedooecephaaPipe37
section
set_option linter.unusedSimpArgs false
namespace Beat
abbrev stepsP (n:Int):List Step:=[⟨7,0,1,0,0⟩,⟨1,1,0,n,0⟩,⟨15,1,0,0,2⟩,⟨2,2,1,1,0⟩,⟨9,2,0,0,0⟩,⟨13,0,0,0,0⟩]
abbrev stepsC:List Step:=[⟨1,1,0,1,0⟩,⟨15,1,0,0,3⟩,⟨10,0,0,0,0⟩,⟨16,3,0,0,1⟩,⟨3,0,0,0,0⟩,⟨2,1,3,0,0⟩,⟨15,1,0,0,4⟩,⟨10,0,0,0,0⟩,⟨2,1,3,0,0⟩,⟨16,3,0,0,1⟩,⟨3,0,0,0,0⟩]
structure Jk where
 a:Int
 op:Int
 num:Int
 asked:Int
 target:Int
def tk_ (body pc:Int)(bl:List (Int×Int))(r0 r1 r2 r3:Int)(st:Int)(cs:List Nat)(j:Jk):ITask:=⟨body,pc,bl,[r0,r1,r2,r3],st,j.a,j.op,j.num, -1,j.asked,j.target,cs,0,0⟩
structure Pip where
  rcs:List Rec
  tk:Nat
  us:Nat
  row:List Nat
  P:ITask
  C:ITask
  nums:List Int
  senders:List (Int×Int)
  takers:List Nat
  closed:Bool
  arg:List Nat
def Pip.m (n room:Int)(slice:Nat)(x:Pip):IM:=
 {p:=⟨[stepsP n,stepsC],[room],slice⟩,inp:=⟨[],5000,10⟩,recs:=x.rcs,ticks:=x.tk,row:=x.row,tasks:=[x.P,x.C],chans:=[⟨room,x.closed,x.nums,x.senders,x.takers⟩],asks:=x.tk,used:=x.us,arg:=x.arg,fed:=some 0}
theorem w64_nat {k:Nat}(h:k<5000):w64 ((k:Int)+1)=((k+1:Nat):Int):=by
 unfold w64;rw[Go.IntKind.wrap_i64];omega
attribute [local simp] Go.Beat.int_beq Go.Beat.int_bne Go.Beat.ble_dec
attribute [-simp] w64_wrap
section
variable {n room:Int} {slice:Nat} {x:Pip} {j:Jk} {r0 r1 r2 r3:Int}
theorem round_go {m m2:IM}{i:Nat}{steps:List Step}{t:ITask}{bs:List (Int×Int)}{pc:Nat}{q:Bool}{s:Step}(ht:m.tasks[i]?=some t)(hs:t.state=1)(hu:m.used≠m.p.slice)(hp:popQ steps t.blocks t.pc=some (bs,(pc:Int),q))(hb:t.blocks.length<1000000∧steps.length<1000000)(hpc:steps[pc]?=some s)(hk:m.ticks≠m.inp.ticks)(h:IM.step (((m.setT i ((t.wBlocks bs).wPc pc)).wTicks (w64 (m.ticks+1))).wUsed (w64 (m.used+1))) i s=some m2):IM.roundQ i steps m=some (m2,.go):=by
 have hi:=(List.getElem?_eq_some_iff.1 ht).1
 have hn:(pc:Int)≠(steps.length:Int):=by
  have:=(List.getElem?_eq_some_iff.1 hpc).1;omega
 unfold IM.roundQ;simp only[ht,bind,Option.bind_some,hs,ne_eq,not_true_eq_false,if_false,hu];unfold IM.popT;simp only[ht,bind,Option.bind_some,hp,hb,and_self,if_true]
 have e1:(m.setT i ((t.wBlocks bs).wPc pc)).tasks[i]?=some ((t.wBlocks bs).wPc pc):=by simp[IM.setT,hi]
 have e2:(m.setT i ((t.wBlocks bs).wPc pc)).ticks=m.ticks:=rfl;have e3:(m.setT i ((t.wBlocks bs).wPc pc)).inp=m.inp:=rfl;have e4:(m.setT i ((t.wBlocks bs).wPc pc)).used=m.used:=rfl;have e5:((t.wBlocks bs).wPc pc).pc=pc:=rfl;simp only[e1,Option.bind_some,e5,hn,if_false,e2,e3,hk,e4]
 have e6:chanNo (pc:Int)=some pc:=by simp[chanNo]
 simp only[e6,Option.bind_some,hpc,h]
def Pip.go (x:Pip):Pip:={x with tk:=x.tk+1,us:=x.us+1}
abbrev Pip.roundP (n room:Int)(slice:Nat)(x:Pip):=IM.roundQ 0 (stepsP n) (x.m n room slice)
abbrev Pip.roundC (n room:Int)(slice:Nat)(x:Pip):=IM.roundQ 1 stepsC (x.m n room slice)
def Jk.nx (j:Jk)(a op:Int)(k:Nat):Jk:=⟨a,op,j.num,((k+1:Nat):Int),j.target⟩
theorem w64_num:w64 1=1∧w64 2=2∧w64 3=3∧w64 4=4∧w64 5=5∧w64 6=6∧w64 7=7∧w64 8=8∧w64 9=9∧w64 10=10∧w64 11=11∧w64 0=0:=by decide
theorem w64_same {k:Nat}(h:k<200):w64 (k:Int)=k:=by
 unfold w64;rw[Go.IntKind.wrap_i64];omega
theorem w64_add {k:Nat}(h:k<200):w64 ((k:Int)+1)=(k:Int)+1:=by
 unfold w64;rw[Go.IntKind.wrap_i64];omega
theorem w64_flag {f:Nat}(h:f<2):w64 (f:Int)=f:=by
 unfold w64;rw[Go.IntKind.wrap_i64];omega
variable {k f:Nat}
theorem P1 (hk:x.tk<5000)(hu:x.us<slice)(hs:slice<5000)(h:x.P=tk_ 0 1 [] r0 r1 r2 r3 1 [] j):x.roundP n room slice=some (({x.go with P:=tk_ 0 2 [] r0 n r2 r3 1 [] (j.nx 1 1 x.tk)}:Pip).m n room slice,.go):=by
 refine round_go (t:=x.P) (pc:=1) (bs:=[]) (q:=false) (s:=⟨1,1,0,n,0⟩) rfl (by rw[h];rfl) ?_ (by rw[h];rfl) (by rw[h];exact⟨of_decide_eq_true rfl,of_decide_eq_true rfl⟩) rfl ?_ ?_
 ·show (x.us:Int)≠(slice:Int)
  omega
 ·show (x.tk:Int)≠5000
  omega
 ·show IM.step ((((x.m n room slice).setT 0 _).wTicks (w64 ((x.tk:Int)+1))).wUsed (w64 ((x.us:Int)+1))) 0 _=_
  rw[w64_nat hk,w64_nat (by omega:x.us<5000),h];simp[IM.step,IM.setT,IM.setC,Pip.m,IM.wTicks,IM.wUsed,tk_,ITask.wBlocks,ITask.wPc,ITask.wA,ITask.wOp,ITask.wAsked,IM.wAsks,IM.act,ITask.setR,ITask.getR,ITask.wRegs,ITask.wState,ITask.wTarget,ITask.block,push,lim,w64_nat hk,Pip.go,Jk.nx,w64_num,hk]
theorem P2a (hk:x.tk<5000)(hu:x.us<slice)(hs:slice<5000)(h:x.P=tk_ 0 2 [] r0 ((k:Nat)+1:Int) r2 r3 1 [] j)(hk2:k<200):x.roundP n room slice=some (({x.go with P:=tk_ 0 3 [(2,5)] r0 k r2 r3 1 [] (j.nx 1 15 x.tk)}:Pip).m n room slice,.go):=by
 refine round_go (t:=x.P) (pc:=2) (bs:=[]) (q:=false) (s:=⟨15,1,0,0,2⟩) rfl (by rw[h];rfl) ?_ (by rw[h];rfl) (by rw[h];exact⟨of_decide_eq_true rfl,of_decide_eq_true rfl⟩) rfl ?_ ?_
 ·show (x.us:Int)≠(slice:Int)
  omega
 ·show (x.tk:Int)≠5000
  omega
 ·show IM.step ((((x.m n room slice).setT 0 _).wTicks (w64 ((x.tk:Int)+1))).wUsed (w64 ((x.us:Int)+1))) 0 _=_
  rw[w64_nat hk,w64_nat (by omega:x.us<5000),h];simp[IM.step,IM.setT,IM.setC,Pip.m,IM.wTicks,IM.wUsed,tk_,ITask.wBlocks,ITask.wPc,ITask.wA,ITask.wOp,ITask.wAsked,IM.wAsks,IM.act,ITask.setR,ITask.getR,ITask.wRegs,ITask.wState,ITask.wTarget,ITask.block,push,lim,w64_nat hk,Pip.go,Jk.nx,w64_num,hk,w64_same hk2,(by omega:(0:Int)<(k:Int)+1)]
theorem P2b (hk:x.tk<5000)(hu:x.us<slice)(hs:slice<5000)(h:x.P=tk_ 0 2 [] r0 0 r2 r3 1 [] j):x.roundP n room slice=some (({x.go with P:=tk_ 0 5 [] r0 0 r2 r3 1 [] (j.nx 1 15 x.tk)}:Pip).m n room slice,.go):=by
 refine round_go (t:=x.P) (pc:=2) (bs:=[]) (q:=false) (s:=⟨15,1,0,0,2⟩) rfl (by rw[h];rfl) ?_ (by rw[h];rfl) (by rw[h];exact⟨of_decide_eq_true rfl,of_decide_eq_true rfl⟩) rfl ?_ ?_
 ·show (x.us:Int)≠(slice:Int)
  omega
 ·show (x.tk:Int)≠5000
  omega
 ·show IM.step ((((x.m n room slice).setT 0 _).wTicks (w64 ((x.tk:Int)+1))).wUsed (w64 ((x.us:Int)+1))) 0 _=_
  rw[w64_nat hk,w64_nat (by omega:x.us<5000),h];simp[IM.step,IM.setT,IM.setC,Pip.m,IM.wTicks,IM.wUsed,tk_,ITask.wBlocks,ITask.wPc,ITask.wA,ITask.wOp,ITask.wAsked,IM.wAsks,IM.act,ITask.setR,ITask.getR,ITask.wRegs,ITask.wState,ITask.wTarget,ITask.block,push,lim,w64_nat hk,Pip.go,Jk.nx,w64_num,hk]
theorem P2xa (hk:x.tk<5000)(hu:x.us<slice)(hs:slice<5000)(h:x.P=tk_ 0 5 [(2,5)] r0 ((k:Nat)+1:Int) r2 r3 1 [] j)(hk2:k<200):x.roundP n room slice=some (({x.go with P:=tk_ 0 3 [(2,5)] r0 k r2 r3 1 [] (j.nx 1 15 x.tk)}:Pip).m n room slice,.go):=by
 refine round_go (t:=x.P) (pc:=2) (bs:=[]) (q:=true) (s:=⟨15,1,0,0,2⟩) rfl (by rw[h];rfl) ?_ (by rw[h];rfl) (by rw[h];exact⟨of_decide_eq_true rfl,of_decide_eq_true rfl⟩) rfl ?_ ?_
 ·show (x.us:Int)≠(slice:Int)
  omega
 ·show (x.tk:Int)≠5000
  omega
 ·show IM.step ((((x.m n room slice).setT 0 _).wTicks (w64 ((x.tk:Int)+1))).wUsed (w64 ((x.us:Int)+1))) 0 _=_
  rw[w64_nat hk,w64_nat (by omega:x.us<5000),h];simp[IM.step,IM.setT,IM.setC,Pip.m,IM.wTicks,IM.wUsed,tk_,ITask.wBlocks,ITask.wPc,ITask.wA,ITask.wOp,ITask.wAsked,IM.wAsks,IM.act,ITask.setR,ITask.getR,ITask.wRegs,ITask.wState,ITask.wTarget,ITask.block,push,lim,w64_nat hk,Pip.go,Jk.nx,w64_num,hk,w64_same hk2,(by omega:(0:Int)<(k:Int)+1)]
theorem P2xb (hk:x.tk<5000)(hu:x.us<slice)(hs:slice<5000)(h:x.P=tk_ 0 5 [(2,5)] r0 0 r2 r3 1 [] j):x.roundP n room slice=some (({x.go with P:=tk_ 0 5 [] r0 0 r2 r3 1 [] (j.nx 1 15 x.tk)}:Pip).m n room slice,.go):=by
 refine round_go (t:=x.P) (pc:=2) (bs:=[]) (q:=true) (s:=⟨15,1,0,0,2⟩) rfl (by rw[h];rfl) ?_ (by rw[h];rfl) (by rw[h];exact⟨of_decide_eq_true rfl,of_decide_eq_true rfl⟩) rfl ?_ ?_
 ·show (x.us:Int)≠(slice:Int)
  omega
 ·show (x.tk:Int)≠5000
  omega
 ·show IM.step ((((x.m n room slice).setT 0 _).wTicks (w64 ((x.tk:Int)+1))).wUsed (w64 ((x.us:Int)+1))) 0 _=_
  rw[w64_nat hk,w64_nat (by omega:x.us<5000),h];simp[IM.step,IM.setT,IM.setC,Pip.m,IM.wTicks,IM.wUsed,tk_,ITask.wBlocks,ITask.wPc,ITask.wA,ITask.wOp,ITask.wAsked,IM.wAsks,IM.act,ITask.setR,ITask.getR,ITask.wRegs,ITask.wState,ITask.wTarget,ITask.block,push,lim,w64_nat hk,Pip.go,Jk.nx,w64_num,hk]
theorem P3 (hk:x.tk<5000)(hu:x.us<slice)(hs:slice<5000)(h:x.P=tk_ 0 3 [(2,5)] r0 (k:Int) r2 r3 1 [] j)(hk2:k<200):x.roundP n room slice=some (({x.go with P:=tk_ 0 4 [(2,5)] r0 (k:Int) ((k:Nat)+1:Int) r3 1 [] (j.nx 2 2 x.tk)}:Pip).m n room slice,.go):=by
 refine round_go (t:=x.P) (pc:=3) (bs:=[(2,5)]) (q:=false) (s:=⟨2,2,1,1,0⟩) rfl (by rw[h];rfl) ?_ (by rw[h];rfl) (by rw[h];exact⟨of_decide_eq_true rfl,of_decide_eq_true rfl⟩) rfl ?_ ?_
 ·show (x.us:Int)≠(slice:Int)
  omega
 ·show (x.tk:Int)≠5000
  omega
 ·show IM.step ((((x.m n room slice).setT 0 _).wTicks (w64 ((x.tk:Int)+1))).wUsed (w64 ((x.us:Int)+1))) 0 _=_
  rw[w64_nat hk,w64_nat (by omega:x.us<5000),h];simp[IM.step,IM.setT,IM.setC,Pip.m,IM.wTicks,IM.wUsed,tk_,ITask.wBlocks,ITask.wPc,ITask.wA,ITask.wOp,ITask.wAsked,IM.wAsks,IM.act,ITask.setR,ITask.getR,ITask.wRegs,ITask.wState,ITask.wTarget,ITask.block,push,lim,w64_nat hk,Pip.go,Jk.nx,w64_num,hk,w64_add hk2]
theorem C0 (hk:x.tk<5000)(hu:x.us<slice)(hs:slice<5000)(h:x.C=tk_ 1 0 [] r0 r1 r2 r3 1 [] j):x.roundC n room slice=some (({x.go with C:=tk_ 1 1 [] r0 1 r2 r3 1 [] (j.nx 1 1 x.tk)}:Pip).m n room slice,.go):=by
 refine round_go (t:=x.C) (pc:=0) (bs:=[]) (q:=false) (s:=⟨1,1,0,1,0⟩) rfl (by rw[h];rfl) ?_ (by rw[h];rfl) (by rw[h];exact⟨of_decide_eq_true rfl,of_decide_eq_true rfl⟩) rfl ?_ ?_
 ·show (x.us:Int)≠(slice:Int)
  omega
 ·show (x.tk:Int)≠5000
  omega
 ·show IM.step ((((x.m n room slice).setT 1 _).wTicks (w64 ((x.tk:Int)+1))).wUsed (w64 ((x.us:Int)+1))) 1 _=_
  rw[w64_nat hk,w64_nat (by omega:x.us<5000),h];simp[IM.step,IM.setT,IM.setC,Pip.m,IM.wTicks,IM.wUsed,tk_,ITask.wBlocks,ITask.wPc,ITask.wA,ITask.wOp,ITask.wAsked,IM.wAsks,IM.act,ITask.setR,ITask.getR,ITask.wRegs,ITask.wState,ITask.wTarget,ITask.block,push,lim,w64_nat hk,Pip.go,Jk.nx,w64_num,hk]
theorem C1a (hk:x.tk<5000)(hu:x.us<slice)(hs:slice<5000)(h:x.C=tk_ 1 1 [] r0 1 r2 r3 1 [] j):x.roundC n room slice=some (({x.go with C:=tk_ 1 2 [(1,5)] r0 0 r2 r3 1 [] (j.nx 1 15 x.tk)}:Pip).m n room slice,.go):=by
 refine round_go (t:=x.C) (pc:=1) (bs:=[]) (q:=false) (s:=⟨15,1,0,0,3⟩) rfl (by rw[h];rfl) ?_ (by rw[h];rfl) (by rw[h];exact⟨of_decide_eq_true rfl,of_decide_eq_true rfl⟩) rfl ?_ ?_
 ·show (x.us:Int)≠(slice:Int)
  omega
 ·show (x.tk:Int)≠5000
  omega
 ·show IM.step ((((x.m n room slice).setT 1 _).wTicks (w64 ((x.tk:Int)+1))).wUsed (w64 ((x.us:Int)+1))) 1 _=_
  rw[w64_nat hk,w64_nat (by omega:x.us<5000),h];simp[IM.step,IM.setT,IM.setC,Pip.m,IM.wTicks,IM.wUsed,tk_,ITask.wBlocks,ITask.wPc,ITask.wA,ITask.wOp,ITask.wAsked,IM.wAsks,IM.act,ITask.setR,ITask.getR,ITask.wRegs,ITask.wState,ITask.wTarget,ITask.block,push,lim,w64_nat hk,Pip.go,Jk.nx,w64_num,hk]
theorem C1b (hk:x.tk<5000)(hu:x.us<slice)(hs:slice<5000)(h:x.C=tk_ 1 5 [(1,5)] r0 0 r2 r3 1 [] j):x.roundC n room slice=some (({x.go with C:=tk_ 1 5 [] r0 0 r2 r3 1 [] (j.nx 1 15 x.tk)}:Pip).m n room slice,.go):=by
 refine round_go (t:=x.C) (pc:=1) (bs:=[]) (q:=true) (s:=⟨15,1,0,0,3⟩) rfl (by rw[h];rfl) ?_ (by rw[h];rfl) (by rw[h];exact⟨of_decide_eq_true rfl,of_decide_eq_true rfl⟩) rfl ?_ ?_
 ·show (x.us:Int)≠(slice:Int)
  omega
 ·show (x.tk:Int)≠5000
  omega
 ·show IM.step ((((x.m n room slice).setT 1 _).wTicks (w64 ((x.tk:Int)+1))).wUsed (w64 ((x.us:Int)+1))) 1 _=_
  rw[w64_nat hk,w64_nat (by omega:x.us<5000),h];simp[IM.step,IM.setT,IM.setC,Pip.m,IM.wTicks,IM.wUsed,tk_,ITask.wBlocks,ITask.wPc,ITask.wA,ITask.wOp,ITask.wAsked,IM.wAsks,IM.act,ITask.setR,ITask.getR,ITask.wRegs,ITask.wState,ITask.wTarget,ITask.block,push,lim,w64_nat hk,Pip.go,Jk.nx,w64_num,hk]
theorem C1c (hk:x.tk<5000)(hu:x.us<slice)(hs:slice<5000)(h:x.C=tk_ 1 5 [(3,5),(1,5)] r0 0 r2 r3 1 [] j):x.roundC n room slice=some (({x.go with C:=tk_ 1 5 [] r0 0 r2 r3 1 [] (j.nx 1 15 x.tk)}:Pip).m n room slice,.go):=by
 refine round_go (t:=x.C) (pc:=1) (bs:=[]) (q:=true) (s:=⟨15,1,0,0,3⟩) rfl (by rw[h];rfl) ?_ (by rw[h];rfl) (by rw[h];exact⟨of_decide_eq_true rfl,of_decide_eq_true rfl⟩) rfl ?_ ?_
 ·show (x.us:Int)≠(slice:Int)
  omega
 ·show (x.tk:Int)≠5000
  omega
 ·show IM.step ((((x.m n room slice).setT 1 _).wTicks (w64 ((x.tk:Int)+1))).wUsed (w64 ((x.us:Int)+1))) 1 _=_
  rw[w64_nat hk,w64_nat (by omega:x.us<5000),h];simp[IM.step,IM.setT,IM.setC,Pip.m,IM.wTicks,IM.wUsed,tk_,ITask.wBlocks,ITask.wPc,ITask.wA,ITask.wOp,ITask.wAsked,IM.wAsks,IM.act,ITask.setR,ITask.getR,ITask.wRegs,ITask.wState,ITask.wTarget,ITask.block,push,lim,w64_nat hk,Pip.go,Jk.nx,w64_num,hk]
theorem C3a (hk:x.tk<5000)(hu:x.us<slice)(hs:slice<5000)(h:x.C=tk_ 1 3 [(1,5)] r0 r1 r2 1 1 [] j):x.roundC n room slice=some (({x.go with C:=tk_ 1 4 [(3,5),(1,5)] r0 r1 r2 1 1 [] (j.nx 3 16 x.tk)}:Pip).m n room slice,.go):=by
 refine round_go (t:=x.C) (pc:=3) (bs:=[(1,5)]) (q:=false) (s:=⟨16,3,0,0,1⟩) rfl (by rw[h];rfl) ?_ (by rw[h];rfl) (by rw[h];exact⟨of_decide_eq_true rfl,of_decide_eq_true rfl⟩) rfl ?_ ?_
 ·show (x.us:Int)≠(slice:Int)
  omega
 ·show (x.tk:Int)≠5000
  omega
 ·show IM.step ((((x.m n room slice).setT 1 _).wTicks (w64 ((x.tk:Int)+1))).wUsed (w64 ((x.us:Int)+1))) 1 _=_
  rw[w64_nat hk,w64_nat (by omega:x.us<5000),h];simp[IM.step,IM.setT,IM.setC,Pip.m,IM.wTicks,IM.wUsed,tk_,ITask.wBlocks,ITask.wPc,ITask.wA,ITask.wOp,ITask.wAsked,IM.wAsks,IM.act,ITask.setR,ITask.getR,ITask.wRegs,ITask.wState,ITask.wTarget,ITask.block,push,lim,w64_nat hk,Pip.go,Jk.nx,w64_num,hk]
theorem C3b (hk:x.tk<5000)(hu:x.us<slice)(hs:slice<5000)(h:x.C=tk_ 1 3 [(1,5)] r0 r1 r2 0 1 [] j):x.roundC n room slice=some (({x.go with C:=tk_ 1 5 [(1,5)] r0 r1 r2 0 1 [] (j.nx 3 16 x.tk)}:Pip).m n room slice,.go):=by
 refine round_go (t:=x.C) (pc:=3) (bs:=[(1,5)]) (q:=false) (s:=⟨16,3,0,0,1⟩) rfl (by rw[h];rfl) ?_ (by rw[h];rfl) (by rw[h];exact⟨of_decide_eq_true rfl,of_decide_eq_true rfl⟩) rfl ?_ ?_
 ·show (x.us:Int)≠(slice:Int)
  omega
 ·show (x.tk:Int)≠5000
  omega
 ·show IM.step ((((x.m n room slice).setT 1 _).wTicks (w64 ((x.tk:Int)+1))).wUsed (w64 ((x.us:Int)+1))) 1 _=_
  rw[w64_nat hk,w64_nat (by omega:x.us<5000),h];simp[IM.step,IM.setT,IM.setC,Pip.m,IM.wTicks,IM.wUsed,tk_,ITask.wBlocks,ITask.wPc,ITask.wA,ITask.wOp,ITask.wAsked,IM.wAsks,IM.act,ITask.setR,ITask.getR,ITask.wRegs,ITask.wState,ITask.wTarget,ITask.block,push,lim,w64_nat hk,Pip.go,Jk.nx,w64_num,hk]
theorem C4 (hk:x.tk<5000)(hu:x.us<slice)(hs:slice<5000)(h:x.C=tk_ 1 4 [(3,5),(1,5)] r0 r1 r2 r3 1 [] j)(hr:x.rcs.length<1000000):x.roundC n room slice=some (({x.go with C:=tk_ 1 5 [(3,5),(1,5)] r0 r1 r2 r3 1 [] (j.nx 0 3 x.tk),rcs:=x.rcs++[⟨2,0,1,r0⟩]}:Pip).m n room slice,.go):=by
 refine round_go (t:=x.C) (pc:=4) (bs:=[(3,5),(1,5)]) (q:=false) (s:=⟨3,0,0,0,0⟩) rfl (by rw[h];rfl) ?_ (by rw[h];rfl) (by rw[h];exact⟨of_decide_eq_true rfl,of_decide_eq_true rfl⟩) rfl ?_ ?_
 ·show (x.us:Int)≠(slice:Int)
  omega
 ·show (x.tk:Int)≠5000
  omega
 ·show IM.step ((((x.m n room slice).setT 1 _).wTicks (w64 ((x.tk:Int)+1))).wUsed (w64 ((x.us:Int)+1))) 1 _=_
  rw[w64_nat hk,w64_nat (by omega:x.us<5000),h];simp[IM.step,IM.setT,IM.setC,Pip.m,IM.wTicks,IM.wUsed,tk_,ITask.wBlocks,ITask.wPc,ITask.wA,ITask.wOp,ITask.wAsked,IM.wAsks,IM.act,ITask.setR,ITask.getR,ITask.wRegs,ITask.wState,ITask.wTarget,ITask.block,push,lim,w64_nat hk,Pip.go,Jk.nx,w64_num,hk,IM.note,IM.wRecs,hr]
theorem C5 (hk:x.tk<5000)(hu:x.us<slice)(hs:slice<5000)(h:x.C=tk_ 1 5 [] r0 r1 r2 (f:Int) 1 [] j)(hf:f<2):x.roundC n room slice=some (({x.go with C:=tk_ 1 6 [] r0 f r2 f 1 [] (j.nx 1 2 x.tk)}:Pip).m n room slice,.go):=by
 refine round_go (t:=x.C) (pc:=5) (bs:=[]) (q:=false) (s:=⟨2,1,3,0,0⟩) rfl (by rw[h];rfl) ?_ (by rw[h];rfl) (by rw[h];exact⟨of_decide_eq_true rfl,of_decide_eq_true rfl⟩) rfl ?_ ?_
 ·show (x.us:Int)≠(slice:Int)
  omega
 ·show (x.tk:Int)≠5000
  omega
 ·show IM.step ((((x.m n room slice).setT 1 _).wTicks (w64 ((x.tk:Int)+1))).wUsed (w64 ((x.us:Int)+1))) 1 _=_
  rw[w64_nat hk,w64_nat (by omega:x.us<5000),h];simp[IM.step,IM.setT,IM.setC,Pip.m,IM.wTicks,IM.wUsed,tk_,ITask.wBlocks,ITask.wPc,ITask.wA,ITask.wOp,ITask.wAsked,IM.wAsks,IM.act,ITask.setR,ITask.getR,ITask.wRegs,ITask.wState,ITask.wTarget,ITask.block,push,lim,w64_nat hk,Pip.go,Jk.nx,w64_num,hk,w64_flag hf]
theorem C6a (hk:x.tk<5000)(hu:x.us<slice)(hs:slice<5000)(h:x.C=tk_ 1 6 [] r0 1 r2 r3 1 [] j):x.roundC n room slice=some (({x.go with C:=tk_ 1 7 [(6,11)] r0 0 r2 r3 1 [] (j.nx 1 15 x.tk)}:Pip).m n room slice,.go):=by
 refine round_go (t:=x.C) (pc:=6) (bs:=[]) (q:=false) (s:=⟨15,1,0,0,4⟩) rfl (by rw[h];rfl) ?_ (by rw[h];rfl) (by rw[h];exact⟨of_decide_eq_true rfl,of_decide_eq_true rfl⟩) rfl ?_ ?_
 ·show (x.us:Int)≠(slice:Int)
  omega
 ·show (x.tk:Int)≠5000
  omega
 ·show IM.step ((((x.m n room slice).setT 1 _).wTicks (w64 ((x.tk:Int)+1))).wUsed (w64 ((x.us:Int)+1))) 1 _=_
  rw[w64_nat hk,w64_nat (by omega:x.us<5000),h];simp[IM.step,IM.setT,IM.setC,Pip.m,IM.wTicks,IM.wUsed,tk_,ITask.wBlocks,ITask.wPc,ITask.wA,ITask.wOp,ITask.wAsked,IM.wAsks,IM.act,ITask.setR,ITask.getR,ITask.wRegs,ITask.wState,ITask.wTarget,ITask.block,push,lim,w64_nat hk,Pip.go,Jk.nx,w64_num,hk]
theorem C6b (hk:x.tk<5000)(hu:x.us<slice)(hs:slice<5000)(h:x.C=tk_ 1 6 [] r0 0 r2 r3 1 [] j):x.roundC n room slice=some (({x.go with C:=tk_ 1 11 [] r0 0 r2 r3 1 [] (j.nx 1 15 x.tk)}:Pip).m n room slice,.go):=by
 refine round_go (t:=x.C) (pc:=6) (bs:=[]) (q:=false) (s:=⟨15,1,0,0,4⟩) rfl (by rw[h];rfl) ?_ (by rw[h];rfl) (by rw[h];exact⟨of_decide_eq_true rfl,of_decide_eq_true rfl⟩) rfl ?_ ?_
 ·show (x.us:Int)≠(slice:Int)
  omega
 ·show (x.tk:Int)≠5000
  omega
 ·show IM.step ((((x.m n room slice).setT 1 _).wTicks (w64 ((x.tk:Int)+1))).wUsed (w64 ((x.us:Int)+1))) 1 _=_
  rw[w64_nat hk,w64_nat (by omega:x.us<5000),h];simp[IM.step,IM.setT,IM.setC,Pip.m,IM.wTicks,IM.wUsed,tk_,ITask.wBlocks,ITask.wPc,ITask.wA,ITask.wOp,ITask.wAsked,IM.wAsks,IM.act,ITask.setR,ITask.getR,ITask.wRegs,ITask.wState,ITask.wTarget,ITask.block,push,lim,w64_nat hk,Pip.go,Jk.nx,w64_num,hk]
theorem C6xb (hk:x.tk<5000)(hu:x.us<slice)(hs:slice<5000)(h:x.C=tk_ 1 11 [(6,11)] r0 0 r2 r3 1 [] j):x.roundC n room slice=some (({x.go with C:=tk_ 1 11 [] r0 0 r2 r3 1 [] (j.nx 1 15 x.tk)}:Pip).m n room slice,.go):=by
 refine round_go (t:=x.C) (pc:=6) (bs:=[]) (q:=true) (s:=⟨15,1,0,0,4⟩) rfl (by rw[h];rfl) ?_ (by rw[h];rfl) (by rw[h];exact⟨of_decide_eq_true rfl,of_decide_eq_true rfl⟩) rfl ?_ ?_
 ·show (x.us:Int)≠(slice:Int)
  omega
 ·show (x.tk:Int)≠5000
  omega
 ·show IM.step ((((x.m n room slice).setT 1 _).wTicks (w64 ((x.tk:Int)+1))).wUsed (w64 ((x.us:Int)+1))) 1 _=_
  rw[w64_nat hk,w64_nat (by omega:x.us<5000),h];simp[IM.step,IM.setT,IM.setC,Pip.m,IM.wTicks,IM.wUsed,tk_,ITask.wBlocks,ITask.wPc,ITask.wA,ITask.wOp,ITask.wAsked,IM.wAsks,IM.act,ITask.setR,ITask.getR,ITask.wRegs,ITask.wState,ITask.wTarget,ITask.block,push,lim,w64_nat hk,Pip.go,Jk.nx,w64_num,hk]
theorem C6ya (hk:x.tk<5000)(hu:x.us<slice)(hs:slice<5000)(h:x.C=tk_ 1 11 [(9,11),(6,11)] r0 1 r2 r3 1 [] j):x.roundC n room slice=some (({x.go with C:=tk_ 1 7 [(6,11)] r0 0 r2 r3 1 [] (j.nx 1 15 x.tk)}:Pip).m n room slice,.go):=by
 refine round_go (t:=x.C) (pc:=6) (bs:=[]) (q:=true) (s:=⟨15,1,0,0,4⟩) rfl (by rw[h];rfl) ?_ (by rw[h];rfl) (by rw[h];exact⟨of_decide_eq_true rfl,of_decide_eq_true rfl⟩) rfl ?_ ?_
 ·show (x.us:Int)≠(slice:Int)
  omega
 ·show (x.tk:Int)≠5000
  omega
 ·show IM.step ((((x.m n room slice).setT 1 _).wTicks (w64 ((x.tk:Int)+1))).wUsed (w64 ((x.us:Int)+1))) 1 _=_
  rw[w64_nat hk,w64_nat (by omega:x.us<5000),h];simp[IM.step,IM.setT,IM.setC,Pip.m,IM.wTicks,IM.wUsed,tk_,ITask.wBlocks,ITask.wPc,ITask.wA,ITask.wOp,ITask.wAsked,IM.wAsks,IM.act,ITask.setR,ITask.getR,ITask.wRegs,ITask.wState,ITask.wTarget,ITask.block,push,lim,w64_nat hk,Pip.go,Jk.nx,w64_num,hk]
theorem C8 (hk:x.tk<5000)(hu:x.us<slice)(hs:slice<5000)(h:x.C=tk_ 1 8 [(6,11)] r0 r1 r2 (f:Int) 1 [] j)(hf:f<2):x.roundC n room slice=some (({x.go with C:=tk_ 1 9 [(6,11)] r0 f r2 f 1 [] (j.nx 1 2 x.tk)}:Pip).m n room slice,.go):=by
 refine round_go (t:=x.C) (pc:=8) (bs:=[(6,11)]) (q:=false) (s:=⟨2,1,3,0,0⟩) rfl (by rw[h];rfl) ?_ (by rw[h];rfl) (by rw[h];exact⟨of_decide_eq_true rfl,of_decide_eq_true rfl⟩) rfl ?_ ?_
 ·show (x.us:Int)≠(slice:Int)
  omega
 ·show (x.tk:Int)≠5000
  omega
 ·show IM.step ((((x.m n room slice).setT 1 _).wTicks (w64 ((x.tk:Int)+1))).wUsed (w64 ((x.us:Int)+1))) 1 _=_
  rw[w64_nat hk,w64_nat (by omega:x.us<5000),h];simp[IM.step,IM.setT,IM.setC,Pip.m,IM.wTicks,IM.wUsed,tk_,ITask.wBlocks,ITask.wPc,ITask.wA,ITask.wOp,ITask.wAsked,IM.wAsks,IM.act,ITask.setR,ITask.getR,ITask.wRegs,ITask.wState,ITask.wTarget,ITask.block,push,lim,w64_nat hk,Pip.go,Jk.nx,w64_num,hk,w64_flag hf]
theorem C9a (hk:x.tk<5000)(hu:x.us<slice)(hs:slice<5000)(h:x.C=tk_ 1 9 [(6,11)] r0 r1 r2 1 1 [] j):x.roundC n room slice=some (({x.go with C:=tk_ 1 10 [(9,11),(6,11)] r0 r1 r2 1 1 [] (j.nx 3 16 x.tk)}:Pip).m n room slice,.go):=by
 refine round_go (t:=x.C) (pc:=9) (bs:=[(6,11)]) (q:=false) (s:=⟨16,3,0,0,1⟩) rfl (by rw[h];rfl) ?_ (by rw[h];rfl) (by rw[h];exact⟨of_decide_eq_true rfl,of_decide_eq_true rfl⟩) rfl ?_ ?_
 ·show (x.us:Int)≠(slice:Int)
  omega
 ·show (x.tk:Int)≠5000
  omega
 ·show IM.step ((((x.m n room slice).setT 1 _).wTicks (w64 ((x.tk:Int)+1))).wUsed (w64 ((x.us:Int)+1))) 1 _=_
  rw[w64_nat hk,w64_nat (by omega:x.us<5000),h];simp[IM.step,IM.setT,IM.setC,Pip.m,IM.wTicks,IM.wUsed,tk_,ITask.wBlocks,ITask.wPc,ITask.wA,ITask.wOp,ITask.wAsked,IM.wAsks,IM.act,ITask.setR,ITask.getR,ITask.wRegs,ITask.wState,ITask.wTarget,ITask.block,push,lim,w64_nat hk,Pip.go,Jk.nx,w64_num,hk]
theorem C9b (hk:x.tk<5000)(hu:x.us<slice)(hs:slice<5000)(h:x.C=tk_ 1 9 [(6,11)] r0 r1 r2 0 1 [] j):x.roundC n room slice=some (({x.go with C:=tk_ 1 11 [(6,11)] r0 r1 r2 0 1 [] (j.nx 3 16 x.tk)}:Pip).m n room slice,.go):=by
 refine round_go (t:=x.C) (pc:=9) (bs:=[(6,11)]) (q:=false) (s:=⟨16,3,0,0,1⟩) rfl (by rw[h];rfl) ?_ (by rw[h];rfl) (by rw[h];exact⟨of_decide_eq_true rfl,of_decide_eq_true rfl⟩) rfl ?_ ?_
 ·show (x.us:Int)≠(slice:Int)
  omega
 ·show (x.tk:Int)≠5000
  omega
 ·show IM.step ((((x.m n room slice).setT 1 _).wTicks (w64 ((x.tk:Int)+1))).wUsed (w64 ((x.us:Int)+1))) 1 _=_
  rw[w64_nat hk,w64_nat (by omega:x.us<5000),h];simp[IM.step,IM.setT,IM.setC,Pip.m,IM.wTicks,IM.wUsed,tk_,ITask.wBlocks,ITask.wPc,ITask.wA,ITask.wOp,ITask.wAsked,IM.wAsks,IM.act,ITask.setR,ITask.getR,ITask.wRegs,ITask.wState,ITask.wTarget,ITask.block,push,lim,w64_nat hk,Pip.go,Jk.nx,w64_num,hk]
theorem C10 (hk:x.tk<5000)(hu:x.us<slice)(hs:slice<5000)(h:x.C=tk_ 1 10 [(9,11),(6,11)] r0 r1 r2 r3 1 [] j)(hr:x.rcs.length<1000000):x.roundC n room slice=some (({x.go with C:=tk_ 1 11 [(9,11),(6,11)] r0 r1 r2 r3 1 [] (j.nx 0 3 x.tk),rcs:=x.rcs++[⟨2,0,1,r0⟩]}:Pip).m n room slice,.go):=by
 refine round_go (t:=x.C) (pc:=10) (bs:=[(9,11),(6,11)]) (q:=false) (s:=⟨3,0,0,0,0⟩) rfl (by rw[h];rfl) ?_ (by rw[h];rfl) (by rw[h];exact⟨of_decide_eq_true rfl,of_decide_eq_true rfl⟩) rfl ?_ ?_
 ·show (x.us:Int)≠(slice:Int)
  omega
 ·show (x.tk:Int)≠5000
  omega
 ·show IM.step ((((x.m n room slice).setT 1 _).wTicks (w64 ((x.tk:Int)+1))).wUsed (w64 ((x.us:Int)+1))) 1 _=_
  rw[w64_nat hk,w64_nat (by omega:x.us<5000),h];simp[IM.step,IM.setT,IM.setC,Pip.m,IM.wTicks,IM.wUsed,tk_,ITask.wBlocks,ITask.wPc,ITask.wA,ITask.wOp,ITask.wAsked,IM.wAsks,IM.act,ITask.setR,ITask.getR,ITask.wRegs,ITask.wState,ITask.wTarget,ITask.block,push,lim,w64_nat hk,Pip.go,Jk.nx,w64_num,hk,IM.note,IM.wRecs,hr]
end
end Beat
end
section
set_option linter.unusedSimpArgs false
namespace Beat
attribute [local simp] Go.Beat.int_beq Go.Beat.int_bne Go.Beat.ble_dec
attribute [-simp] w64_wrap
section
variable {n room:Int} {slice:Nat} {x:Pip} {j:Jk} {r0 r1 r2 r3:Int} {k f:Nat}
theorem P4a (hk:x.tk<5000)(hu:x.us<slice)(hs:slice<5000)(h:x.P=tk_ 0 4 [(2,5)] r0 r1 r2 r3 1 [] j){jc:Jk}{pc:Int}{bl:List (Int×Int)}{s0 s1 s2 s3:Int}(hC:x.C=tk_ 1 pc bl s0 s1 s2 s3 5 [0] jc)(ha:jc.a=0)(ho:jc.op=10)(ht:x.takers=[1])(hc:x.closed=false)(hrw:x.row.length<1000000):x.roundP n room slice=some (({x.go with P:=tk_ 0 5 [(2,5)] r0 r1 r2 r3 1 [] (j.nx 2 9 x.tk),C:=tk_ 1 pc bl r2 s1 s2 1 0 [] jc,takers:=[],row:=x.row++[1]}:Pip).m n room slice,.go):=by
 refine round_go (t:=x.P) (pc:=4) (bs:=[(2,5)]) (q:=false) (s:=⟨9,2,0,0,0⟩) rfl (by rw[h];rfl) ?_ (by rw[h];rfl) (by rw[h];exact⟨of_decide_eq_true rfl,of_decide_eq_true rfl⟩) rfl ?_ ?_
 ·show (x.us:Int)≠(slice:Int)
  omega
 ·show (x.tk:Int)≠5000
  omega
 ·show IM.step ((((x.m n room slice).setT 0 _).wTicks (w64 ((x.tk:Int)+1))).wUsed (w64 ((x.us:Int)+1))) 0 _=_
  rw[w64_nat hk,w64_nat (by omega:x.us<5000),h];simp[IM.step,IM.setT,IM.setC,Pip.m,IM.wTicks,IM.wUsed,tk_,ITask.wBlocks,ITask.wPc,ITask.wA,ITask.wOp,ITask.wAsked,IM.wAsks,IM.act,ITask.setR,ITask.getR,ITask.wRegs,ITask.wState,ITask.wTarget,ITask.block,push,lim,w64_nat hk,Pip.go,Jk.nx,w64_num,hk,IM.send,IM.take,IM.close,IM.closeTake,IM.closeFail,IM.leave,IM.leaveLoop,IM.unline,without,IM.gets,ITask.flag,IM.ready,IM.readyIf,IM.wRow,ITask.wDue,ITask.wChans,IChan.wTakers,IChan.wNums,IChan.wSenders,IChan.wClosed,guardO,chanNo,IM.line,IM.lineLoop,hC,ha,ho,ht,hc,hrw]
theorem P4b (hk:x.tk<5000)(hu:x.us<slice)(hs:slice<5000)(h:x.P=tk_ 0 4 [(2,5)] r0 r1 r2 r3 1 [] j)(ht:x.takers=[])(hc:x.closed=false)(hn:(x.nums.length:Int)<room)(hl:x.nums.length<1000000):x.roundP n room slice=some (({x.go with P:=tk_ 0 5 [(2,5)] r0 r1 r2 r3 1 [] (j.nx 2 9 x.tk),nums:=x.nums++[r2]}:Pip).m n room slice,.go):=by
 refine round_go (t:=x.P) (pc:=4) (bs:=[(2,5)]) (q:=false) (s:=⟨9,2,0,0,0⟩) rfl (by rw[h];rfl) ?_ (by rw[h];rfl) (by rw[h];exact⟨of_decide_eq_true rfl,of_decide_eq_true rfl⟩) rfl ?_ ?_
 ·show (x.us:Int)≠(slice:Int)
  omega
 ·show (x.tk:Int)≠5000
  omega
 ·show IM.step ((((x.m n room slice).setT 0 _).wTicks (w64 ((x.tk:Int)+1))).wUsed (w64 ((x.us:Int)+1))) 0 _=_
  rw[w64_nat hk,w64_nat (by omega:x.us<5000),h];simp[IM.step,IM.setT,IM.setC,Pip.m,IM.wTicks,IM.wUsed,tk_,ITask.wBlocks,ITask.wPc,ITask.wA,ITask.wOp,ITask.wAsked,IM.wAsks,IM.act,ITask.setR,ITask.getR,ITask.wRegs,ITask.wState,ITask.wTarget,ITask.block,push,lim,w64_nat hk,Pip.go,Jk.nx,w64_num,hk,IM.send,IM.take,IM.close,IM.closeTake,IM.closeFail,IM.leave,IM.leaveLoop,IM.unline,without,IM.gets,ITask.flag,IM.ready,IM.readyIf,IM.wRow,ITask.wDue,ITask.wChans,IChan.wTakers,IChan.wNums,IChan.wSenders,IChan.wClosed,guardO,chanNo,IM.line,IM.lineLoop,ht,hc,hn,hl]
theorem P4c (hk:x.tk<5000)(hu:x.us<slice)(hs:slice<5000)(h:x.P=tk_ 0 4 [(2,5)] r0 r1 r2 r3 1 [] j)(ht:x.takers=[])(hc:x.closed=false)(hn:¬(x.nums.length:Int)<room)(hsd:x.senders=[]):x.roundP n room slice=some (({x.go with P:=tk_ 0 5 [(2,5)] r0 r1 r2 r3 4 [] ⟨2,9,j.num,((x.tk+1:Nat):Int),0⟩,senders:=[(0,r2)]}:Pip).m n room slice,.go):=by
 refine round_go (t:=x.P) (pc:=4) (bs:=[(2,5)]) (q:=false) (s:=⟨9,2,0,0,0⟩) rfl (by rw[h];rfl) ?_ (by rw[h];rfl) (by rw[h];exact⟨of_decide_eq_true rfl,of_decide_eq_true rfl⟩) rfl ?_ ?_
 ·show (x.us:Int)≠(slice:Int)
  omega
 ·show (x.tk:Int)≠5000
  omega
 ·show IM.step ((((x.m n room slice).setT 0 _).wTicks (w64 ((x.tk:Int)+1))).wUsed (w64 ((x.us:Int)+1))) 0 _=_
  rw[w64_nat hk,w64_nat (by omega:x.us<5000),h];simp[IM.step,IM.setT,IM.setC,Pip.m,IM.wTicks,IM.wUsed,tk_,ITask.wBlocks,ITask.wPc,ITask.wA,ITask.wOp,ITask.wAsked,IM.wAsks,IM.act,ITask.setR,ITask.getR,ITask.wRegs,ITask.wState,ITask.wTarget,ITask.block,push,lim,w64_nat hk,Pip.go,Jk.nx,w64_num,hk,IM.send,IM.take,IM.close,IM.closeTake,IM.closeFail,IM.leave,IM.leaveLoop,IM.unline,without,IM.gets,ITask.flag,IM.ready,IM.readyIf,IM.wRow,ITask.wDue,ITask.wChans,IChan.wTakers,IChan.wNums,IChan.wSenders,IChan.wClosed,guardO,chanNo,IM.line,IM.lineLoop,ht,hc,hn,hsd]
theorem C2a (hk:x.tk<5000)(hu:x.us<slice)(hs:slice<5000)(h:x.C=tk_ 1 2 [(1,5)] r0 r1 r2 r3 1 [] j){v:Int}{ns:List Int}(hn:x.nums=v::ns)(hsd:x.senders=[])(hl:ns.length<999999):x.roundC n room slice=some (({x.go with C:=tk_ 1 3 [(1,5)] v r1 r2 1 1 [] (j.nx 0 10 x.tk),nums:=ns}:Pip).m n room slice,.go):=by
 refine round_go (t:=x.C) (pc:=2) (bs:=[(1,5)]) (q:=false) (s:=⟨10,0,0,0,0⟩) rfl (by rw[h];rfl) ?_ (by rw[h];rfl) (by rw[h];exact⟨of_decide_eq_true rfl,of_decide_eq_true rfl⟩) rfl ?_ ?_
 ·show (x.us:Int)≠(slice:Int)
  omega
 ·show (x.tk:Int)≠5000
  omega
 ·show IM.step ((((x.m n room slice).setT 1 _).wTicks (w64 ((x.tk:Int)+1))).wUsed (w64 ((x.us:Int)+1))) 1 _=_
  rw[w64_nat hk,w64_nat (by omega:x.us<5000),h];simp[IM.step,IM.setT,IM.setC,Pip.m,IM.wTicks,IM.wUsed,tk_,ITask.wBlocks,ITask.wPc,ITask.wA,ITask.wOp,ITask.wAsked,IM.wAsks,IM.act,ITask.setR,ITask.getR,ITask.wRegs,ITask.wState,ITask.wTarget,ITask.block,push,lim,w64_nat hk,Pip.go,Jk.nx,w64_num,hk,IM.send,IM.take,IM.close,IM.closeTake,IM.closeFail,IM.leave,IM.leaveLoop,IM.unline,without,IM.gets,ITask.flag,IM.ready,IM.readyIf,IM.wRow,ITask.wDue,ITask.wChans,IChan.wTakers,IChan.wNums,IChan.wSenders,IChan.wClosed,guardO,chanNo,IM.line,IM.lineLoop,hn,hsd,(by omega:ns.length+1<1000000)]
theorem C2b (hk:x.tk<5000)(hu:x.us<slice)(hs:slice<5000)(h:x.C=tk_ 1 2 [(1,5)] r0 r1 r2 r3 1 [] j){jp:Jk}{s0 s1 s2 s3:Int}{v u:Int}{ns:List Int}(hP:x.P=tk_ 0 5 [(2,5)] s0 s1 s2 s3 4 [] jp)(hn:x.nums=v::ns)(hsd:x.senders=[(0,u)])(hl:ns.length<999999)(hrw:x.row.length<1000000):x.roundC n room slice=some (({x.go with C:=tk_ 1 3 [(1,5)] v r1 r2 1 1 [] (j.nx 0 10 x.tk),nums:=ns++[u],senders:=[],row:=x.row++[0],P:=tk_ 0 5 [(2,5)] s0 s1 s2 s3 0 [] jp}:Pip).m n room slice,.go):=by
 refine round_go (t:=x.C) (pc:=2) (bs:=[(1,5)]) (q:=false) (s:=⟨10,0,0,0,0⟩) rfl (by rw[h];rfl) ?_ (by rw[h];rfl) (by rw[h];exact⟨of_decide_eq_true rfl,of_decide_eq_true rfl⟩) rfl ?_ ?_
 ·show (x.us:Int)≠(slice:Int)
  omega
 ·show (x.tk:Int)≠5000
  omega
 ·show IM.step ((((x.m n room slice).setT 1 _).wTicks (w64 ((x.tk:Int)+1))).wUsed (w64 ((x.us:Int)+1))) 1 _=_
  rw[w64_nat hk,w64_nat (by omega:x.us<5000),h];simp[IM.step,IM.setT,IM.setC,Pip.m,IM.wTicks,IM.wUsed,tk_,ITask.wBlocks,ITask.wPc,ITask.wA,ITask.wOp,ITask.wAsked,IM.wAsks,IM.act,ITask.setR,ITask.getR,ITask.wRegs,ITask.wState,ITask.wTarget,ITask.block,push,lim,w64_nat hk,Pip.go,Jk.nx,w64_num,hk,IM.send,IM.take,IM.close,IM.closeTake,IM.closeFail,IM.leave,IM.leaveLoop,IM.unline,without,IM.gets,ITask.flag,IM.ready,IM.readyIf,IM.wRow,ITask.wDue,ITask.wChans,IChan.wTakers,IChan.wNums,IChan.wSenders,IChan.wClosed,guardO,chanNo,IM.line,IM.lineLoop,hP,hn,hsd,hrw,(by omega:ns.length+1<1000000),(by omega:ns.length<1000000)]
theorem C2c (hk:x.tk<5000)(hu:x.us<slice)(hs:slice<5000)(h:x.C=tk_ 1 2 [(1,5)] r0 r1 r2 r3 1 [] j){jp:Jk}{s0 s1 s2 s3:Int}{u:Int}(hP:x.P=tk_ 0 5 [(2,5)] s0 s1 s2 s3 4 [] jp)(hn:x.nums=[])(hsd:x.senders=[(0,u)])(hrw:x.row.length<1000000):x.roundC n room slice=some (({x.go with C:=tk_ 1 3 [(1,5)] u r1 r2 1 1 [] (j.nx 0 10 x.tk),senders:=[],row:=x.row++[0],P:=tk_ 0 5 [(2,5)] s0 s1 s2 s3 0 [] jp}:Pip).m n room slice,.go):=by
 refine round_go (t:=x.C) (pc:=2) (bs:=[(1,5)]) (q:=false) (s:=⟨10,0,0,0,0⟩) rfl (by rw[h];rfl) ?_ (by rw[h];rfl) (by rw[h];exact⟨of_decide_eq_true rfl,of_decide_eq_true rfl⟩) rfl ?_ ?_
 ·show (x.us:Int)≠(slice:Int)
  omega
 ·show (x.tk:Int)≠5000
  omega
 ·show IM.step ((((x.m n room slice).setT 1 _).wTicks (w64 ((x.tk:Int)+1))).wUsed (w64 ((x.us:Int)+1))) 1 _=_
  rw[w64_nat hk,w64_nat (by omega:x.us<5000),h];simp[IM.step,IM.setT,IM.setC,Pip.m,IM.wTicks,IM.wUsed,tk_,ITask.wBlocks,ITask.wPc,ITask.wA,ITask.wOp,ITask.wAsked,IM.wAsks,IM.act,ITask.setR,ITask.getR,ITask.wRegs,ITask.wState,ITask.wTarget,ITask.block,push,lim,w64_nat hk,Pip.go,Jk.nx,w64_num,hk,IM.send,IM.take,IM.close,IM.closeTake,IM.closeFail,IM.leave,IM.leaveLoop,IM.unline,without,IM.gets,ITask.flag,IM.ready,IM.readyIf,IM.wRow,ITask.wDue,ITask.wChans,IChan.wTakers,IChan.wNums,IChan.wSenders,IChan.wClosed,guardO,chanNo,IM.line,IM.lineLoop,hP,hn,hsd,hrw]
theorem C2d (hk:x.tk<5000)(hu:x.us<slice)(hs:slice<5000)(h:x.C=tk_ 1 2 [(1,5)] r0 r1 r2 r3 1 [] j)(hn:x.nums=[])(hsd:x.senders=[])(hc:x.closed=true):x.roundC n room slice=some (({x.go with C:=tk_ 1 3 [(1,5)] 0 r1 r2 0 1 [] (j.nx 0 10 x.tk)}:Pip).m n room slice,.go):=by
 refine round_go (t:=x.C) (pc:=2) (bs:=[(1,5)]) (q:=false) (s:=⟨10,0,0,0,0⟩) rfl (by rw[h];rfl) ?_ (by rw[h];rfl) (by rw[h];exact⟨of_decide_eq_true rfl,of_decide_eq_true rfl⟩) rfl ?_ ?_
 ·show (x.us:Int)≠(slice:Int)
  omega
 ·show (x.tk:Int)≠5000
  omega
 ·show IM.step ((((x.m n room slice).setT 1 _).wTicks (w64 ((x.tk:Int)+1))).wUsed (w64 ((x.us:Int)+1))) 1 _=_
  rw[w64_nat hk,w64_nat (by omega:x.us<5000),h];simp[IM.step,IM.setT,IM.setC,Pip.m,IM.wTicks,IM.wUsed,tk_,ITask.wBlocks,ITask.wPc,ITask.wA,ITask.wOp,ITask.wAsked,IM.wAsks,IM.act,ITask.setR,ITask.getR,ITask.wRegs,ITask.wState,ITask.wTarget,ITask.block,push,lim,w64_nat hk,Pip.go,Jk.nx,w64_num,hk,IM.send,IM.take,IM.close,IM.closeTake,IM.closeFail,IM.leave,IM.leaveLoop,IM.unline,without,IM.gets,ITask.flag,IM.ready,IM.readyIf,IM.wRow,ITask.wDue,ITask.wChans,IChan.wTakers,IChan.wNums,IChan.wSenders,IChan.wClosed,guardO,chanNo,IM.line,IM.lineLoop,hn,hsd,hc]
theorem C2e (hk:x.tk<5000)(hu:x.us<slice)(hs:slice<5000)(h:x.C=tk_ 1 2 [(1,5)] r0 r1 r2 r3 1 [] j)(hn:x.nums=[])(hsd:x.senders=[])(hc:x.closed=false)(ht:x.takers=[]):x.roundC n room slice=some (({x.go with C:=tk_ 1 3 [(1,5)] r0 r1 r2 r3 5 [0] (j.nx 0 10 x.tk),takers:=[1]}:Pip).m n room slice,.go):=by
 refine round_go (t:=x.C) (pc:=2) (bs:=[(1,5)]) (q:=false) (s:=⟨10,0,0,0,0⟩) rfl (by rw[h];rfl) ?_ (by rw[h];rfl) (by rw[h];exact⟨of_decide_eq_true rfl,of_decide_eq_true rfl⟩) rfl ?_ ?_
 ·show (x.us:Int)≠(slice:Int)
  omega
 ·show (x.tk:Int)≠5000
  omega
 ·show IM.step ((((x.m n room slice).setT 1 _).wTicks (w64 ((x.tk:Int)+1))).wUsed (w64 ((x.us:Int)+1))) 1 _=_
  rw[w64_nat hk,w64_nat (by omega:x.us<5000),h];simp[IM.step,IM.setT,IM.setC,Pip.m,IM.wTicks,IM.wUsed,tk_,ITask.wBlocks,ITask.wPc,ITask.wA,ITask.wOp,ITask.wAsked,IM.wAsks,IM.act,ITask.setR,ITask.getR,ITask.wRegs,ITask.wState,ITask.wTarget,ITask.block,push,lim,w64_nat hk,Pip.go,Jk.nx,w64_num,hk,IM.send,IM.take,IM.close,IM.closeTake,IM.closeFail,IM.leave,IM.leaveLoop,IM.unline,without,IM.gets,ITask.flag,IM.ready,IM.readyIf,IM.wRow,ITask.wDue,ITask.wChans,IChan.wTakers,IChan.wNums,IChan.wSenders,IChan.wClosed,guardO,chanNo,IM.line,IM.lineLoop,hn,hsd,hc,ht]
theorem C7a (hk:x.tk<5000)(hu:x.us<slice)(hs:slice<5000)(h:x.C=tk_ 1 7 [(6,11)] r0 r1 r2 r3 1 [] j){v:Int}{ns:List Int}(hn:x.nums=v::ns)(hsd:x.senders=[])(hl:ns.length<999999):x.roundC n room slice=some (({x.go with C:=tk_ 1 8 [(6,11)] v r1 r2 1 1 [] (j.nx 0 10 x.tk),nums:=ns}:Pip).m n room slice,.go):=by
 refine round_go (t:=x.C) (pc:=7) (bs:=[(6,11)]) (q:=false) (s:=⟨10,0,0,0,0⟩) rfl (by rw[h];rfl) ?_ (by rw[h];rfl) (by rw[h];exact⟨of_decide_eq_true rfl,of_decide_eq_true rfl⟩) rfl ?_ ?_
 ·show (x.us:Int)≠(slice:Int)
  omega
 ·show (x.tk:Int)≠5000
  omega
 ·show IM.step ((((x.m n room slice).setT 1 _).wTicks (w64 ((x.tk:Int)+1))).wUsed (w64 ((x.us:Int)+1))) 1 _=_
  rw[w64_nat hk,w64_nat (by omega:x.us<5000),h];simp[IM.step,IM.setT,IM.setC,Pip.m,IM.wTicks,IM.wUsed,tk_,ITask.wBlocks,ITask.wPc,ITask.wA,ITask.wOp,ITask.wAsked,IM.wAsks,IM.act,ITask.setR,ITask.getR,ITask.wRegs,ITask.wState,ITask.wTarget,ITask.block,push,lim,w64_nat hk,Pip.go,Jk.nx,w64_num,hk,IM.send,IM.take,IM.close,IM.closeTake,IM.closeFail,IM.leave,IM.leaveLoop,IM.unline,without,IM.gets,ITask.flag,IM.ready,IM.readyIf,IM.wRow,ITask.wDue,ITask.wChans,IChan.wTakers,IChan.wNums,IChan.wSenders,IChan.wClosed,guardO,chanNo,IM.line,IM.lineLoop,hn,hsd,(by omega:ns.length+1<1000000)]
theorem C7b (hk:x.tk<5000)(hu:x.us<slice)(hs:slice<5000)(h:x.C=tk_ 1 7 [(6,11)] r0 r1 r2 r3 1 [] j){jp:Jk}{s0 s1 s2 s3:Int}{v u:Int}{ns:List Int}(hP:x.P=tk_ 0 5 [(2,5)] s0 s1 s2 s3 4 [] jp)(hn:x.nums=v::ns)(hsd:x.senders=[(0,u)])(hl:ns.length<999999)(hrw:x.row.length<1000000):x.roundC n room slice=some (({x.go with C:=tk_ 1 8 [(6,11)] v r1 r2 1 1 [] (j.nx 0 10 x.tk),nums:=ns++[u],senders:=[],row:=x.row++[0],P:=tk_ 0 5 [(2,5)] s0 s1 s2 s3 0 [] jp}:Pip).m n room slice,.go):=by
 refine round_go (t:=x.C) (pc:=7) (bs:=[(6,11)]) (q:=false) (s:=⟨10,0,0,0,0⟩) rfl (by rw[h];rfl) ?_ (by rw[h];rfl) (by rw[h];exact⟨of_decide_eq_true rfl,of_decide_eq_true rfl⟩) rfl ?_ ?_
 ·show (x.us:Int)≠(slice:Int)
  omega
 ·show (x.tk:Int)≠5000
  omega
 ·show IM.step ((((x.m n room slice).setT 1 _).wTicks (w64 ((x.tk:Int)+1))).wUsed (w64 ((x.us:Int)+1))) 1 _=_
  rw[w64_nat hk,w64_nat (by omega:x.us<5000),h];simp[IM.step,IM.setT,IM.setC,Pip.m,IM.wTicks,IM.wUsed,tk_,ITask.wBlocks,ITask.wPc,ITask.wA,ITask.wOp,ITask.wAsked,IM.wAsks,IM.act,ITask.setR,ITask.getR,ITask.wRegs,ITask.wState,ITask.wTarget,ITask.block,push,lim,w64_nat hk,Pip.go,Jk.nx,w64_num,hk,IM.send,IM.take,IM.close,IM.closeTake,IM.closeFail,IM.leave,IM.leaveLoop,IM.unline,without,IM.gets,ITask.flag,IM.ready,IM.readyIf,IM.wRow,ITask.wDue,ITask.wChans,IChan.wTakers,IChan.wNums,IChan.wSenders,IChan.wClosed,guardO,chanNo,IM.line,IM.lineLoop,hP,hn,hsd,hrw,(by omega:ns.length+1<1000000),(by omega:ns.length<1000000)]
theorem C7c (hk:x.tk<5000)(hu:x.us<slice)(hs:slice<5000)(h:x.C=tk_ 1 7 [(6,11)] r0 r1 r2 r3 1 [] j){jp:Jk}{s0 s1 s2 s3:Int}{u:Int}(hP:x.P=tk_ 0 5 [(2,5)] s0 s1 s2 s3 4 [] jp)(hn:x.nums=[])(hsd:x.senders=[(0,u)])(hrw:x.row.length<1000000):x.roundC n room slice=some (({x.go with C:=tk_ 1 8 [(6,11)] u r1 r2 1 1 [] (j.nx 0 10 x.tk),senders:=[],row:=x.row++[0],P:=tk_ 0 5 [(2,5)] s0 s1 s2 s3 0 [] jp}:Pip).m n room slice,.go):=by
 refine round_go (t:=x.C) (pc:=7) (bs:=[(6,11)]) (q:=false) (s:=⟨10,0,0,0,0⟩) rfl (by rw[h];rfl) ?_ (by rw[h];rfl) (by rw[h];exact⟨of_decide_eq_true rfl,of_decide_eq_true rfl⟩) rfl ?_ ?_
 ·show (x.us:Int)≠(slice:Int)
  omega
 ·show (x.tk:Int)≠5000
  omega
 ·show IM.step ((((x.m n room slice).setT 1 _).wTicks (w64 ((x.tk:Int)+1))).wUsed (w64 ((x.us:Int)+1))) 1 _=_
  rw[w64_nat hk,w64_nat (by omega:x.us<5000),h];simp[IM.step,IM.setT,IM.setC,Pip.m,IM.wTicks,IM.wUsed,tk_,ITask.wBlocks,ITask.wPc,ITask.wA,ITask.wOp,ITask.wAsked,IM.wAsks,IM.act,ITask.setR,ITask.getR,ITask.wRegs,ITask.wState,ITask.wTarget,ITask.block,push,lim,w64_nat hk,Pip.go,Jk.nx,w64_num,hk,IM.send,IM.take,IM.close,IM.closeTake,IM.closeFail,IM.leave,IM.leaveLoop,IM.unline,without,IM.gets,ITask.flag,IM.ready,IM.readyIf,IM.wRow,ITask.wDue,ITask.wChans,IChan.wTakers,IChan.wNums,IChan.wSenders,IChan.wClosed,guardO,chanNo,IM.line,IM.lineLoop,hP,hn,hsd,hrw]
theorem C7d (hk:x.tk<5000)(hu:x.us<slice)(hs:slice<5000)(h:x.C=tk_ 1 7 [(6,11)] r0 r1 r2 r3 1 [] j)(hn:x.nums=[])(hsd:x.senders=[])(hc:x.closed=true):x.roundC n room slice=some (({x.go with C:=tk_ 1 8 [(6,11)] 0 r1 r2 0 1 [] (j.nx 0 10 x.tk)}:Pip).m n room slice,.go):=by
 refine round_go (t:=x.C) (pc:=7) (bs:=[(6,11)]) (q:=false) (s:=⟨10,0,0,0,0⟩) rfl (by rw[h];rfl) ?_ (by rw[h];rfl) (by rw[h];exact⟨of_decide_eq_true rfl,of_decide_eq_true rfl⟩) rfl ?_ ?_
 ·show (x.us:Int)≠(slice:Int)
  omega
 ·show (x.tk:Int)≠5000
  omega
 ·show IM.step ((((x.m n room slice).setT 1 _).wTicks (w64 ((x.tk:Int)+1))).wUsed (w64 ((x.us:Int)+1))) 1 _=_
  rw[w64_nat hk,w64_nat (by omega:x.us<5000),h];simp[IM.step,IM.setT,IM.setC,Pip.m,IM.wTicks,IM.wUsed,tk_,ITask.wBlocks,ITask.wPc,ITask.wA,ITask.wOp,ITask.wAsked,IM.wAsks,IM.act,ITask.setR,ITask.getR,ITask.wRegs,ITask.wState,ITask.wTarget,ITask.block,push,lim,w64_nat hk,Pip.go,Jk.nx,w64_num,hk,IM.send,IM.take,IM.close,IM.closeTake,IM.closeFail,IM.leave,IM.leaveLoop,IM.unline,without,IM.gets,ITask.flag,IM.ready,IM.readyIf,IM.wRow,ITask.wDue,ITask.wChans,IChan.wTakers,IChan.wNums,IChan.wSenders,IChan.wClosed,guardO,chanNo,IM.line,IM.lineLoop,hn,hsd,hc]
theorem C7e (hk:x.tk<5000)(hu:x.us<slice)(hs:slice<5000)(h:x.C=tk_ 1 7 [(6,11)] r0 r1 r2 r3 1 [] j)(hn:x.nums=[])(hsd:x.senders=[])(hc:x.closed=false)(ht:x.takers=[]):x.roundC n room slice=some (({x.go with C:=tk_ 1 8 [(6,11)] r0 r1 r2 r3 5 [0] (j.nx 0 10 x.tk),takers:=[1]}:Pip).m n room slice,.go):=by
 refine round_go (t:=x.C) (pc:=7) (bs:=[(6,11)]) (q:=false) (s:=⟨10,0,0,0,0⟩) rfl (by rw[h];rfl) ?_ (by rw[h];rfl) (by rw[h];exact⟨of_decide_eq_true rfl,of_decide_eq_true rfl⟩) rfl ?_ ?_
 ·show (x.us:Int)≠(slice:Int)
  omega
 ·show (x.tk:Int)≠5000
  omega
 ·show IM.step ((((x.m n room slice).setT 1 _).wTicks (w64 ((x.tk:Int)+1))).wUsed (w64 ((x.us:Int)+1))) 1 _=_
  rw[w64_nat hk,w64_nat (by omega:x.us<5000),h];simp[IM.step,IM.setT,IM.setC,Pip.m,IM.wTicks,IM.wUsed,tk_,ITask.wBlocks,ITask.wPc,ITask.wA,ITask.wOp,ITask.wAsked,IM.wAsks,IM.act,ITask.setR,ITask.getR,ITask.wRegs,ITask.wState,ITask.wTarget,ITask.block,push,lim,w64_nat hk,Pip.go,Jk.nx,w64_num,hk,IM.send,IM.take,IM.close,IM.closeTake,IM.closeFail,IM.leave,IM.leaveLoop,IM.unline,without,IM.gets,ITask.flag,IM.ready,IM.readyIf,IM.wRow,ITask.wDue,ITask.wChans,IChan.wTakers,IChan.wNums,IChan.wSenders,IChan.wClosed,guardO,chanNo,IM.line,IM.lineLoop,hn,hsd,hc,ht]
theorem P5a (hk:x.tk<5000)(hu:x.us<slice)(hs:slice<5000)(h:x.P=tk_ 0 5 [] r0 r1 r2 r3 1 [] j)(ht:x.takers=[])(hsd:x.senders=[])(hc:x.closed=false):x.roundP n room slice=some (({x.go with P:=tk_ 0 6 [] r0 r1 r2 r3 1 [] (j.nx 0 13 x.tk),closed:=true}:Pip).m n room slice,.go):=by
 refine round_go (t:=x.P) (pc:=5) (bs:=[]) (q:=false) (s:=⟨13,0,0,0,0⟩) rfl (by rw[h];rfl) ?_ (by rw[h];rfl) (by rw[h];exact⟨of_decide_eq_true rfl,of_decide_eq_true rfl⟩) rfl ?_ ?_
 ·show (x.us:Int)≠(slice:Int)
  omega
 ·show (x.tk:Int)≠5000
  omega
 ·show IM.step ((((x.m n room slice).setT 0 _).wTicks (w64 ((x.tk:Int)+1))).wUsed (w64 ((x.us:Int)+1))) 0 _=_
  rw[w64_nat hk,w64_nat (by omega:x.us<5000),h];simp[IM.step,IM.setT,IM.setC,Pip.m,IM.wTicks,IM.wUsed,tk_,ITask.wBlocks,ITask.wPc,ITask.wA,ITask.wOp,ITask.wAsked,IM.wAsks,IM.act,ITask.setR,ITask.getR,ITask.wRegs,ITask.wState,ITask.wTarget,ITask.block,push,lim,w64_nat hk,Pip.go,Jk.nx,w64_num,hk,IM.send,IM.take,IM.close,IM.closeTake,IM.closeFail,IM.leave,IM.leaveLoop,IM.unline,without,IM.gets,ITask.flag,IM.ready,IM.readyIf,IM.wRow,ITask.wDue,ITask.wChans,IChan.wTakers,IChan.wNums,IChan.wSenders,IChan.wClosed,guardO,chanNo,IM.line,IM.lineLoop,ht,hsd,hc]
theorem P5b (hk:x.tk<5000)(hu:x.us<slice)(hs:slice<5000)(h:x.P=tk_ 0 5 [] r0 r1 r2 r3 1 [] j){jc:Jk}{pc:Int}{bl:List (Int×Int)}{s0 s1 s2 s3:Int}(hC:x.C=tk_ 1 pc bl s0 s1 s2 s3 5 [0] jc)(ha:jc.a=0)(ho:jc.op=10)(ht:x.takers=[1])(hsd:x.senders=[])(hc:x.closed=false)(hrw:x.row.length<1000000):x.roundP n room slice=some (({x.go with P:=tk_ 0 6 [] r0 r1 r2 r3 1 [] (j.nx 0 13 x.tk),closed:=true,C:=tk_ 1 pc bl 0 s1 s2 0 0 [] jc,takers:=[],row:=x.row++[1]}:Pip).m n room slice,.go):=by
 refine round_go (t:=x.P) (pc:=5) (bs:=[]) (q:=false) (s:=⟨13,0,0,0,0⟩) rfl (by rw[h];rfl) ?_ (by rw[h];rfl) (by rw[h];exact⟨of_decide_eq_true rfl,of_decide_eq_true rfl⟩) rfl ?_ ?_
 ·show (x.us:Int)≠(slice:Int)
  omega
 ·show (x.tk:Int)≠5000
  omega
 ·show IM.step ((((x.m n room slice).setT 0 _).wTicks (w64 ((x.tk:Int)+1))).wUsed (w64 ((x.us:Int)+1))) 0 _=_
  rw[w64_nat hk,w64_nat (by omega:x.us<5000),h];simp[IM.step,IM.setT,IM.setC,Pip.m,IM.wTicks,IM.wUsed,tk_,ITask.wBlocks,ITask.wPc,ITask.wA,ITask.wOp,ITask.wAsked,IM.wAsks,IM.act,ITask.setR,ITask.getR,ITask.wRegs,ITask.wState,ITask.wTarget,ITask.block,push,lim,w64_nat hk,Pip.go,Jk.nx,w64_num,hk,IM.send,IM.take,IM.close,IM.closeTake,IM.closeFail,IM.leave,IM.leaveLoop,IM.unline,without,IM.gets,ITask.flag,IM.ready,IM.readyIf,IM.wRow,ITask.wDue,ITask.wChans,IChan.wTakers,IChan.wNums,IChan.wSenders,IChan.wClosed,guardO,chanNo,IM.line,IM.lineLoop,hC,ha,ho,ht,hsd,hc,hrw]
theorem updW_nil (i:Nat):updW (fun _=>[]) i []=fun _=>[]:=by
 funext k
 unfold updW
 split<;>rfl
theorem Pfin (hu:x.us<slice)(h:x.P=tk_ 0 6 [] r0 r1 r2 r3 1 [] j)(hr:x.rcs.length<1000000):x.roundP n room slice=some (({x with P:=tk_ 0 6 [] r0 r1 r2 r3 6 [] j,rcs:=x.rcs++[⟨3,0,0,0⟩]}:Pip).m n room slice,.ret):=by
 have hu':¬(x.us:Int)=(slice:Int):=by omega
 unfold Pip.roundP IM.roundQ;simp[Pip.m,h,tk_,hu',IM.popT,popQ,IM.setT,ITask.wBlocks,ITask.wPc,IM.note,IM.wRecs,push,lim,hr,IM.finish,IM.finishLoop,ITask.wState,IM.wWait,guardO,updW_nil]
theorem Pused (hu:x.us=slice)(h:x.P.state=1)(hrw:x.row.length<1000000):x.roundP n room slice=some (({x with P:=(x.P.wState 0).wDue (-1),row:=x.row++[0]}:Pip).m n room slice,.ret):=by
 unfold Pip.roundP IM.roundQ;simp[Pip.m,h,hu,IM.setT,IM.ready,IM.wRow,push,lim,hrw]
theorem Pout (h:x.P.state≠1):x.roundP n room slice=some (x.m n room slice,.out):=by
 unfold Pip.roundP IM.roundQ;simp[Pip.m,h]
theorem Pturn (F:Nat)(h:x.P.body=0)(hr:x.rcs.length<1000000):IM.turnQ F (x.m n room slice) 0=IM.roundsQ 0 (stepsP n) F (({x with P:=x.P.wState 1,rcs:=x.rcs++[⟨1,0,0,0⟩],us:=0}:Pip).m n room slice):=by
 unfold IM.turnQ;simp[Pip.m,h,IM.setT,IM.note,IM.wRecs,push,lim,hr,ITask.wState,IM.wUsed,chanNo]
theorem Cfin (hu:x.us<slice)(h:x.C=tk_ 1 11 [] r0 r1 r2 r3 1 [] j)(hr:x.rcs.length<1000000):x.roundC n room slice=some (({x with C:=tk_ 1 11 [] r0 r1 r2 r3 6 [] j,rcs:=x.rcs++[⟨3,0,1,0⟩]}:Pip).m n room slice,.ret):=by
 have hu':¬(x.us:Int)=(slice:Int):=by omega
 unfold Pip.roundC IM.roundQ;simp[Pip.m,h,tk_,hu',IM.popT,popQ,IM.setT,ITask.wBlocks,ITask.wPc,IM.note,IM.wRecs,push,lim,hr,IM.finish,IM.finishLoop,ITask.wState,IM.wWait,guardO,updW_nil]
theorem Cused (hu:x.us=slice)(h:x.C.state=1)(hrw:x.row.length<1000000):x.roundC n room slice=some (({x with C:=(x.C.wState 0).wDue (-1),row:=x.row++[1]}:Pip).m n room slice,.ret):=by
 unfold Pip.roundC IM.roundQ;simp[Pip.m,h,hu,IM.setT,IM.ready,IM.wRow,push,lim,hrw]
theorem Cout (h:x.C.state≠1):x.roundC n room slice=some (x.m n room slice,.out):=by
 unfold Pip.roundC IM.roundQ;simp[Pip.m,h]
theorem Cturn (F:Nat)(h:x.C.body=1)(hr:x.rcs.length<1000000):IM.turnQ F (x.m n room slice) 1=IM.roundsQ 1 (stepsC) F (({x with C:=x.C.wState 1,rcs:=x.rcs++[⟨1,0,1,0⟩],us:=0}:Pip).m n room slice):=by
 unfold IM.turnQ;simp[Pip.m,h,IM.setT,IM.note,IM.wRecs,push,lim,hr,ITask.wState,IM.wUsed,chanNo]
end
end Beat
end
section
set_option linter.unusedSimpArgs false
set_option linter.unusedVariables false
namespace Beat
attribute [local simp] Go.Beat.int_beq Go.Beat.int_bne Go.Beat.ble_dec
attribute [-simp] w64_wrap
def down:Nat→List Int
 |0=>[]
 |k+1=>((k:Int)+1)::down k
theorem down_len:∀k,(down k).length=k
 |0=>rfl
 |k+1=>by simp[down,down_len k]
def says (rs:List Rec):List Int:=(rs.filter fun r=>r.kind==2).map (·.num)
def Up (st:Int):Prop:=st=0∨st=1
inductive PS (n:Nat):ITask→List Int→Nat→Bool→List (Int×Int)→Int→Prop
 |p1 {st j} (u:Up st):PS n (tk_ 0 1 [] 1 0 0 0 st [] j) (down n) (3*n+3) false [] st
 |p2 {st j r2} {k:Nat} (hk:k<200) (u:Up st):PS n (tk_ 0 2 [] 1 k r2 0 st [] j) (down k) (3*k+2) false [] st
 |p2x {st j r2} {k:Nat} (hk:k<200) (u:Up st):PS n (tk_ 0 5 [(2,5)] 1 k r2 0 st [] j) (down k) (3*k+2) false [] st
 |p3 {st j r2} {k:Nat} (hk:k<200) (u:Up st):PS n (tk_ 0 3 [(2,5)] 1 k r2 0 st [] j) (((k:Int)+1)::down k) (3*k+4) false [] st
 |p4 {st j} {k:Nat} (hk:k<200) (u:Up st):PS n (tk_ 0 4 [(2,5)] 1 k ((k:Int)+1) 0 st [] j) (((k:Int)+1)::down k) (3*k+3) false [] st
 |p4w {j} {k:Nat} (hk:k<200):PS n (tk_ 0 5 [(2,5)] 1 k ((k:Int)+1) 0 4 [] j) (down k) (3*k+2) false [(0,(k:Int)+1)] 4
 |p5 {st j r2} (u:Up st):PS n (tk_ 0 5 [] 1 0 r2 0 st [] j) [] 1 false [] st
 |p6 {st j r2} (u:Up st):PS n (tk_ 0 6 [] 1 0 r2 0 st [] j) [] 0 true [] st
 |pF {j r2}:PS n (tk_ 0 6 [] 1 0 r2 0 6 [] j) [] 0 true [] 6
inductive CS (eof:Prop):ITask→List Int→Nat→List Nat→Int→Prop
 |c0 {st j r0 r1 r2 r3} (u:Up st):CS eof (tk_ 1 0 [] r0 r1 r2 r3 st [] j) [] 11 [] st
 |c1 {st j r0 r2 r3} (u:Up st):CS eof (tk_ 1 1 [] r0 1 r2 r3 st [] j) [] 10 [] st
 |c2 {st j r0 r2 r3} (u:Up st):CS eof (tk_ 1 2 [(1,5)] r0 0 r2 r3 st [] j) [] 9 [] st
 |c2w {j r0 r2 r3} (ha:j.a=0) (ho:j.op=10):CS eof (tk_ 1 3 [(1,5)] r0 0 r2 r3 5 [0] j) [] 8 [1] 5
 |c3 {st j r0 r2} (u:Up st):CS eof (tk_ 1 3 [(1,5)] r0 0 r2 1 st [] j) [r0] 8 [] st
 |c3z {st j r0 r2} (u:Up st) (e:eof):CS eof (tk_ 1 3 [(1,5)] r0 0 r2 0 st [] j) [] 8 [] st
 |c4 {st j r0 r2} (u:Up st):CS eof (tk_ 1 4 [(3,5),(1,5)] r0 0 r2 1 st [] j) [r0] 3 [] st
 |c1b {st j r0 r2} (u:Up st) (e:eof):CS eof (tk_ 1 5 [(1,5)] r0 0 r2 0 st [] j) [] 7 [] st
 |c1c {st j r0 r2} (u:Up st):CS eof (tk_ 1 5 [(3,5),(1,5)] r0 0 r2 1 st [] j) [] 7 [] st
 |c5 {st j r0 r2} (u:Up st):CS eof (tk_ 1 5 [] r0 0 r2 1 st [] j) [] 6 [] st
 |c5z {st j r0 r2} (u:Up st) (e:eof):CS eof (tk_ 1 5 [] r0 0 r2 0 st [] j) [] 6 [] st
 |c6 {st j r0 r2} (u:Up st):CS eof (tk_ 1 6 [] r0 1 r2 1 st [] j) [] 5 [] st
 |c6z {st j r0 r2} (u:Up st) (e:eof):CS eof (tk_ 1 6 [] r0 0 r2 0 st [] j) [] 5 [] st
 |c6y {st j r0 r2} (u:Up st):CS eof (tk_ 1 11 [(9,11),(6,11)] r0 1 r2 1 st [] j) [] 5 [] st
 |c6xz {st j r0 r2} (u:Up st) (e:eof):CS eof (tk_ 1 11 [(6,11)] r0 0 r2 0 st [] j) [] 1 [] st
 |c7 {st j r0 r2 r3} (u:Up st):CS eof (tk_ 1 7 [(6,11)] r0 0 r2 r3 st [] j) [] 4 [] st
 |c7w {j r0 r2 r3} (ha:j.a=0) (ho:j.op=10):CS eof (tk_ 1 8 [(6,11)] r0 0 r2 r3 5 [0] j) [] 3 [1] 5
 |c8 {st j r0 r2} (u:Up st):CS eof (tk_ 1 8 [(6,11)] r0 0 r2 1 st [] j) [r0] 3 [] st
 |c8z {st j r0 r2} (u:Up st) (e:eof):CS eof (tk_ 1 8 [(6,11)] r0 0 r2 0 st [] j) [] 3 [] st
 |c9 {st j r0 r2} (u:Up st):CS eof (tk_ 1 9 [(6,11)] r0 1 r2 1 st [] j) [r0] 2 [] st
 |c9z {st j r0 r2} (u:Up st) (e:eof):CS eof (tk_ 1 9 [(6,11)] r0 0 r2 0 st [] j) [] 2 [] st
 |c10 {st j r0 r2} (u:Up st):CS eof (tk_ 1 10 [(9,11),(6,11)] r0 1 r2 1 st [] j) [r0] 1 [] st
 |c11 {st j r0 r2 r3} (u:Up st) (e:eof):CS eof (tk_ 1 11 [] r0 0 r2 r3 st [] j) [] 0 [] st
 |cF {j r0 r2 r3} (e:eof):CS eof (tk_ 1 11 [] r0 0 r2 r3 6 [] j) [] 0 [] 6
def unf (s:Int):Nat:=if s=6 then 0 else 1
structure Inv (n:Nat) (x:Pip) (sp sc:Int) (M:Nat) (b:Nat):Prop where
 ex:∃rest hand cP d,PS n x.P rest cP x.closed x.senders sp∧CS (x.closed=true∧x.nums=[]) x.C hand d x.takers sc∧says x.rcs++hand++x.nums++x.senders.map (·.2)++rest=down n∧(x.takers≠[]→x.nums=[]∧x.senders=[]∧x.closed=false)∧M=cP+5*(hand.length+x.nums.length+x.senders.length+rest.length)+d+unf sp+unf sc
 tk:x.tk+M≤4000
 rcs:x.rcs.length+3*M≤4000+b
 nd:x.row.Nodup
 r0:0∈x.row↔sp=0
 r1:1∈x.row↔sc=0
 r2:∀i∈x.row,i<2
theorem row_len {x:Pip}(nd:x.row.Nodup)(r2:∀i∈x.row,i<2):x.row.length≤2:=by
 match h:x.row,nd,r2 with
 |[],_,_=>simp
 |[_],_,_=>simp
 |[_,_],_,_=>simp
 |a::b::c::l,nd,r2=>
  exfalso
  have ha:=r2 a (by simp);have hb:=r2 b (by simp);have hc:=r2 c (by simp);simp only[List.nodup_cons,List.mem_cons,not_or] at nd;omega
end Beat
end
section
set_option linter.unusedSimpArgs false
set_option linter.unusedVariables false
namespace Beat
attribute [local simp] Go.Beat.int_beq Go.Beat.int_bne Go.Beat.ble_dec
attribute [-simp] w64_wrap
section
variable {n:Nat} {room:Int} {slice:Nat} {x:Pip} {sp sc:Int} {M:Nat}
theorem CS.imp {e e':Prop}{t:ITask}{hand:List Int}{d:Nat}{tk:List Nat}{s:Int}(i:e→e')(h:CS e t hand d tk s):CS e' t hand d tk s:=by
 cases h with
 |c0 u=>exact .c0 u
 |c1 u=>exact .c1 u
 |c2 u=>exact .c2 u
 |c2w ha ho=>exact .c2w ha ho
 |c3 u=>exact .c3 u
 |c3z u g=>exact .c3z u (i g)
 |c4 u=>exact .c4 u
 |c1b u g=>exact .c1b u (i g)
 |c1c u=>exact .c1c u
 |c5 u=>exact .c5 u
 |c5z u g=>exact .c5z u (i g)
 |c6 u=>exact .c6 u
 |c6z u g=>exact .c6z u (i g)
 |c6y u=>exact .c6y u
 |c6xz u g=>exact .c6xz u (i g)
 |c7 u=>exact .c7 u
 |c7w ha ho=>exact .c7w ha ho
 |c8 u=>exact .c8 u
 |c8z u g=>exact .c8z u (i g)
 |c9 u=>exact .c9 u
 |c9z u g=>exact .c9z u (i g)
 |c10 u=>exact .c10 u
 |c11 u g=>exact .c11 u (i g)
 |cF g=>exact .cF (i g)
theorem CS.waits {e:Prop}{t:ITask}{hand:List Int}{d:Nat}{tk:List Nat}{s:Int}(h:CS e t hand d tk s)(ht:tk≠[]):tk=[1]∧s=5∧hand=[]∧∃pc bl r0 r1 r2 r3 j,t=tk_ 1 pc bl r0 r1 r2 r3 5 [0] j∧j.a=0∧j.op=10∧(∀v,CS e (tk_ 1 pc bl v r1 r2 1 0 [] j) [v] d [] 0)∧(∀e':Prop,e'→CS e' (tk_ 1 pc bl 0 r1 r2 0 0 [] j) [] d [] 0):=by
 cases h with
 |c2w ha ho=>exact⟨rfl,rfl,rfl,_,_,_,_,_,_,_,rfl,ha,ho,fun v=>.c3 (.inl rfl),fun e' g=>.c3z (.inl rfl) g⟩
 |c7w ha ho=>exact⟨rfl,rfl,rfl,_,_,_,_,_,_,_,rfl,ha,ho,fun v=>.c8 (.inl rfl),fun e' g=>.c8z (.inl rfl) g⟩
 |_=>exact absurd rfl ht
def OutP (n:Nat)(room:Int)(slice:Nat)(x:Pip)(M:Nat):Prop:=∃x' q sp' sc' M',x.roundP n room slice=some (x'.m n room slice,q)∧((q=.go∧x'.us=x.us+1)∨(q=.ret∧sp'≠1))∧M'<M∧sc'≠1∧Inv n x' sp' sc' M' 0
theorem stepP (I:Inv n x 1 sc M 1)(hsc:sc≠1){rest hand:List Int}{cP d:Nat}(hC:CS (x.closed=true∧x.nums=[]) x.C hand d x.takers sc)(hf:says x.rcs++hand++x.nums++x.senders.map (·.2)++rest=down n)(ht:x.takers≠[]→x.nums=[]∧x.senders=[]∧x.closed=false)(hM:M=cP+5*(hand.length+x.nums.length+x.senders.length+rest.length)+d+unf 1+unf sc){P':ITask}{cP':Nat}(hR:x.roundP n room slice=some (({x.go with P:=P'}:Pip).m n room slice,.go))(hP:PS n P' rest cP' x.closed x.senders 1)(hlt:cP'<cP):OutP n room slice x M:=by
 refine⟨_,.go,1,sc,cP'+5*(hand.length+x.nums.length+x.senders.length+rest.length)+d+unf 1+unf sc,hR,.inl ⟨rfl,rfl⟩,by omega,hsc,⟨rest,hand,cP',d,hP,hC,hf,ht,rfl⟩,?_,?_,I.nd,I.r0,I.r1,I.r2⟩
 ·have:=I.tk
  show x.tk+1+_≤4000
  omega
 ·have:=I.rcs
  show x.rcs.length+_≤4000+0
  omega
theorem roundP_ok (hn:n<200)(I:Inv n x 1 sc M 1)(hsc:sc≠1)(hu:x.us<slice)(hs:slice<5000):OutP n room slice x M:=by
 obtain⟨rest,hand,cP,d,hP,hC,hf,ht,hM⟩:=I.ex
 have hk:x.tk<5000:=by have:=I.tk;omega
 have hr:x.rcs.length<1000000:=by have:=I.rcs;omega
 have hrw:x.row.length<1000000:=by have:=row_len I.nd I.r2;omega
 have hlen:(says x.rcs).length+hand.length+x.nums.length+x.senders.length+rest.length=n:=by
  have:=congrArg List.length hf
  simpa [down_len,Nat.add_assoc] using this
 generalize e:x.P=t at hP;generalize ec:x.closed=cl at hP;generalize es:x.senders=sd at hP;generalize est:(1:Int)=s1 at hP
 cases hP with
 |p1 u=>
  subst est;exact stepP I hsc hC hf ht hM (P1 hk hu hs e) (by rw[ec,es];exact PS.p2 hn (.inr rfl)) (by omega:3*n+2<3*n+3)
 |@p2 _ _ _ k hk2 u=>
  subst est
  cases k with
  |zero=>exact stepP I hsc hC hf ht hM (P2b hk hu hs e) (by rw[ec,es];exact PS.p5 (.inr rfl)) (by omega:1<3*0+2)
  |succ k=>exact stepP I hsc hC hf ht hM (P2a hk hu hs (by rw[e];rfl) (by omega)) (by rw[ec,es];exact PS.p3 (by omega) (.inr rfl)) (by omega:3*k+4<3*(k+1)+2)
 |@p2x _ _ _ k hk2 u=>
  subst est
  cases k with
  |zero=>exact stepP I hsc hC hf ht hM (P2xb hk hu hs e) (by rw[ec,es];exact PS.p5 (.inr rfl)) (by omega:1<3*0+2)
  |succ k=>exact stepP I hsc hC hf ht hM (P2xa hk hu hs (by rw[e];rfl) (by omega)) (by rw[ec,es];exact PS.p3 (by omega) (.inr rfl)) (by omega:3*k+4<3*(k+1)+2)
 |@p3 _ _ _ k hk2 u=>
  subst est;exact stepP I hsc hC hf ht hM (P3 hk hu hs e hk2) (by rw[ec,es];exact PS.p4 hk2 (.inr rfl)) (by omega:3*k+3<3*k+4)
 |@p4 _ _ k hk2 u=>
  subst est;have I1:=I.tk;have I2:=I.rcs;simp only[List.length_cons] at hM hlen
  by_cases htk:x.takers=[]
  ·by_cases hn2:(x.nums.length:Int)<room
   ·refine⟨_,.go,1,sc,(3*k+2)+5*(hand.length+(x.nums++[(k:Int)+1]).length+x.senders.length+(down k).length)+d+unf 1+unf sc,P4b hk hu hs e htk ec hn2 (by omega),.inl ⟨rfl,rfl⟩,?_,hsc,⟨down k,hand,3*k+2,d,?_,?_,?_,fun h=>absurd htk h,rfl⟩,?_,?_,I.nd,I.r0,I.r1,I.r2⟩
    ·simp only[List.length_append,List.length_singleton]
     omega
    ·show PS n _ _ _ x.closed x.senders 1
     rw[ec,es];exact PS.p2x hk2 (.inr rfl)
    ·exact hC.imp fun h=>absurd h.1 (by rw[ec];decide)
    ·show says x.rcs++hand++(x.nums++[(k:Int)+1])++x.senders.map (·.2)++down k=down n
     rw[←hf,es]
     simp
    ·simp only[List.length_append,List.length_singleton]
     show x.tk+1+_≤4000
     omega
    ·simp only[List.length_append,List.length_singleton]
     show x.rcs.length+_≤4000+0
     omega
   ·refine⟨_,.go,4,sc,(3*k+2)+5*(hand.length+x.nums.length+1+(down k).length)+d+unf 4+unf sc,P4c hk hu hs e htk ec hn2 es,.inl ⟨rfl,rfl⟩,?_,hsc,⟨down k,hand,3*k+2,d,?_,hC,?_,fun h=>absurd htk h,rfl⟩,?_,?_,I.nd,?_,I.r1,I.r2⟩
    ·rw[es] at hM
     simp only[List.length_nil] at hM;have:unf 4=unf 1:=rfl;omega
    ·show PS n _ _ _ x.closed _ 4
     rw[ec];exact PS.p4w hk2
    ·show says x.rcs++hand++x.nums++[(k:Int)+1]++down k=down n
     rw[←hf,es]
     simp
    ·rw[es] at hM
     simp only[List.length_nil] at hM;have:unf 4=unf 1:=rfl
     show x.tk+1+_≤4000
     omega
    ·rw[es] at hM
     simp only[List.length_nil] at hM;have:unf 4=unf 1:=rfl
     show x.rcs.length+_≤4000+0
     omega
    ·show 0∈x.row↔(4:Int)=0
     exact⟨fun h=>absurd (I.r0.1 h) (by decide),fun h=>absurd h (by decide)⟩
  ·obtain⟨h1,rfl,rfl,pc,bl,s0,s1,s2,s3,jc,hCt,ha,ho,hw,_⟩:=hC.waits htk
   obtain⟨hn0,_⟩:=ht htk;refine⟨_,.go,1,0,(3*k+2)+5*(1+x.nums.length+x.senders.length+(down k).length)+d+unf 1+unf 0,P4a hk hu hs e hCt ha ho h1 ec hrw,.inl ⟨rfl,rfl⟩,?_,by decide,⟨down k,[(k:Int)+1],3*k+2,d,?_,hw _,?_,fun h=>absurd rfl h,rfl⟩,?_,?_,?_,?_,?_,?_⟩
   ·have:unf 5=unf 0:=rfl
    simp only[List.length_nil] at hM;omega
   ·show PS n _ _ _ x.closed x.senders 1
    rw[ec,es];exact PS.p2x hk2 (.inr rfl)
   ·show says x.rcs++[(k:Int)+1]++x.nums++x.senders.map (·.2)++down k=down n
    rw[←hf,es,hn0]
    simp
   ·have:unf 5=unf 0:=rfl
    simp only[List.length_nil] at hM
    show x.tk+1+_≤4000
    omega
   ·have:unf 5=unf 0:=rfl
    simp only[List.length_nil] at hM
    show x.rcs.length+_≤4000+0
    omega
   ·show (x.row++[1]).Nodup
    have h1:1∉x.row:=fun h=>absurd (I.r1.1 h) (by decide)
    rw[List.nodup_append];exact⟨I.nd,by simp,fun a ha b hb=>by rintro rfl;simp at hb;subst hb;exact h1 ha⟩
   ·show 0∈x.row++[1]↔_
    simpa using I.r0
   ·show 1∈x.row++[1]↔_
    simp
   ·intro i hi
    rcases List.mem_append.1 hi with h|h
    ·exact I.r2 i h
    ·simp at h;omega
 |p4w=>exact absurd est (by decide)
 |p5 u=>
  subst est;have I1:=I.tk;have I2:=I.rcs
  by_cases htk:x.takers=[]
  ·refine⟨_,.go,1,sc,0+5*(hand.length+x.nums.length+x.senders.length+0)+d+unf 1+unf sc,P5a hk hu hs e htk es ec,.inl ⟨rfl,rfl⟩,?_,hsc,⟨[],hand,0,d,?_,?_,hf,fun h=>absurd htk h,rfl⟩,?_,?_,I.nd,I.r0,I.r1,I.r2⟩
   ·simp only[List.length_nil] at hM
    omega
   ·show PS n _ _ _ true x.senders 1
    rw[es];exact PS.p6 (.inr rfl)
   ·exact hC.imp fun h=>absurd h.1 (by rw[ec];decide)
   ·simp only[List.length_nil] at hM
    show x.tk+1+_≤4000
    omega
   ·simp only[List.length_nil] at hM
    show x.rcs.length+_≤4000+0
    omega
  ·obtain⟨h1,rfl,rfl,pc,bl,s0,s1,s2,s3,jc,hCt,ha,ho,_,hw⟩:=hC.waits htk
   obtain⟨hn0,_⟩:=ht htk;have u5:unf 5=unf 0:=rfl;refine⟨_,.go,1,0,0+5*(0+x.nums.length+x.senders.length+0)+d+unf 1+unf 0,P5b hk hu hs e hCt ha ho h1 es ec hrw,.inl ⟨rfl,rfl⟩,?_,by decide,⟨[],[],0,d,?_,hw _ ⟨rfl,hn0⟩,hf,fun h=>absurd rfl h,rfl⟩,?_,?_,?_,?_,?_,?_⟩
   ·simp only[List.length_nil] at hM
    omega
   ·show PS n _ _ _ true x.senders 1
    rw[es];exact PS.p6 (.inr rfl)
   ·simp only[List.length_nil] at hM
    show x.tk+1+_≤4000
    omega
   ·simp only[List.length_nil] at hM
    show x.rcs.length+_≤4000+0
    omega
   ·show (x.row++[1]).Nodup
    have h1:1∉x.row:=fun h=>absurd (I.r1.1 h) (by decide)
    rw[List.nodup_append];exact⟨I.nd,by simp,fun a ha b hb=>by rintro rfl;simp at hb;subst hb;exact h1 ha⟩
   ·show 0∈x.row++[1]↔_
    simpa using I.r0
   ·show 1∈x.row++[1]↔_
    simp
   ·intro i hi
    rcases List.mem_append.1 hi with h|h
    ·exact I.r2 i h
    ·simp at h;omega
 |p6 u=>
  subst est;have I1:=I.tk;have I2:=I.rcs;have u6:unf 6=0:=rfl;have u1:unf 1=1:=rfl;refine⟨_,.ret,6,sc,0+5*(hand.length+x.nums.length+x.senders.length+0)+d+unf 6+unf sc,Pfin hu e hr,.inr ⟨rfl,by decide⟩,?_,hsc,⟨[],hand,0,d,?_,hC,?_,ht,rfl⟩,?_,?_,I.nd,?_,I.r1,I.r2⟩
  ·simp only[List.length_nil] at hM
   omega
  ·show PS n _ _ _ x.closed x.senders 6
   rw[ec,es];exact PS.pF
  ·show says (x.rcs++[⟨3,0,0,0⟩])++hand++x.nums++x.senders.map (·.2)++[]=down n
   rw[←hf];simp[says]
  ·simp only[List.length_nil] at hM
   show x.tk+_≤4000
   omega
  ·simp only[List.length_nil] at hM
   show (x.rcs++[_]).length+_≤4000+0
   rw[List.length_append,List.length_singleton];omega
  ·show 0∈x.row↔(6:Int)=0
   exact⟨fun h=>absurd (I.r0.1 h) (by decide),fun h=>absurd h (by decide)⟩
 |pF=>exact absurd est (by decide)
end
end Beat
end
section
set_option linter.unusedSimpArgs false
set_option linter.unusedVariables false
namespace Beat
attribute [local simp] Go.Beat.int_beq Go.Beat.int_bne Go.Beat.ble_dec
attribute [-simp] w64_wrap
section
variable {n:Nat} {room:Int} {slice:Nat} {x:Pip} {sp sc:Int} {M:Nat}
theorem PS.sends {t:ITask}{rest:List Int}{cP:Nat}{cl:Bool}{sd:List (Int×Int)}{s:Int}(h:PS n t rest cP cl sd s):sd=[]∨(s=4∧∃r0 r1 r2 r3 j u,t=tk_ 0 5 [(2,5)] r0 r1 r2 r3 4 [] j∧sd=[(0,u)]∧PS n (tk_ 0 5 [(2,5)] r0 r1 r2 r3 0 [] j) rest cP cl [] 0):=by
 cases h with
 |p4w hk=>exact .inr ⟨rfl,_,_,_,_,_,_,rfl,rfl,PS.p2x hk (.inl rfl)⟩
 |_=>exact .inl rfl
def OutC (n:Nat)(room:Int)(slice:Nat)(x:Pip)(M:Nat):Prop:=∃x' q sp' sc' M',x.roundC n room slice=some (x'.m n room slice,q)∧((q=.go∧x'.us=x.us+1)∨(q=.ret∧sc'≠1))∧M'<M∧sp'≠1∧Inv n x' sp' sc' M' 0
theorem stepC (I:Inv n x sp 1 M 1)(hsp:sp≠1){rest hand:List Int}{cP d:Nat}(hP:PS n x.P rest cP x.closed x.senders sp)(hf:says x.rcs++hand++x.nums++x.senders.map (·.2)++rest=down n)(ht:x.takers≠[]→x.nums=[]∧x.senders=[]∧x.closed=false)(hM:M=cP+5*(hand.length+x.nums.length+x.senders.length+rest.length)+d+unf sp+unf 1){C':ITask}{d':Nat}(hR:x.roundC n room slice=some (({x.go with C:=C'}:Pip).m n room slice,.go))(hC:CS (x.closed=true∧x.nums=[]) C' hand d' x.takers 1)(hlt:d'<d):OutC n room slice x M:=by
 refine⟨_,.go,sp,1,cP+5*(hand.length+x.nums.length+x.senders.length+rest.length)+d'+unf sp+unf 1,hR,.inl ⟨rfl,rfl⟩,by omega,hsp,⟨rest,hand,cP,d',hP,hC,hf,ht,rfl⟩,?_,?_,I.nd,I.r0,I.r1,I.r2⟩
 ·have:=I.tk
  show x.tk+1+_≤4000
  omega
 ·have:=I.rcs
  show x.rcs.length+_≤4000+0
  omega
theorem sayC (I:Inv n x sp 1 M 1)(hsp:sp≠1){rest:List Int}{v:Int}{cP d:Nat}(hP:PS n x.P rest cP x.closed x.senders sp)(hf:says x.rcs++[v]++x.nums++x.senders.map (·.2)++rest=down n)(ht:x.takers≠[]→x.nums=[]∧x.senders=[]∧x.closed=false)(hM:M=cP+5*([v].length+x.nums.length+x.senders.length+rest.length)+d+unf sp+unf 1){C':ITask}{d':Nat}(hR:x.roundC n room slice=some (({x.go with C:=C',rcs:=x.rcs++[⟨2,0,1,v⟩]}:Pip).m n room slice,.go))(hC:CS (x.closed=true∧x.nums=[]) C' [] d' x.takers 1)(hlt:d'<d+5):OutC n room slice x M:=by
 simp only[List.length_singleton] at hM;refine⟨_,.go,sp,1,cP+5*(0+x.nums.length+x.senders.length+rest.length)+d'+unf sp+unf 1,hR,.inl ⟨rfl,rfl⟩,by omega,hsp,⟨rest,[],cP,d',hP,hC,?_,ht,rfl⟩,?_,?_,I.nd,I.r0,I.r1,I.r2⟩
 ·show says (x.rcs++[⟨2,0,1,v⟩])++[]++x.nums++x.senders.map (·.2)++rest=down n
  rw[←hf];simp[says]
 ·have:=I.tk
  show x.tk+1+_≤4000
  omega
 ·have:=I.rcs
  show (x.rcs++[_]).length+_≤4000+0
  rw[List.length_append,List.length_singleton];omega
theorem takeC (I:Inv n x sp 1 M 1)(hsp:sp≠1){rest:List Int}{cP d:Nat}(hP:PS n x.P rest cP x.closed x.senders sp)(hf:says x.rcs++[]++x.nums++x.senders.map (·.2)++rest=down n)(htk:x.takers=[])(hM:M=cP+5*(([]:List Int).length+x.nums.length+x.senders.length+rest.length)+(d+1)+unf sp+unf 1){tv:Int→Int→Int→List Nat→ITask}(r0 r3:Int)(hn:n<200)(ra:∀{v:Int} {ns:List Int},x.nums=v::ns→x.senders=[]→ns.length<999999→x.roundC n room slice=some (({x.go with C:=tv v 1 1 [],nums:=ns}:Pip).m n room slice,.go))(rb:∀{jp:Jk} {s0 s1 s2 s3 v u:Int} {ns:List Int},x.P=tk_ 0 5 [(2,5)] s0 s1 s2 s3 4 [] jp→x.nums=v::ns→x.senders=[(0,u)]→ns.length<999999→x.row.length<1000000→x.roundC n room slice=some (({x.go with C:=tv v 1 1 [],nums:=ns++[u],senders:=[],row:=x.row++[0],P:=tk_ 0 5 [(2,5)] s0 s1 s2 s3 0 [] jp}:Pip).m n room slice,.go))(rc:∀{jp:Jk} {s0 s1 s2 s3 u:Int},x.P=tk_ 0 5 [(2,5)] s0 s1 s2 s3 4 [] jp→x.nums=[]→x.senders=[(0,u)]→x.row.length<1000000→x.roundC n room slice=some (({x.go with C:=tv u 1 1 [],senders:=[],row:=x.row++[0],P:=tk_ 0 5 [(2,5)] s0 s1 s2 s3 0 [] jp}:Pip).m n room slice,.go))(rd:x.nums=[]→x.senders=[]→x.closed=true→x.roundC n room slice=some (({x.go with C:=tv 0 0 1 []}:Pip).m n room slice,.go))(re:x.nums=[]→x.senders=[]→x.closed=false→x.takers=[]→x.roundC n room slice=some (({x.go with C:=tv r0 r3 5 [0],takers:=[1]}:Pip).m n room slice,.go))(ka:∀(e:Prop) v,CS e (tv v 1 1 []) [v] d [] 1)(kz:∀e:Prop,e→CS e (tv 0 0 1 []) [] d [] 1)(kw:∀e:Prop,CS e (tv r0 r3 5 [0]) [] d [1] 5):OutC n room slice x M:=by
 have hrw:x.row.length<1000000:=by have:=row_len I.nd I.r2;omega
 have hlen:(says x.rcs).length+x.nums.length+x.senders.length+rest.length=n:=by
  have:=congrArg List.length hf
  simpa [down_len,Nat.add_assoc] using this
 have I1:=I.tk;have I2:=I.rcs
 have nd0:sp=4→(x.row++[0]).Nodup:=fun h4=>by
  have h1:0∉x.row:=fun h=>absurd (I.r0.1 h) (by rw[h4];decide)
  rw[List.nodup_append];exact⟨I.nd,by simp,fun a ha b hb=>by rintro rfl;simp at hb;subst hb;exact h1 ha⟩
 have lt0:∀i∈x.row++[0],i<2:=fun i hi=>by
  rcases List.mem_append.1 hi with h|h
  ·exact I.r2 i h
  ·simp at h;omega
 simp only[List.length_nil] at hM
 rcases hP.sends with hsd|⟨rfl,s0,s1,s2,s3,jp,u,hPt,hsd,hP'⟩
 ·cases hnn:x.nums with
  |cons v ns=>
   have hl:x.nums.length=ns.length+1:=by rw[hnn];rfl
   refine⟨_,.go,sp,1,cP+5*(1+ns.length+x.senders.length+rest.length)+d+unf sp+unf 1,ra hnn hsd (by omega),.inl ⟨rfl,rfl⟩,by omega,hsp,⟨rest,[v],cP,d,hP,?_,?_,fun h=>absurd htk h,rfl⟩,?_,?_,I.nd,I.r0,I.r1,I.r2⟩
   ·show CS _ _ _ _ x.takers 1
    rw[htk];exact ka _ v
   ·show says x.rcs++[v]++ns++x.senders.map (·.2)++rest=down n
    rw[←hf,hnn]
    simp
   ·show x.tk+1+_≤4000
    omega
   ·show x.rcs.length+_≤4000+0
    omega
  |nil=>
   cases hc:x.closed with
   |true=>
    refine⟨_,.go,sp,1,cP+5*(0+x.nums.length+x.senders.length+rest.length)+d+unf sp+unf 1,rd hnn hsd hc,.inl ⟨rfl,rfl⟩,by omega,hsp,⟨rest,[],cP,d,hP,?_,hf,fun h=>absurd htk h,rfl⟩,?_,?_,I.nd,I.r0,I.r1,I.r2⟩
    ·show CS _ _ _ _ x.takers 1
     rw[htk];exact kz _ ⟨hc,hnn⟩
    ·show x.tk+1+_≤4000
     omega
    ·show x.rcs.length+_≤4000+0
     omega
   |false=>
    have u5:unf 5=unf 1:=rfl;refine⟨_,.go,sp,5,cP+5*(0+x.nums.length+x.senders.length+rest.length)+d+unf sp+unf 5,re hnn hsd hc htk,.inl ⟨rfl,rfl⟩,by omega,hsp,⟨rest,[],cP,d,hP,kw _,hf,fun _=>⟨hnn,hsd,hc⟩,rfl⟩,?_,?_,I.nd,I.r0,?_,I.r2⟩
    ·show x.tk+1+_≤4000
     omega
    ·show x.rcs.length+_≤4000+0
     omega
    ·show 1∈x.row↔(5:Int)=0
     exact⟨fun h=>absurd (I.r1.1 h) (by decide),fun h=>absurd h (by decide)⟩
 ·have u4:unf 4=unf 0:=rfl
  have hl2:x.senders.length=1:=by rw[hsd];rfl
  cases hnn:x.nums with
  |cons v ns=>
   have hl:x.nums.length=ns.length+1:=by rw[hnn];rfl
   refine⟨_,.go,0,1,cP+5*(1+(ns++[u]).length+0+rest.length)+d+unf 0+unf 1,rb hPt hnn hsd (by omega) hrw,.inl ⟨rfl,rfl⟩,?_,by decide,⟨rest,[v],cP,d,hP',?_,?_,fun h=>absurd htk h,rfl⟩,?_,?_,nd0 rfl,?_,?_,lt0⟩
   ·simp only[List.length_append,List.length_singleton]
    omega
   ·show CS _ _ _ _ x.takers 1
    rw[htk];exact ka _ v
   ·show says x.rcs++[v]++(ns++[u])++[]++rest=down n
    rw[←hf,hnn,hsd]
    simp
   ·simp only[List.length_append,List.length_singleton]
    show x.tk+1+_≤4000
    omega
   ·simp only[List.length_append,List.length_singleton]
    show x.rcs.length+_≤4000+0
    omega
   ·show 0∈x.row++[0]↔_
    simp
   ·show 1∈x.row++[0]↔_
    simpa using I.r1
  |nil=>
   have hl:x.nums.length=0:=by rw[hnn];rfl
   refine⟨_,.go,0,1,cP+5*(1+x.nums.length+0+rest.length)+d+unf 0+unf 1,rc hPt hnn hsd hrw,.inl ⟨rfl,rfl⟩,by omega,by decide,⟨rest,[u],cP,d,hP',?_,?_,fun h=>absurd htk h,rfl⟩,?_,?_,nd0 rfl,?_,?_,lt0⟩
   ·show CS _ _ _ _ x.takers 1
    rw[htk];exact ka _ u
   ·show says x.rcs++[u]++x.nums++[]++rest=down n
    rw[←hf,hnn,hsd]
    simp
   ·show x.tk+1+_≤4000
    omega
   ·show x.rcs.length+_≤4000+0
    omega
   ·show 0∈x.row++[0]↔_
    simp
   ·show 1∈x.row++[0]↔_
    simpa using I.r1
theorem roundC_ok (hn:n<200)(I:Inv n x sp 1 M 1)(hsp:sp≠1)(hu:x.us<slice)(hs:slice<5000):OutC n room slice x M:=by
 obtain⟨rest,hand,cP,d,hP,hC,hf,ht,hM⟩:=I.ex
 have hk:x.tk<5000:=by have:=I.tk;omega
 have hr:x.rcs.length<1000000:=by have:=I.rcs;omega
 generalize e:x.C=t at hC;generalize et:x.takers=tkr at hC;generalize est:(1:Int)=s1 at hC
 cases hC with
 |c0 u=>
  subst est;exact stepC I hsp hP hf ht hM (C0 hk hu hs e) (by rw[et];exact CS.c1 (.inr rfl)) (by omega:10<11)
 |c1 u=>
  subst est;exact stepC I hsp hP hf ht hM (C1a hk hu hs e) (by rw[et];exact CS.c2 (.inr rfl)) (by omega:9<10)
 |c2 u=>
  subst est
  exact takeC I hsp hP hf et hM (d:=8) (tv:=fun a b c l=>tk_ 1 3 [(1,5)] a 0 _ b c l _) _ _ hn (fun h1 h2 h3=>C2a hk hu hs e h1 h2 h3) (fun h1 h2 h3 h4 h5=>C2b hk hu hs e h1 h2 h3 h4 h5) (fun h1 h2 h3 h4=>C2c hk hu hs e h1 h2 h3 h4) (fun h1 h2 h3=>C2d hk hu hs e h1 h2 h3) (fun h1 h2 h3 h4=>C2e hk hu hs e h1 h2 h3 h4)
   (fun _ _=>CS.c3 (.inr rfl)) (fun _ g=>CS.c3z (.inr rfl) g) (fun _=>CS.c2w rfl rfl)
 |c2w=>exact absurd est (by decide)
 |c3 u=>
  subst est;exact stepC I hsp hP hf ht hM (C3a hk hu hs e) (by rw[et];exact CS.c4 (.inr rfl)) (by omega:3<8)
 |c3z u g=>
  subst est;exact stepC I hsp hP hf ht hM (C3b hk hu hs e) (by rw[et];exact CS.c1b (.inr rfl) g) (by omega:7<8)
 |c4 u=>
  subst est;exact sayC I hsp hP hf ht hM (C4 hk hu hs e hr) (by rw[et];exact CS.c1c (.inr rfl)) (by omega:7<3+5)
 |c1b u g=>
  subst est;exact stepC I hsp hP hf ht hM (C1b hk hu hs e) (by rw[et];exact CS.c5z (.inr rfl) g) (by omega:6<7)
 |c1c u=>
  subst est;exact stepC I hsp hP hf ht hM (C1c hk hu hs e) (by rw[et];exact CS.c5 (.inr rfl)) (by omega:6<7)
 |c5 u=>
  subst est;exact stepC I hsp hP hf ht hM (C5 (f:=1) hk hu hs (by rw[e];rfl) (by omega)) (by rw[et];exact CS.c6 (.inr rfl)) (by omega:5<6)
 |c5z u g=>
  subst est;exact stepC I hsp hP hf ht hM (C5 (f:=0) hk hu hs (by rw[e];rfl) (by omega)) (by rw[et];exact CS.c6z (.inr rfl) g) (by omega:5<6)
 |c6 u=>
  subst est;exact stepC I hsp hP hf ht hM (C6a hk hu hs e) (by rw[et];exact CS.c7 (.inr rfl)) (by omega:4<5)
 |c6z u g=>
  subst est;exact stepC I hsp hP hf ht hM (C6b hk hu hs e) (by rw[et];exact CS.c11 (.inr rfl) g) (by omega:0<5)
 |c6y u=>
  subst est;exact stepC I hsp hP hf ht hM (C6ya hk hu hs e) (by rw[et];exact CS.c7 (.inr rfl)) (by omega:4<5)
 |c6xz u g=>
  subst est;exact stepC I hsp hP hf ht hM (C6xb hk hu hs e) (by rw[et];exact CS.c11 (.inr rfl) g) (by omega:0<1)
 |c7 u=>
  subst est
  exact takeC I hsp hP hf et hM (d:=3) (tv:=fun a b c l=>tk_ 1 8 [(6,11)] a 0 _ b c l _) _ _ hn (fun h1 h2 h3=>C7a hk hu hs e h1 h2 h3) (fun h1 h2 h3 h4 h5=>C7b hk hu hs e h1 h2 h3 h4 h5) (fun h1 h2 h3 h4=>C7c hk hu hs e h1 h2 h3 h4) (fun h1 h2 h3=>C7d hk hu hs e h1 h2 h3) (fun h1 h2 h3 h4=>C7e hk hu hs e h1 h2 h3 h4)
   (fun _ _=>CS.c8 (.inr rfl)) (fun _ g=>CS.c8z (.inr rfl) g) (fun _=>CS.c7w rfl rfl)
 |c7w=>exact absurd est (by decide)
 |c8 u=>
  subst est;exact stepC I hsp hP hf ht hM (C8 (f:=1) hk hu hs (by rw[e];rfl) (by omega)) (by rw[et];exact CS.c9 (.inr rfl)) (by omega:2<3)
 |c8z u g=>
  subst est;exact stepC I hsp hP hf ht hM (C8 (f:=0) hk hu hs (by rw[e];rfl) (by omega)) (by rw[et];exact CS.c9z (.inr rfl) g) (by omega:2<3)
 |c9 u=>
  subst est;exact stepC I hsp hP hf ht hM (C9a hk hu hs e) (by rw[et];exact CS.c10 (.inr rfl)) (by omega:1<2)
 |c9z u g=>
  subst est;exact stepC I hsp hP hf ht hM (C9b hk hu hs e) (by rw[et];exact CS.c6xz (.inr rfl) g) (by omega:1<2)
 |c10 u=>
  subst est;exact sayC I hsp hP hf ht hM (C10 hk hu hs e hr) (by rw[et];exact CS.c6y (.inr rfl)) (by omega:5<1+5)
 |c11 u g=>
  subst est;have I1:=I.tk;have I2:=I.rcs;have u6:unf 6=0:=rfl;have u1:unf 1=1:=rfl;simp only[List.length_nil] at hM;refine⟨_,.ret,sp,6,cP+5*(0+x.nums.length+x.senders.length+rest.length)+0+unf sp+unf 6,Cfin hu e hr,.inr ⟨rfl,by decide⟩,by omega,hsp,⟨rest,[],cP,0,hP,?_,?_,ht,rfl⟩,?_,?_,I.nd,I.r0,?_,I.r2⟩
  ·show CS _ _ _ _ x.takers 6
   rw[et];exact CS.cF g
  ·show says (x.rcs++[⟨3,0,1,0⟩])++[]++x.nums++x.senders.map (·.2)++rest=down n
   rw[←hf];simp[says]
  ·show x.tk+_≤4000
   omega
  ·show (x.rcs++[_]).length+_≤4000+0
   rw[List.length_append,List.length_singleton];omega
  ·show 1∈x.row↔(6:Int)=0
   exact⟨fun h=>absurd (I.r1.1 h) (by decide),fun h=>absurd h (by decide)⟩
 |cF=>exact absurd est (by decide)
end
end Beat
end
section
set_option linter.unusedSimpArgs false
set_option linter.unusedVariables false
namespace Beat
attribute [local simp] Go.Beat.int_beq Go.Beat.int_bne Go.Beat.ble_dec
attribute [-simp] w64_wrap
section
variable {n:Nat} {room:Int} {slice:Nat} {x:Pip} {sp sc:Int} {M:Nat}
theorem PS.state {t:ITask}{rest:List Int}{cP:Nat}{cl:Bool}{sd:List (Int×Int)}{s:Int}(h:PS n t rest cP cl sd s):t.state=s∧t.body=0:=by cases h<;>exact ⟨rfl,rfl⟩
theorem CS.state {e:Prop}{t:ITask}{hand:List Int}{d:Nat}{tk:List Nat}{s:Int}(h:CS e t hand d tk s):t.state=s∧t.body=1:=by cases h<;>exact ⟨rfl,rfl⟩
theorem PS.due {t:ITask}{rest:List Int}{cP:Nat}{cl:Bool}{sd:List (Int×Int)}{s:Int}(h:PS n t rest cP cl sd s):t.due= -1:=by cases h<;>rfl
theorem CS.due {e:Prop}{t:ITask}{hand:List Int}{d:Nat}{tk:List Nat}{s:Int}(h:CS e t hand d tk s):t.due= -1:=by cases h<;>rfl
theorem PS.lay {s:Int}{t:ITask}{rest:List Int}{cP:Nat}{cl:Bool}{sd:List (Int×Int)}(h:PS n t rest cP cl sd s)(e:s=1):PS n ((t.wState 0).wDue (-1)) rest cP cl sd 0:=by
 cases h with
 |p1 u=>exact .p1 (.inl rfl)
 |p2 hk u=>exact .p2 hk (.inl rfl)
 |p2x hk u=>exact .p2x hk (.inl rfl)
 |p3 hk u=>exact .p3 hk (.inl rfl)
 |p4 hk u=>exact .p4 hk (.inl rfl)
 |p4w=>exact absurd e (by decide)
 |p5 u=>exact .p5 (.inl rfl)
 |p6 u=>exact .p6 (.inl rfl)
 |pF=>exact absurd e (by decide)
theorem PS.run {s:Int}{t:ITask}{rest:List Int}{cP:Nat}{cl:Bool}{sd:List (Int×Int)}(h:PS n t rest cP cl sd s)(e:s=0):PS n (t.wState 1) rest cP cl sd 1:=by
 cases h with
 |p1 u=>exact .p1 (.inr rfl)
 |p2 hk u=>exact .p2 hk (.inr rfl)
 |p2x hk u=>exact .p2x hk (.inr rfl)
 |p3 hk u=>exact .p3 hk (.inr rfl)
 |p4 hk u=>exact .p4 hk (.inr rfl)
 |p4w=>exact absurd e (by decide)
 |p5 u=>exact .p5 (.inr rfl)
 |p6 u=>exact .p6 (.inr rfl)
 |pF=>exact absurd e (by decide)
theorem CS.lay {s:Int}{e:Prop}{t:ITask}{hand:List Int}{d:Nat}{tk:List Nat}(h:CS e t hand d tk s)(es:s=1):CS e ((t.wState 0).wDue (-1)) hand d tk 0:=by
 cases h with
 |c0 u=>exact .c0 (.inl rfl)
 |c1 u=>exact .c1 (.inl rfl)
 |c2 u=>exact .c2 (.inl rfl)
 |c2w=>exact absurd es (by decide)
 |c3 u=>exact .c3 (.inl rfl)
 |c3z u g=>exact .c3z (.inl rfl) g
 |c4 u=>exact .c4 (.inl rfl)
 |c1b u g=>exact .c1b (.inl rfl) g
 |c1c u=>exact .c1c (.inl rfl)
 |c5 u=>exact .c5 (.inl rfl)
 |c5z u g=>exact .c5z (.inl rfl) g
 |c6 u=>exact .c6 (.inl rfl)
 |c6z u g=>exact .c6z (.inl rfl) g
 |c6y u=>exact .c6y (.inl rfl)
 |c6xz u g=>exact .c6xz (.inl rfl) g
 |c7 u=>exact .c7 (.inl rfl)
 |c7w=>exact absurd es (by decide)
 |c8 u=>exact .c8 (.inl rfl)
 |c8z u g=>exact .c8z (.inl rfl) g
 |c9 u=>exact .c9 (.inl rfl)
 |c9z u g=>exact .c9z (.inl rfl) g
 |c10 u=>exact .c10 (.inl rfl)
 |c11 u g=>exact .c11 (.inl rfl) g
 |cF=>exact absurd es (by decide)
theorem CS.run {s:Int}{e:Prop}{t:ITask}{hand:List Int}{d:Nat}{tk:List Nat}(h:CS e t hand d tk s)(es:s=0):CS e (t.wState 1) hand d tk 1:=by
 cases h with
 |c0 u=>exact .c0 (.inr rfl)
 |c1 u=>exact .c1 (.inr rfl)
 |c2 u=>exact .c2 (.inr rfl)
 |c2w=>exact absurd es (by decide)
 |c3 u=>exact .c3 (.inr rfl)
 |c3z u g=>exact .c3z (.inr rfl) g
 |c4 u=>exact .c4 (.inr rfl)
 |c1b u g=>exact .c1b (.inr rfl) g
 |c1c u=>exact .c1c (.inr rfl)
 |c5 u=>exact .c5 (.inr rfl)
 |c5z u g=>exact .c5z (.inr rfl) g
 |c6 u=>exact .c6 (.inr rfl)
 |c6z u g=>exact .c6z (.inr rfl) g
 |c6y u=>exact .c6y (.inr rfl)
 |c6xz u g=>exact .c6xz (.inr rfl) g
 |c7 u=>exact .c7 (.inr rfl)
 |c7w=>exact absurd es (by decide)
 |c8 u=>exact .c8 (.inr rfl)
 |c8z u g=>exact .c8z (.inr rfl) g
 |c9 u=>exact .c9 (.inr rfl)
 |c9z u g=>exact .c9z (.inr rfl) g
 |c10 u=>exact .c10 (.inr rfl)
 |c11 u g=>exact .c11 (.inr rfl) g
 |cF=>exact absurd es (by decide)
theorem Inv.b1 {b:Nat}(I:Inv n x sp sc M b)(hb:b≤1):Inv n x sp sc M 1:=⟨I.ex,I.tk,Nat.le_trans I.rcs (by omega),I.nd,I.r0,I.r1,I.r2⟩
def After (n:Nat)(room:Int)(slice:Nat)(M:Nat)(o:Option (IM×RQ)):Prop:=∃x' q sp' sc' M',o=some (x'.m n room slice,q)∧q.isPan=false∧sp'≠1∧sc'≠1∧M'≤M∧Inv n x' sp' sc' M' 0
theorem turnP_ok (hn:n<200)(hs:slice<5000)(h0:0<slice):∀(F M:Nat) (sc:Int) (x:Pip) (b:Nat),M+2≤F→Inv n x 1 sc M b→sc≠1→b≤1→(0<x.us→b=0)→x.us≤slice→After n room slice (if x.us=slice then M else M - 1) (IM.roundsQ 0 (stepsP n) F (x.m n room slice))
 |0,_,_,_,_,h,_,_,_,_,_=>by omega
 |F+1,M,sc,x,b,h,I,hsc,hb,hb0,hu=>by
  obtain⟨rest,hand,cP,d,hP,hC,hf,ht,hM⟩:=I.ex
  by_cases hus:x.us=slice
  ·have hrw:x.row.length<1000000:=by have:=row_len I.nd I.r2;omega
   rw[if_pos hus,IM.roundsQ,show IM.roundQ 0 (stepsP n) (x.m n room slice)=_ from Pused hus hP.state.1 hrw];have b0:=hb0 (by omega);subst b0;refine⟨_,.ret,0,sc,M,rfl,rfl,by decide,hsc,Nat.le_refl _,⟨rest,hand,cP,d,hP.lay rfl,hC,hf,ht,hM⟩,I.tk,I.rcs,?_,?_,?_,?_⟩
   ·show (x.row++[0]).Nodup
    have h1:0∉x.row:=fun h=>absurd (I.r0.1 h) (by decide)
    rw[List.nodup_append];exact⟨I.nd,by simp,fun a ha b hb=>by rintro rfl;simp at hb;subst hb;exact h1 ha⟩
   ·show 0∈x.row++[0]↔_
    simp
   ·show 1∈x.row++[0]↔_
    simpa using I.r1
   ·intro i hi
    rcases List.mem_append.1 hi with h|h
    ·exact I.r2 i h
    ·simp at h;omega
  ·obtain⟨x',q,sp',sc',M',h1,h2,h3,h4,I'⟩:=roundP_ok (room:=room) hn (I.b1 hb) hsc (by omega) hs
   rw[if_neg hus,IM.roundsQ,show IM.roundQ 0 (stepsP n) (x.m n room slice)=_ from h1]
   rcases h2 with ⟨rfl,hu'⟩|⟨rfl,h5⟩
   ·by_cases hsp:sp'=1
    ·subst hsp
     obtain⟨x2,q2,sp2,sc2,M2,g1,g2,g3,g4,g5,g6⟩:=turnP_ok hn hs h0 F M' sc' x' 0 (by omega) I' h4 (by omega) (fun _=>rfl) (by omega);exact⟨x2,q2,sp2,sc2,M2,g1,g2,g3,g4,by split at g5<;>omega,g6⟩
    ·obtain⟨_,_,_,_,hP',_⟩:=I'.ex
     cases F with
     |zero=>omega
     |succ F=>
      show After n room slice (M - 1) (IM.roundsQ 0 (stepsP n) (F+1) (x'.m n room slice))
      rw[IM.roundsQ,show IM.roundQ 0 (stepsP n) (x'.m n room slice)=_ from Pout (by rw[hP'.state.1];exact hsp)];exact⟨x',.out,sp',sc',M',rfl,rfl,hsp,h4,by omega,I'⟩
   ·exact⟨x',.ret,sp',sc',M',rfl,rfl,h5,h4,by omega,I'⟩
theorem turnC_ok (hn:n<200)(hs:slice<5000)(h0:0<slice):∀(F M:Nat) (sp:Int) (x:Pip) (b:Nat),M+2≤F→Inv n x sp 1 M b→sp≠1→b≤1→(0<x.us→b=0)→x.us≤slice→After n room slice (if x.us=slice then M else M - 1) (IM.roundsQ 1 stepsC F (x.m n room slice))
 |0,_,_,_,_,h,_,_,_,_,_=>by omega
 |F+1,M,sp,x,b,h,I,hsp,hb,hb0,hu=>by
  obtain⟨rest,hand,cP,d,hP,hC,hf,ht,hM⟩:=I.ex
  by_cases hus:x.us=slice
  ·have hrw:x.row.length<1000000:=by have:=row_len I.nd I.r2;omega
   rw[if_pos hus,IM.roundsQ,show IM.roundQ 1 stepsC (x.m n room slice)=_ from Cused hus hC.state.1 hrw];have b0:=hb0 (by omega);subst b0;refine⟨_,.ret,sp,0,M,rfl,rfl,hsp,by decide,Nat.le_refl _,⟨rest,hand,cP,d,hP,hC.lay rfl,hf,ht,hM⟩,I.tk,I.rcs,?_,?_,?_,?_⟩
   ·show (x.row++[1]).Nodup
    have h1:1∉x.row:=fun h=>absurd (I.r1.1 h) (by decide)
    rw[List.nodup_append];exact⟨I.nd,by simp,fun a ha b hb=>by rintro rfl;simp at hb;subst hb;exact h1 ha⟩
   ·show 0∈x.row++[1]↔_
    simpa using I.r0
   ·show 1∈x.row++[1]↔_
    simp
   ·intro i hi
    rcases List.mem_append.1 hi with h|h
    ·exact I.r2 i h
    ·simp at h;omega
  ·obtain⟨x',q,sp',sc',M',h1,h2,h3,h4,I'⟩:=roundC_ok (room:=room) hn (I.b1 hb) hsp (by omega) hs
   rw[if_neg hus,IM.roundsQ,show IM.roundQ 1 stepsC (x.m n room slice)=_ from h1]
   rcases h2 with ⟨rfl,hu'⟩|⟨rfl,h5⟩
   ·by_cases hsc:sc'=1
    ·subst hsc
     obtain⟨x2,q2,sp2,sc2,M2,g1,g2,g3,g4,g5,g6⟩:=turnC_ok hn hs h0 F M' sp' x' 0 (by omega) I' h4 (by omega) (fun _=>rfl) (by omega);exact⟨x2,q2,sp2,sc2,M2,g1,g2,g3,g4,by split at g5<;>omega,g6⟩
    ·obtain⟨_,_,_,_,_,hC',_⟩:=I'.ex
     cases F with
     |zero=>omega
     |succ F=>
      show After n room slice (M - 1) (IM.roundsQ 1 stepsC (F+1) (x'.m n room slice))
      rw[IM.roundsQ,show IM.roundQ 1 stepsC (x'.m n room slice)=_ from Cout (by rw[hC'.state.1];exact hsc)];exact⟨x',.out,sp',sc',M',rfl,rfl,h4,hsc,by omega,I'⟩
   ·exact⟨x',.ret,sp',sc',M',rfl,rfl,h4,h5,by omega,I'⟩
end
end Beat
end
section
set_option linter.unusedSimpArgs false
set_option linter.unusedVariables false
namespace Beat
attribute [local simp] Go.Beat.int_beq Go.Beat.int_bne Go.Beat.ble_dec
attribute [-simp] w64_wrap
open Go.Beat
section
variable {n:Nat} {room:Int} {slice:Nat} {x:Pip} {sp sc:Int} {M:Nat}
theorem PS.up {t:ITask}{rest:List Int}{cP:Nat}{cl:Bool}{sd:List (Int×Int)}{s:Int}(h:PS n t rest cP cl sd s):s=0∨s=1∨(s=4∧sd≠[]∧cl=false)∨(s=6∧rest=[]∧sd=[]∧cl=true):=by
 cases h with
 |p4w=>exact .inr (.inr (.inl ⟨rfl,by simp,rfl⟩))
 |pF=>exact .inr (.inr (.inr ⟨rfl,rfl,rfl,rfl⟩))
 |p1 u|p2 _ u|p2x _ u|p3 _ u|p4 _ u|p5 u|p6 u=>exact u.elim .inl fun h=>.inr (.inl h)
theorem CS.up {e:Prop}{t:ITask}{hand:List Int}{d:Nat}{tk:List Nat}{s:Int}(h:CS e t hand d tk s):s=0∨s=1∨(s=5∧tk≠[])∨(s=6∧hand=[]∧e):=by
 cases h with
 |c2w|c7w=>exact .inr (.inr (.inl ⟨rfl,by simp⟩))
 |cF g=>exact .inr (.inr (.inr ⟨rfl,rfl,g⟩))
 |c0 u|c1 u|c2 u|c3 u|c3z u _|c4 u|c1b u _|c1c u|c5 u|c5z u _|c6 u|c6z u _|c6y u|c6xz u _|c7 u|c8 u|c8z u _|c9 u|c9z u _|c10 u|c11 u _=>exact u.elim .inl fun h=>.inr (.inl h)
theorem Inv.done (I:Inv n x sp sc M 0)(hsp:sp≠1)(hsc:sc≠1)(hr:x.row=[]):x.P.state=6∧x.C.state=6∧says x.rcs=down n∧x.P.due= -1∧x.C.due= -1:=by
 obtain⟨rest,hand,cP,d,hP,hC,hf,ht,hM⟩:=I.ex
 have h0:sp≠0:=fun h=>by have:=I.r0.2 h;rw[hr] at this;cases this
 have h1:sc≠0:=fun h=>by have:=I.r1.2 h;rw[hr] at this;cases this
 have dP:x.P.due= -1:=hP.due;have dC:x.C.due= -1:=hC.due
 rcases hP.up with h|h|⟨rfl,hsd,hcl⟩|⟨rfl,rfl,hsd,hcl⟩
 ·exact absurd h h0
 ·exact absurd h hsp
 ·rcases hC.up with h|h|⟨rfl,htk⟩|⟨rfl,rfl,g⟩
  ·exact absurd h h1
  ·exact absurd h hsc
  ·exact absurd (ht htk).2.1 hsd
  ·rw[hcl] at g;exact absurd g.1 (by decide)
 ·rcases hC.up with h|h|⟨rfl,htk⟩|⟨rfl,rfl,g⟩
  ·exact absurd h h1
  ·exact absurd h hsc
  ·have:=(ht htk).2.2
   rw[hcl] at this
   cases this
  ·refine⟨hP.state.1,hC.state.1,?_,dP,dC⟩
   rw[←hf,g.2,hsd]
   simp
theorem pass_end (F:Nat)(h:x.P.state=6∧x.C.state=6∧x.P.due= -1∧x.C.due= -1):IM.passQ F (x.m n room slice)=some (x.m n room slice,.pan 0):=by
 obtain⟨h1,h2,h3,h4⟩:=h;unfold IM.passQ;simp[Pip.m,chanNo,guardO,minDue,h3,h4,IM.anyW,h1,h2,waiting]
theorem main_ok (hn:n<200)(hs:slice<5000)(h0:0<slice)(F:Nat)(hF:5000≤F):∀(g M:Nat) (sp sc:Int) (x:Pip),M+1≤g→Inv n x sp sc M 0→sp≠1→sc≠1→∃x':Pip,IM.mainQ F g (x.m n room slice)=some (x'.m n room slice,0)∧x'.P.state=6∧x'.C.state=6∧says x'.rcs=down n∧x'.rcs.length≤4000
 |0,_,_,_,_,h,_,_,_=>by omega
 |g+1,M,sp,sc,x,h,I,hsp,hsc=>by
  have I1:=I.tk;have I2:=I.rcs;have hrl:=row_len I.nd I.r2
  cases hr:x.row with
  |nil=>
   obtain⟨h1,h2,h3,h4,h5⟩:=I.done hsp hsc hr;refine⟨x,?_,h1,h2,h3,by omega⟩;rw[IM.mainQ,show (x.m n room slice).row=[] from hr,pass_end F ⟨h1,h2,h4,h5⟩];rfl
  |cons i r=>
   have hrow:(x.m n room slice).row=i::r:=hr;obtain⟨rest,hand,cP,d,hP,hC,hf,ht,hM⟩:=I.ex;have hnd:=I.nd;rw[hr] at hnd;have hi:=I.r2 i (by rw[hr];simp)
   have hl:r.length<1000000:=by rw[hr] at hrl;simp at hrl;omega
   have hrc:x.rcs.length<1000000:=by omega
   rw[IM.mainQ,hrow];simp only[hl,if_true]
   have fin:∀{o:Option (IM×RQ)},After n room slice (M - 1) o→1≤M→∃x':Pip,(match o with|none=>none|some q=>bif q.2.isPan then some (q.1,q.2.num) else IM.mainQ F g q.1)=some (Pip.m n room slice x',(0:Int))∧x'.P.state=6∧x'.C.state=6∧says x'.rcs=down n∧x'.rcs.length≤4000:=by
    intro o ho hM1;obtain⟨x',q,sp',sc',M',rfl,hq,h1,h2,h3,I'⟩:=ho;simp only[hq,cond_false];exact main_ok hn hs h0 F hF g M' sp' sc' x' (by omega) I' h1 h2
   have hus:¬(0:Nat)=slice:=by omega
   have r0:=I.r0;have r1:=I.r1;rw[hr] at r0 r1
   have hi2:i=0∨i=1:=by omega
   rcases hi2 with rfl|rfl
   ·have h4:sp=0:=r0.1 (by simp)
    subst h4;have u0:unf 0=1:=rfl;have u1:unf 1=1:=rfl;have e:(x.m n room slice).wRow r=({x with row:=r}:Pip).m n room slice:=rfl;rw[e,Pturn F (x:={x with row:=r}) hP.state.2 hrc]
    refine fin ?_ (by omega)
    have:=turnP_ok (room:=room) hn hs h0 F M sc {x with row:=r,P:=x.P.wState 1,rcs:=x.rcs++[⟨1,0,0,0⟩],us:=0} 1 (by omega) ⟨⟨rest,hand,cP,d,hP.run rfl,hC,?_,ht,by rw[u0,←u1] at hM;exact hM⟩,I1,?_,(List.nodup_cons.1 hnd).2,?_,?_,fun i hi=>I.r2 i (by rw[hr];exact List.mem_cons_of_mem _ hi)⟩ hsc (Nat.le_refl _) (fun h=>absurd h (Nat.lt_irrefl 0)) (Nat.zero_le _)
    ·rw[if_neg hus] at this
     exact this
    ·show says (x.rcs++[⟨1,0,0,0⟩])++hand++x.nums++x.senders.map (·.2)++rest=down n
     rw[←hf];simp[says]
    ·show (x.rcs++[_]).length+_≤4000+1
     rw[List.length_append,List.length_singleton];omega
    ·show 0∈r↔(1:Int)=0
     exact⟨fun h=>absurd h (List.nodup_cons.1 hnd).1,fun h=>absurd h (by decide)⟩
    ·show 1∈r↔sc=0
     rw[←r1]
     simp
   ·have h4:sc=0:=r1.1 (by simp)
    subst h4;have u0:unf 0=1:=rfl;have u1:unf 1=1:=rfl;have e:(x.m n room slice).wRow r=({x with row:=r}:Pip).m n room slice:=rfl;rw[e,Cturn F (x:={x with row:=r}) hC.state.2 hrc]
    refine fin ?_ (by omega)
    have:=turnC_ok (room:=room) hn hs h0 F M sp {x with row:=r,C:=x.C.wState 1,rcs:=x.rcs++[⟨1,0,1,0⟩],us:=0} 1 (by omega) ⟨⟨rest,hand,cP,d,hP,hC.run rfl,?_,ht,by rw[u0,←u1] at hM;exact hM⟩,I1,?_,(List.nodup_cons.1 hnd).2,?_,?_,fun i hi=>I.r2 i (by rw[hr];exact List.mem_cons_of_mem _ hi)⟩ hsp (Nat.le_refl _) (fun h=>absurd h (Nat.lt_irrefl 0)) (Nat.zero_le _)
    ·rw[if_neg hus] at this
     exact this
    ·show says (x.rcs++[⟨1,0,1,0⟩])++hand++x.nums++x.senders.map (·.2)++rest=down n
     rw[←hf];simp[says]
    ·show (x.rcs++[_]).length+_≤4000+1
     rw[List.length_append,List.length_singleton];omega
    ·show 0∈r↔sp=0
     rw[←r0]
     simp
    ·show 1∈r↔(1:Int)=0
     exact⟨fun h=>absurd h (List.nodup_cons.1 hnd).1,fun h=>absurd h (by decide)⟩
end
end Beat
end
section
set_option linter.unusedSimpArgs false
set_option linter.unusedVariables false
namespace Beat
attribute [local simp] Go.Beat.int_beq Go.Beat.int_bne Go.Beat.ble_dec
attribute [-simp] w64_wrap
open Go.Beat
def pipePlan (n room:Int)(slice:Nat):Plan:=⟨[stepsP n,stepsC],[room],slice⟩
def pipe0:Pip:={rcs:=[⟨1,0,0,0⟩],tk:=1,us:=1,row:=[1],P:=tk_ 0 1 [] 1 0 0 0 1 [] ⟨0,7,0,1,0⟩,C:=tk_ 1 0 [] 0 0 0 0 0 [] ⟨0,0,0,0,0⟩,nums:=[],senders:=[],takers:=[],closed:=false,arg:=[]}
section
variable {n:Nat} {room:Int} {slice:Nat}
def pipeS (n room:Int)(slice:Nat):IM:={p:=pipePlan n room slice,inp:=⟨[],5000,10⟩,recs:=[⟨1,0,0,0⟩],tasks:=[{body:=0,state:=1}],chans:=[{room:=room}],fed:=some 0}
theorem first_round (h0:0<slice):IM.roundQ 0 (stepsP n) (pipeS n room slice)=some (pipe0.m n room slice,.go):=by
 have h1:¬(0:Int)=(slice:Int):=by omega
 unfold IM.roundQ;simp[pipeS,pipePlan,h1,IM.popT,popQ,IM.setT,ITask.wBlocks,ITask.wPc,chanNo,IM.step,IM.wTicks,IM.wUsed,IM.wAsks,ITask.wA,ITask.wOp,ITask.wAsked,IM.act,IM.spawn,push,lim,IM.wTasks,IM.wRow,ITask.setR,ITask.wRegs,w64_num,pipe0,Pip.m,tk_]
theorem pipe0_inv (hn:n≤100):Inv n pipe0 1 0 (8*n+16) 0:=by
 refine⟨⟨down n,[],3*n+3,11,.p1 (.inr rfl),.c0 (.inl rfl),by simp[pipe0,says],fun h=>absurd rfl h,?_⟩,?_,?_,by simp[pipe0],by simp[pipe0],by simp[pipe0],by simp[pipe0]⟩
 ·have u0:unf 0=1:=rfl
  have u1:unf 1=1:=rfl;simp only[pipe0,List.length_nil,down_len,u0,u1];omega
 ·simp only[pipe0]
  omega
 ·simp only[pipe0,List.length_singleton]
  omega
theorem start_turn (F:Nat):∀m1,((mNew (pipePlan n room slice) ⟨[],5000,10⟩ none).wChansL ((pipePlan n room slice).rooms.map fun r=>{room:=r})).spawn 0=some m1→(m1.wFed (some 0)).row=[0]∧IM.turnQ F ((m1.wFed (some 0)).wRow []) 0=IM.roundsQ 0 (stepsP n) F (pipeS n room slice):=by
 intro m1 h;simp[IM.spawn,mNew,pipePlan,IM.wChansL,push,lim,IM.wTasks,IM.wRow] at h;subst h;refine⟨rfl,?_⟩;unfold IM.turnQ;simp[IM.wFed,IM.wRow,IM.setT,IM.note,IM.wRecs,push,lim,ITask.wState,IM.wUsed,chanNo,pipeS,pipePlan]
theorem pipe_valid (hr0:0≤room)(hr1:room≤10)(h0:0<slice)(h1:slice≤100):planOkI (pipePlan n room slice)=⟨0,0,0⟩:=by
 have e1:¬((slice:Int)<1):=by omega
 have e2:¬((slice:Int)>100):=by omega
 have e3:roomsOkI [room]=true:=by
  simp[roomsOkI];omega
 have e4:longI (pipePlan n room slice).bodies 0=none:=by rfl
 have e5:badI (pipePlan n room slice) (pipePlan n room slice).bodies 0=none:=by rfl
 have e6:nestI (pipePlan n room slice).bodies 0=none:=by rfl
 unfold planOkI;rw[e4,e5,e6];simp only[pipePlan,List.length_cons,List.length_nil,e1,e2,e3];rfl
theorem pipe_all (hn:n≤100)(hr0:0≤room)(hr1:room≤10)(h0:0<slice)(h1:slice≤100):∃m,IM.playQ 5001 5001 (pipePlan n room slice) ⟨[],5000,10⟩=some m∧m.code=0∧says m.recs=down n∧m.states=[6,6]∧m.time=0∧m.recs.length≤4000:=by
 unfold IM.playQ;rw[if_pos ⟨pipe_valid hr0 hr1 h0 h1,by rfl⟩]
 cases hm:((mNew (pipePlan n room slice) ⟨[],5000,10⟩ none).wChansL ((pipePlan n room slice).rooms.map fun r=>{room:=r})).spawn 0 with
 |none=>simp[IM.spawn,mNew,pipePlan,IM.wChansL,push,lim,IM.wTasks,IM.wRow] at hm
 |some m1=>
  obtain⟨g1,g2⟩:=start_turn (room:=room) 5001 m1 hm
  have ha:After n room slice (8*n+16) (IM.roundsQ 0 (stepsP n) 5000 (pipe0.m n room slice)):=by
   have:=turnP_ok (room:=room) (n:=n) (by omega) (by omega:slice<5000) h0 5000 (8*n+16) 0 pipe0 0 (by omega) (pipe0_inv hn) (by decide) (by decide) (fun _=>rfl) h0;obtain⟨x',q,sp',sc',M',a1,a2,a3,a4,a5,a6⟩:=this;exact⟨x',q,sp',sc',M',a1,a2,a3,a4,by split at a5<;>omega,a6⟩
  obtain⟨x',q,sp',sc',M',a1,a2,a3,a4,a5,a6⟩:=ha;obtain⟨x2,b1,b2,b3,b4,b5⟩:=main_ok (room:=room) (by omega:n<200) (by omega:slice<5000) h0 5001 (by omega) 5000 M' sp' sc' x' (by omega) a6 a3 a4
  have e:IM.mainQ 5001 5001 (m1.wFed (some 0))=some (x2.m n room slice,0):=by
   rw[IM.mainQ,g1];simp only[List.length_nil,Nat.zero_lt_succ,if_true];rw[g2,IM.roundsQ,first_round h0];simp only[];rw[a1];simp only[a2,cond_false];exact b1
  simp only[e];rw[if_pos ⟨of_decide_eq_true rfl,of_decide_eq_true rfl⟩];refine⟨_,rfl,rfl,b4,?_,rfl,b5⟩
  show []++[x2.P,x2.C].map (·.state)=[6,6]
  simp[b2,b3]
end
end Beat
end
