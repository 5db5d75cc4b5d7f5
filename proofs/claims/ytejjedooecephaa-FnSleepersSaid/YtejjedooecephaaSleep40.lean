/-
  Texts joined by a program (shake.py), without what the claim does not use; printed walks among them (print.sh), and own ones.
-/
import Derived.Test.YtejjedooecephaaSleep37
section
set_option linter.unusedSimpArgs false
namespace Beat
structure Jk where
 a:Int
 op:Int
 num:Int
 asked:Int
 target:Int
def tk_ (body pc:Int)(bl:List (Int×Int))(r0 r1 r2 r3:Int)(st:Int)(cs:List Nat)(j:Jk):ITask:=⟨body,pc,bl,[r0,r1,r2,r3],st,j.a,j.op,j.num, -1,j.asked,j.target,cs,0,0⟩
structure Pip where
  rcs:List Rec
  tk:Nat
  us:Nat
  row:List Nat
  P:ITask
  C:ITask
  nums:List Int
  senders:List (Int×Int)
  takers:List Nat
  closed:Bool
  arg:List Nat
theorem w64_nat {k:Nat}(h:k<5000):w64 ((k:Int)+1)=((k+1:Nat):Int):=by
 unfold w64;rw[Go.IntKind.wrap_i64];omega
attribute [local simp] Go.Beat.int_beq Go.Beat.int_bne Go.Beat.ble_dec
attribute [-simp] w64_wrap
section
variable {n room:Int} {slice:Nat} {x:Pip} {j:Jk} {r0 r1 r2 r3:Int}
theorem round_go {m m2:IM}{i:Nat}{steps:List Step}{t:ITask}{bs:List (Int×Int)}{pc:Nat}{q:Bool}{s:Step}(ht:m.tasks[i]?=some t)(hs:t.state=1)(hu:m.used≠m.p.slice)(hp:popQ steps t.blocks t.pc=some (bs,(pc:Int),q))(hb:t.blocks.length<1000000∧steps.length<1000000)(hpc:steps[pc]?=some s)(hk:m.ticks≠m.inp.ticks)(h:IM.step (((m.setT i ((t.wBlocks bs).wPc pc)).wTicks (w64 (m.ticks+1))).wUsed (w64 (m.used+1))) i s=some m2):IM.roundQ i steps m=some (m2,.go):=by
 have hi:=(List.getElem?_eq_some_iff.1 ht).1
 have hn:(pc:Int)≠(steps.length:Int):=by
  have:=(List.getElem?_eq_some_iff.1 hpc).1;omega
 unfold IM.roundQ;simp only[ht,bind,Option.bind_some,hs,ne_eq,not_true_eq_false,if_false,hu];unfold IM.popT;simp only[ht,bind,Option.bind_some,hp,hb,and_self,if_true]
 have e1:(m.setT i ((t.wBlocks bs).wPc pc)).tasks[i]?=some ((t.wBlocks bs).wPc pc):=by simp[IM.setT,hi]
 have e2:(m.setT i ((t.wBlocks bs).wPc pc)).ticks=m.ticks:=rfl;have e3:(m.setT i ((t.wBlocks bs).wPc pc)).inp=m.inp:=rfl;have e4:(m.setT i ((t.wBlocks bs).wPc pc)).used=m.used:=rfl;have e5:((t.wBlocks bs).wPc pc).pc=pc:=rfl;simp only[e1,Option.bind_some,e5,hn,if_false,e2,e3,hk,e4]
 have e6:chanNo (pc:Int)=some pc:=by simp[chanNo]
 simp only[e6,Option.bind_some,hpc,h]
def Jk.nx (j:Jk)(a op:Int)(k:Nat):Jk:=⟨a,op,j.num,((k+1:Nat):Int),j.target⟩
theorem w64_num:w64 1=1∧w64 2=2∧w64 3=3∧w64 4=4∧w64 5=5∧w64 6=6∧w64 7=7∧w64 8=8∧w64 9=9∧w64 10=10∧w64 11=11∧w64 0=0:=by decide
variable {k f:Nat}
end
end Beat
end
section
set_option linter.unusedSimpArgs false
set_option linter.unusedVariables false
namespace Beat
attribute [local simp] Go.Beat.int_beq Go.Beat.int_bne Go.Beat.ble_dec
attribute [-simp] w64_wrap
open Go.Beat
def slS0 (n:Nat):List Step:=(List.range n).map fun (i:Nat)=>⟨7,0,(i:Int)+1,0,0⟩
def slSI (i t:Nat):List Step:=[⟨1,0,0,t,0⟩,⟨5,0,0,0,0⟩,⟨1,1,0,i,0⟩,⟨3,1,0,0,0⟩]
def slPlan (ts:List Nat):Plan:=⟨slS0 ts.length::ts.zipIdx.map fun q=>slSI q.2 q.1,[],100⟩
structure Slp where
  rcs:List Rec
  tk:Nat
  us:Nat
  row:List Nat
  tasks:List ITask
  now:Nat
def Slp.m (ts:List Nat)(x:Slp):IM:={p:=slPlan ts,inp:=⟨[],1000,100⟩,recs:=x.rcs,ticks:=x.tk,row:=x.row,tasks:=x.tasks,asks:=x.tk,now:=x.now,used:=x.us,fed:=some 0}
def frs (i:Nat):ITask:={body:=(i:Int)+1}
def slp (i t k:Nat):ITask:=⟨(i:Int)+1,2,[],[t,0,0,0],2,0,5,0,t,k,0,[],0,0⟩
section
variable {ts:List Nat} {x:Slp} {j:Jk} {F g:Nat}
theorem sl_body {i t:Nat}(h:ts[i]?=some t):(slPlan ts).bodies[i+1]?=some (slSI i t):=by
 simp[slPlan,h]
theorem main_turn {m m':IM}{i:Nat}{r:List Nat}{q:RQ}(hr:m.row=i::r)(hl:r.length<1000000)(ht:IM.turnQ F (m.wRow r) i=some (m',q))(hq:q.isPan=false):IM.mainQ F (g+1) m=IM.mainQ F g m':=by
 rw[IM.mainQ,hr];simp only[hl,if_true,ht,hq,cond_false]
theorem main_pass {m m':IM}{q:RQ}(hr:m.row=[])(ht:IM.passQ F m=some (m',q))(hq:q.isPan=false):IM.mainQ F (g+1) m=IM.mainQ F g m':=by
 rw[IM.mainQ,hr];simp only[ht,hq,cond_false]
theorem upd_nil (i:Nat):updW (fun _=>[]) i []=fun _=>[]:=by
 funext k
 unfold updW
 split<;>rfl
theorem sl_spawn {k:Nat}{r:Int}{rest:List ITask}(hn:ts.length<20)(hk:k<ts.length)(hx:x.tasks=tk_ 0 k [] r 0 0 0 1 [] j::rest)(hl:rest.length<40)(hu:x.us<100)(ht:x.tk<1000)(hr:x.row.length<1000):
  IM.roundQ 0 (slS0 ts.length) (x.m ts)=some (({x with tk:=x.tk+1,us:=x.us+1,row:=x.row++[rest.length+1],tasks:=tk_ 0 (k+1:Nat) [] (rest.length+1:Nat) 0 0 0 1 [] (j.nx 0 7 x.tk)::(rest++[frs k])}:Slp).m ts,.go):=by
 refine round_go (t:=tk_ 0 k [] r 0 0 0 1 [] j) (pc:=k) (bs:=[]) (q:=false) (s:=⟨7,0,(k:Int)+1,0,0⟩) (by show x.tasks[0]?=_;rw[hx];rfl) rfl ?_ rfl ⟨of_decide_eq_true rfl,by simp[slS0];omega⟩ (by simp[slS0,hk]) ?_ ?_
 ·show (x.us:Int)≠100
  omega
 ·show (x.tk:Int)≠1000
  omega
 ·show IM.step ((((x.m ts).setT 0 _).wTicks (w64 ((x.tk:Int)+1))).wUsed (w64 ((x.us:Int)+1))) 0 _=_
  have h1:¬rest.length+1=50:=by omega
  have h2:rest.length+1<1000000:=by omega
  have h3:x.row.length<1000000:=by omega
  have h4:w64 ((k:Int)+1)=((k+1:Nat):Int):=w64_nat (by omega);have h6:w64 ((rest.length:Int)+1)=((rest.length+1:Nat):Int):=w64_nat (by omega)
  have h5:w64 ((rest.length:Int)+1+1 - 1)=((rest.length+1:Nat):Int):=by
   rw[show (rest.length:Int)+1+1 - 1=(rest.length:Int)+1 from by omega];exact w64_nat (by omega)
  rw[w64_nat (by omega:x.tk<5000),w64_nat (by omega:x.us<5000)];simp[IM.step,IM.setT,Slp.m,hx,IM.wTicks,IM.wUsed,tk_,ITask.wBlocks,ITask.wPc,ITask.wA,ITask.wOp,ITask.wAsked,IM.wAsks,IM.act,IM.spawn,push,lim,IM.wTasks,IM.wRow,ITask.setR,ITask.wRegs,w64_nat (by omega:x.tk<5000),Jk.nx,h1,h2,h3,h4,h5,h6,frs]
theorem sl_fin {k:Nat}{r:Int}{rest:List ITask}(hk:k=ts.length)(hx:x.tasks=tk_ 0 k [] r 0 0 0 1 [] j::rest)(hn:k<40)(hu:x.us<100)(hr:x.rcs.length<1000):
  IM.roundQ 0 (slS0 ts.length) (x.m ts)=some (({x with tasks:=tk_ 0 k [] r 0 0 0 6 [] j::rest,rcs:=x.rcs++[⟨3,x.now,0,0⟩]}:Slp).m ts,.ret):=by
 have hu':¬(x.us:Int)=100:=by omega
 have hr':x.rcs.length<1000000:=by omega
 have hn':ts.length<1000000:=by omega
 unfold IM.roundQ;simp[Slp.m,slPlan,hx,tk_,hu',IM.popT,popQ,IM.setT,ITask.wBlocks,ITask.wPc,IM.note,IM.wRecs,push,lim,hr',IM.finish,IM.finishLoop,ITask.wState,IM.wWait,guardO,upd_nil,slS0,hk,hn']
theorem sl_round {i:Nat}{steps:List Step}{t:ITask}{pc:Nat}{s:Step}{tasks:List ITask}{rcs:List Rec}(ht:x.tasks[i]?=some t)(hs:t.state=1)(hb:t.blocks=[])(hp:t.pc=pc)(hl:steps.length<10)(hpc:steps[pc]?=some s)(hu:x.us<100)(hk:x.tk<1000)(h:IM.step ((((x.m ts).setT i ((t.wBlocks []).wPc pc)).wTicks ((x.tk+1:Nat):Int)).wUsed ((x.us+1:Nat):Int)) i s=some (({x with tk:=x.tk+1,us:=x.us+1,tasks:=tasks,rcs:=rcs}:Slp).m ts)):IM.roundQ i steps (x.m ts)=some (({x with tk:=x.tk+1,us:=x.us+1,tasks:=tasks,rcs:=rcs}:Slp).m ts,.go):=by
 refine round_go (t:=t) (pc:=pc) (bs:=[]) (q:=false) (s:=s) ht hs ?_ (by rw[hb,hp];rfl) ⟨by rw[hb];exact of_decide_eq_true rfl,by omega⟩ hpc ?_ ?_
 ·show (x.us:Int)≠100
  omega
 ·show (x.tk:Int)≠1000
  omega
 ·show IM.step ((((x.m ts).setT i _).wTicks (w64 ((x.tk:Int)+1))).wUsed (w64 ((x.us:Int)+1))) i _=_
  rw[w64_nat (by omega:x.tk<5000),w64_nat (by omega:x.us<5000)];exact h
theorem sl_turn1 {i t:Nat}(hi:ts[i]?=some t)(ht:t<10)(hx:x.tasks[i+1]?=some (frs i))(hk:x.tk<900)(hr:x.rcs.length<1000)(hnow:x.now<10):
  IM.turnQ (F+3) (x.m ts) (i+1)=some (({x with rcs:=x.rcs++[⟨1,x.now,(i:Int)+1,0⟩],tk:=x.tk+2,us:=2,tasks:=x.tasks.set (i+1) ⟨(i:Int)+1,2,[],[t,0,0,0],2,0,5,0,((x.now+t:Nat):Int),((x.tk+2:Nat):Int),0,[],0,0⟩}:Slp).m ts,.out):=by
 obtain⟨hlt,hg⟩:=List.getElem?_eq_some_iff.1 hx
 have hr':x.rcs.length<1000000:=by omega
 have hb:=sl_body hi
 have hw:w64 ((x.now:Int)+t)=((x.now+t:Nat):Int):=by
  unfold w64;rw[Go.IntKind.wrap_i64];omega
 have t1:¬((t:Int)<0∨1000000<(t:Int)):=by omega
 have hq:w64 ((x.tk:Int)+1+1)=(x.tk:Int)+1+1:=w64_nat (k:=x.tk+1) (by omega)
 have c1:chanNo ((i:Int)+1)=some (i+1):=by
  unfold chanNo;rw[if_pos (by omega)];rfl
 have e:IM.turnQ (F+3) (x.m ts) (i+1)=IM.roundsQ (i+1) (slSI i t) (F+3) (({x with rcs:=x.rcs++[⟨1,x.now,(i:Int)+1,0⟩],us:=0,tasks:=x.tasks.set (i+1) ((frs i).wState 1)}:Slp).m ts):=by
  unfold IM.turnQ;simp[Slp.m,hx,hlt,hg,IM.setT,IM.note,IM.wRecs,push,lim,hr',ITask.wState,IM.wUsed,c1,frs,hb,slSI]
 rw[e,IM.roundsQ,sl_round (t:=(frs i).wState 1) (pc:=0) (s:=⟨1,0,0,t,0⟩) (tasks:=x.tasks.set (i+1) ⟨(i:Int)+1,1,[],[t,0,0,0],1,0,1,0, -1,((x.tk+1:Nat):Int),0,[],0,0⟩) (rcs:=x.rcs++[⟨1,x.now,(i:Int)+1,0⟩]) (by simp[hlt]) rfl rfl rfl (by simp[slSI]) rfl (by show _<100;simp) (by show x.tk<1000;omega) (by
  simp[IM.step,IM.setT,Slp.m,hlt,IM.wTicks,IM.wUsed,frs,ITask.wBlocks,ITask.wPc,ITask.wA,ITask.wOp,ITask.wAsked,IM.wAsks,IM.act,ITask.setR,ITask.wRegs,ITask.wState,w64_nat (by omega:x.tk<5000),w64_num])]
 simp only[]
 rw[IM.roundsQ,sl_round (t:=⟨(i:Int)+1,1,[],[t,0,0,0],1,0,1,0, -1,((x.tk+1:Nat):Int),0,[],0,0⟩) (pc:=1) (s:=⟨5,0,0,0,0⟩) (tasks:=x.tasks.set (i+1) ⟨(i:Int)+1,2,[],[t,0,0,0],2,0,5,0,((x.now+t:Nat):Int),((x.tk+1+1:Nat):Int),0,[],0,0⟩) (rcs:=x.rcs++[⟨1,x.now,(i:Int)+1,0⟩]) (by simp[hlt]) rfl rfl rfl (by simp[slSI]) rfl (by show _<100;simp) (by show x.tk+1<1000;omega) (by
  simp[IM.step,IM.setT,Slp.m,hlt,IM.wTicks,IM.wUsed,ITask.wBlocks,ITask.wPc,ITask.wA,ITask.wOp,ITask.wAsked,IM.wAsks,IM.act,ITask.getR,ITask.wDue,ITask.wState,w64_nat (by omega:x.tk+1<5000),w64_num,hw,t1,hq])]
 simp only[];rw[IM.roundsQ]
 have o:IM.roundQ (i+1) (slSI i t) (({x with rcs:=x.rcs++[⟨1,x.now,(i:Int)+1,0⟩],tk:=x.tk+1+1,us:=0+1+1,tasks:=x.tasks.set (i+1) ⟨(i:Int)+1,2,[],[t,0,0,0],2,0,5,0,((x.now+t:Nat):Int),((x.tk+1+1:Nat):Int),0,[],0,0⟩}:Slp).m ts)=some (({x with rcs:=x.rcs++[⟨1,x.now,(i:Int)+1,0⟩],tk:=x.tk+1+1,us:=0+1+1,tasks:=x.tasks.set (i+1) ⟨(i:Int)+1,2,[],[t,0,0,0],2,0,5,0,((x.now+t:Nat):Int),((x.tk+1+1:Nat):Int),0,[],0,0⟩}:Slp).m ts,.out):=by
  unfold IM.roundQ;simp[Slp.m,hlt]
 rw[o]
theorem sl_turn2 {i t:Nat}(hi:ts[i]?=some t)(hx:x.tasks[i+1]?=some (tk_ ((i:Int)+1) 2 [] t 0 0 0 0 [] j))(hk:x.tk<900)(hr:x.rcs.length<1000)(hil:i<1000):
  ∃j',IM.turnQ (F+3) (x.m ts) (i+1)=some (({x with rcs:=x.rcs++[⟨1,x.now,(i:Int)+1,0⟩,⟨2,x.now,(i:Int)+1,i⟩,⟨3,x.now,(i:Int)+1,0⟩],tk:=x.tk+2,us:=2,tasks:=x.tasks.set (i+1) (tk_ ((i:Int)+1) 4 [] t i 0 0 6 [] j')}:Slp).m ts,.ret):=by
 obtain⟨hlt,hg⟩:=List.getElem?_eq_some_iff.1 hx
 have hr':x.rcs.length<1000000:=by omega
 have hr2:x.rcs.length+1<1000000:=by omega
 have hq:w64 ((x.tk:Int)+1+1)=(x.tk:Int)+1+1:=w64_nat (k:=x.tk+1) (by omega)
 have hr3:x.rcs.length+1+1<1000000:=by omega
 have hb:=sl_body hi
 have c1:chanNo ((i:Int)+1)=some (i+1):=by
  unfold chanNo;rw[if_pos (by omega)];rfl
 have e:IM.turnQ (F+3) (x.m ts) (i+1)=IM.roundsQ (i+1) (slSI i t) (F+3) (({x with rcs:=x.rcs++[⟨1,x.now,(i:Int)+1,0⟩],us:=0,tasks:=x.tasks.set (i+1) (tk_ ((i:Int)+1) 2 [] t 0 0 0 1 [] j)}:Slp).m ts):=by
  unfold IM.turnQ;simp[Slp.m,hx,hlt,hg,IM.setT,IM.note,IM.wRecs,push,lim,hr',ITask.wState,IM.wUsed,c1,tk_,hb,slSI]
 refine⟨(j.nx 1 1 x.tk).nx 1 3 (x.tk+1),?_⟩
 rw[e,IM.roundsQ,sl_round (t:=tk_ ((i:Int)+1) 2 [] t 0 0 0 1 [] j) (pc:=2) (s:=⟨1,1,0,i,0⟩) (tasks:=x.tasks.set (i+1) (tk_ ((i:Int)+1) 3 [] t i 0 0 1 [] (j.nx 1 1 x.tk))) (rcs:=x.rcs++[⟨1,x.now,(i:Int)+1,0⟩]) (by simp[hlt]) rfl rfl rfl (by simp[slSI]) rfl (by show _<100;simp) (by show x.tk<1000;omega) (by
  simp[IM.step,IM.setT,Slp.m,hlt,IM.wTicks,IM.wUsed,tk_,Jk.nx,ITask.wBlocks,ITask.wPc,ITask.wA,ITask.wOp,ITask.wAsked,IM.wAsks,IM.act,ITask.setR,ITask.wRegs,ITask.wState,w64_nat (by omega:x.tk<5000),w64_num])]
 simp only[]
 rw[IM.roundsQ,sl_round (t:=tk_ ((i:Int)+1) 3 [] t i 0 0 1 [] (j.nx 1 1 x.tk)) (pc:=3) (s:=⟨3,1,0,0,0⟩) (tasks:=x.tasks.set (i+1) (tk_ ((i:Int)+1) 4 [] t i 0 0 1 [] ((j.nx 1 1 x.tk).nx 1 3 (x.tk+1)))) (rcs:=x.rcs++[⟨1,x.now,(i:Int)+1,0⟩,⟨2,x.now,(i:Int)+1,i⟩]) (by simp[hlt]) rfl rfl rfl (by simp[slSI]) rfl (by show _<100;simp) (by show x.tk+1<1000;omega) (by
  simp[IM.step,IM.setT,Slp.m,hlt,IM.wTicks,IM.wUsed,tk_,Jk.nx,ITask.wBlocks,ITask.wPc,ITask.wA,ITask.wOp,ITask.wAsked,IM.wAsks,IM.act,ITask.getR,IM.note,IM.wRecs,push,lim,hr2,w64_nat (by omega:x.tk+1<5000),w64_num,hq])]
 simp only[];rw[IM.roundsQ];unfold IM.roundQ;simp[Slp.m,slPlan,hlt,tk_,IM.popT,popQ,IM.setT,ITask.wBlocks,ITask.wPc,IM.note,IM.wRecs,push,lim,hr3,IM.finish,IM.finishLoop,ITask.wState,IM.wWait,guardO,upd_nil,slSI];omega
end
end Beat
end
section
set_option linter.unusedSimpArgs false
set_option linter.unusedVariables false
namespace Beat
attribute [local simp] Go.Beat.int_beq Go.Beat.int_bne Go.Beat.ble_dec
attribute [-simp] w64_wrap
open Go.Beat
def PT (n i t c:Nat)(o:Option ITask):Prop:=
 if c=0 then o=some (slp i t (n+2*(i+1)))
 else if c=1 then ∃j,o=some (tk_ ((i:Int)+1) 2 [] t 0 0 0 0 [] j)
 else if c=2 then ∃u,o=some u∧u.state=6∧u.due= -1
 else o=some (frs i)
structure PP (ts:List Nat) (cat:Nat→Nat) (l:List ITask):Prop where
  len:l.length=ts.length+1
  t0:∃u,l[0]?=some u∧u.state=6∧u.due= -1
  ti:∀i t,ts[i]?=some t→PT ts.length i t (cat i) l[i+1]?
section
variable {ts:List Nat} {x:Slp} {F g:Nat} {ca ca':Nat→Nat} {l:List ITask}
theorem PP.put (P:PP ts ca l){i t c:Nat}{u:ITask}(hi:ts[i]?=some t)(h:PT ts.length i t c (some u)):PP ts (fun k=>if k=i then c else ca k) (l.set (i+1) u):=by
 have hl:=(List.getElem?_eq_some_iff.1 hi).1;have hlen:=P.len;refine⟨by rw[List.length_set,hlen],?_,fun k v hk=>?_⟩
 ·obtain⟨u0,h0⟩:=P.t0
  exact⟨u0,by rw[List.getElem?_set_ne (by omega)];exact h0.1,h0.2⟩
 ·by_cases e:k=i
  ·subst e
   rw[hi] at hk
   cases hk
   simp only[if_true];rw[List.getElem?_set_self (by omega)];exact h
  ·simp only[if_neg e]
   rw[List.getElem?_set_ne (by omega)];exact P.ti k v hk
theorem PP.congr (P:PP ts ca l)(h:∀i t,ts[i]?=some t→ca i=ca' i):PP ts ca' l:=⟨P.len,P.t0,fun i t hi=>by rw[←h i t hi];exact P.ti i t hi⟩
theorem pick_none {now:Int}{all:List ITask}{k:Int}:∀(us:List ITask) (i:Nat),(∀u∈us,¬(u.due≥0∧u.due≤now))→pickDue now all us i k=some k
 |[],_,_=>rfl
 |u::us,i,h=>by
  rw[pickDue,if_neg (h u (by simp))]
  exact pick_none us (i+1) fun v hv=>h v (by simp[hv])
theorem pick_stay {now:Int}{all:List ITask}{k:Nat}{u:ITask}(hk:all[k]?=some u):∀(us:List ITask) (i:Nat),(∀v∈us,v.due≥0∧v.due≤now→¬v.asked<u.asked)→pickDue now all us i (k:Int)=some (k:Int)
 |[],_,_=>rfl
 |v::us,i,h=>by
  rw[pickDue]
  have ih:=pick_stay hk us (i+1) fun w hw=>h w (by simp[hw])
  by_cases hd:v.due≥0∧v.due≤now
  ·rw[if_pos hd,if_neg (by omega),Int.toNat_natCast,hk]
   simp only[];rw[if_neg (h v (by simp) hd),ih]
  ·rw[if_neg hd,ih]
theorem pick_at {now:Int}{all:List ITask}{u:ITask}(hu:u.due≥0∧u.due≤now):∀(us:List ITask) (i p:Nat),us[p]?=some u→all[i+p]?=some u→(∀q v,q<p→us[q]?=some v→¬(v.due≥0∧v.due≤now))→(∀q v,p<q→us[q]?=some v→v.due≥0∧v.due≤now→¬v.asked<u.asked)→pickDue now all us i (-1)=some ((i+p:Nat):Int)
 |[],_,_,h,_,_,_=>by simp at h
 |v::us,i,0,h,ha,_,hb=>by
  simp only[List.getElem?_cons_zero,Option.some.injEq] at h;subst h;rw[pickDue,if_pos hu,if_pos (by decide)]
  refine pick_stay ha us (i+1) fun w hw=>?_
  obtain⟨q,hq⟩:=List.getElem?_of_mem hw;exact hb (q+1) w (by omega) (by simpa using hq)
 |v::us,i,p+1,h,ha,hn,hb=>by
  rw[pickDue,if_neg (hn 0 v (by omega) rfl),pick_at hu us (i+1) p (by simpa using h) (by rw[←ha];congr 1;omega) (fun q w hq hw=>hn (q+1) w (by omega) (by simpa using hw)) fun q w hq hw=>hb (q+1) w (by omega) (by simpa using hw)]
  congr 2
  omega
theorem min_none:∀(us:List ITask) (x:Int),(∀u∈us,u.due<0)→minDue us x=x
 |[],_,_=>rfl
 |u::us,x,h=>by
  have:=h u (by simp);rw[minDue,if_neg (by omega)]
  exact min_none us x fun v hv=>h v (by simp[hv])
theorem min_val {τ:Int}(hτ:0≤τ):∀(us:List ITask) (x:Int),(∀u∈us,u.due<0∨τ≤u.due)→(x<0∨τ≤x)→(x=τ∨∃u∈us,u.due=τ)→minDue us x=τ
 |[],x,_,_,h=>by
  rcases h with h|⟨u,hu,_⟩
  ·exact h
  ·cases hu
 |u::us,x,h,hx,he=>by
  have hu:=h u (by simp);rw[minDue]
  refine min_val hτ us _ (fun v hv=>h v (by simp[hv])) ?_ ?_
  ·split<;>omega
  ·rcases he with he|⟨v,hv,he⟩
   ·exact .inl (by split<;>omega)
   ·rcases List.mem_cons.1 hv with rfl|hv
    ·by_cases hc:v.due≥0∧(x<0∨v.due<x)
     ·exact .inl (by rw[if_pos hc];exact he)
     ·exact .inl (by rw[if_neg hc];omega)
    ·exact .inr ⟨v,hv,he⟩
def idx (ts:List Nat)(τ:Nat):List Nat:=(List.range ts.length).filter fun i=>decide (ts.getD i 0=τ)
theorem mem_idx {τ i:Nat}:i∈idx ts τ↔ts[i]?=some τ:=by
 unfold idx;rw[List.mem_filter,List.mem_range,decide_eq_true_eq]
 constructor
 ·rintro⟨h1,h2⟩
  rw[List.getElem?_eq_getElem h1];rw[List.getD_eq_getElem?_getD,List.getElem?_eq_getElem h1] at h2
  simpa using h2
 ·intro h
  exact⟨(List.getElem?_eq_some_iff.1 h).1,by rw[List.getD_eq_getElem?_getD,h];rfl⟩
theorem idx_sorted (ts:List Nat)(τ:Nat):(idx ts τ).Pairwise (·<·):=List.Pairwise.filter _ List.pairwise_lt_range
def cat (ts:List Nat)(τ:Nat)(D W:List Nat)(i:Nat):Nat:=if ts.getD i 0<τ∨i∈D then 2 else if i∈W then 1 else 0
theorem getD_of {i t:Nat}(h:ts[i]?=some t):ts.getD i 0=t:=by rw[List.getD_eq_getElem?_getD,h];rfl
theorem PP.due {τ:Nat}{pre m:List Nat}(P:PP ts (cat ts τ [] pre) l)(hi:idx ts τ=pre++m){p:Nat}{v:ITask}(hv:l[p]?=some v):(v.due= -1∧∀i,p=i+1→i∉m)∨(∃i t,p=i+1∧ts[i]?=some t∧τ≤t∧v=slp i t (ts.length+2*(i+1))∧(t=τ→i∈m)):=by
 cases p with
 |zero=>
  obtain⟨u,h1,h2,h3⟩:=P.t0;rw[h1] at hv
  cases hv
  exact .inl ⟨h3,fun i h=>by omega⟩
 |succ i=>
  have hlt:=(List.getElem?_eq_some_iff.1 hv).1;rw[P.len] at hlt;obtain⟨t,ht⟩:∃t,ts[i]?=some t:=⟨_,List.getElem?_eq_getElem (by omega)⟩;have hP:=P.ti i t ht
  have hnd:(pre++m).Nodup:=by
   rw[←hi]
   exact (idx_sorted ts τ).imp fun h=>Nat.ne_of_lt h
  have hdis:i∈pre→i∉m:=fun h1 h2=>(List.nodup_append.1 hnd).2.2 i h1 i h2 rfl
  have hm:i∈m→t=τ:=fun h=>by
   have:i∈idx ts τ:=by rw[hi];simp[h]
   rw[mem_idx,ht] at this
   simpa using this
  rw[hv] at hP;unfold cat at hP;rw[getD_of ht] at hP
  by_cases h1:t<τ
  ·rw[if_pos (.inl h1)] at hP
   simp only[PT,Option.some.injEq] at hP;obtain⟨u,hu,_,hd⟩:=hP
   refine .inl ⟨by rw[hu];exact hd,fun i' e h=>?_⟩
   have:i'=i:=by omega
   subst this;have:=hm h;omega
  ·rw[if_neg (by simp;omega)] at hP
   by_cases h2:i∈pre
   ·rw[if_pos h2] at hP
    simp only[PT,Option.some.injEq] at hP;obtain⟨j,hj⟩:=hP
    refine .inl ⟨by rw[hj];rfl,fun i' e h=>?_⟩
    have:i'=i:=by omega
    subst this;exact hdis h2 h
   ·rw[if_neg h2] at hP
    simp only[PT,Option.some.injEq,if_true] at hP
    refine .inr ⟨i,t,rfl,ht,by omega,hP,fun e=>?_⟩
    subst e;have:i∈idx ts t:=mem_idx.2 ht;rw[hi] at this;exact (List.mem_append.1 this).resolve_left h2
theorem sl_ready {i:Nat}{t:ITask}(hx:x.tasks[i]?=some t)(hr:x.row.length<1000):(x.m ts).ready i=some (({x with tasks:=x.tasks.set i ((t.wState 0).wDue (-1)),row:=x.row++[i]}:Slp).m ts):=by
 have h:x.row.length<1000000:=by omega
 simp[IM.ready,Slp.m,hx,push,lim,h,IM.setT,IM.wRow]
theorem wake_ok {τ:Nat}(hn:ts.length<20):∀(m pre:List Nat) (x:Slp) (f:Nat),idx ts τ=pre++m→PP ts (cat ts τ [] pre) x.tasks→x.now=τ→x.row=pre.map (·+1)→m.length<f→∃tasks',IM.wakeQ f (x.m ts)=some (({x with row:=(idx ts τ).map (·+1),tasks:=tasks'}:Slp).m ts)∧PP ts (cat ts τ [] (idx ts τ)) tasks'
 |[],pre,x,f,hi,P,hnow,hrow,hf=>by
  obtain⟨f,rfl⟩:∃k,f=k+1:=⟨f - 1,by simp at hf;omega⟩
  have hi':idx ts τ=pre:=by rw[hi,List.append_nil]
  refine⟨x.tasks,?_,by rw[hi'];exact P⟩;have hlen:=P.len
  have h1:pickDue (x.now:Int) x.tasks x.tasks 0 (-1)=some (-1):=pick_none _ _ fun u hu=>by
   obtain⟨p,hp⟩:=List.getElem?_of_mem hu
   rcases P.due hi hp with ⟨h,_⟩|⟨i,t,_,_,h2,rfl,h3⟩
   ·omega
   ·have:t≠τ:=fun e=>by have:=h3 e;cases this
    show ¬((t:Int)≥0∧(t:Int)≤_)
    omega
  have h2:(x.m ts).tasks.length<1000000:=by
   show x.tasks.length<_
   omega
  have h3:(x.m ts).wakeR=some (x.m ts,false):=by
   unfold IM.wakeR
   show (pickDue (x.now:Int) x.tasks x.tasks 0 (-1)).bind _=_
   rw[h1];rfl
  rw[IM.wakeQ];simp only[guardO,h2,if_true,bind,Option.bind_some,h3];rw[hi',←hrow];rfl
 |i::m,pre,x,f,hi,P,hnow,hrow,hf=>by
  obtain⟨f,rfl⟩:∃k,f=k+1:=⟨f - 1,by simp at hf;omega⟩;simp only[List.length_cons] at hf;have hlen:=P.len
  have him:i∈idx ts τ:=by rw[hi];simp
  have ht:=mem_idx.1 him;have hil:=(List.getElem?_eq_some_iff.1 ht).1;have hsrt:=idx_sorted ts τ;rw[hi,List.pairwise_append] at hsrt;obtain⟨u,hu⟩:∃u,x.tasks[i+1]?=some u:=⟨_,List.getElem?_eq_getElem (by omega)⟩
  have hu2:u=slp i τ (ts.length+2*(i+1)):=by
   rcases P.due hi hu with ⟨_,h⟩|⟨i',t,e,h1,h2,h3,h4⟩
   ·exact absurd (show i∈i::m by simp) (h i rfl)
   ·have:i'=i:=by omega
    subst this;rw[ht] at h1
    cases h1
    exact h3
  have h1:pickDue (x.now:Int) x.tasks x.tasks 0 (-1)=some ((i+1:Nat):Int):=by
   have:=pick_at (now:=x.now) (all:=x.tasks) (u:=u) (by rw[hu2];show (τ:Int)≥0∧(τ:Int)≤_;omega) x.tasks 0 (i+1) hu (by rw[Nat.zero_add];exact hu) (fun q v hq hv=>?_) fun q v hq hv hd=>?_
   ·rw[Nat.zero_add] at this
    exact this
   ·rcases P.due hi hv with ⟨h,_⟩|⟨i',t,e,g1,g2,rfl,g4⟩
    ·omega
    ·have:t≠τ:=fun e'=>by
      rcases List.mem_cons.1 (g4 e') with h|h
      ·omega
      ·have:=List.rel_of_pairwise_cons hsrt.2.1 h
       omega
     show ¬((t:Int)≥0∧(t:Int)≤_)
     omega
   ·rcases P.due hi hv with ⟨h,_⟩|⟨i',t,e,g1,g2,rfl,g4⟩
    ·omega
    ·rw[hu2]
     show ¬((ts.length+2*(i'+1):Nat):Int)<((ts.length+2*(i+1):Nat):Int)
     omega
  have h2:(x.m ts).tasks.length<1000000:=by
   show x.tasks.length<_
   omega
  have hrl:x.row.length<1000:=by
   rw[hrow,List.length_map]
   have:(pre++i::m).length≤ts.length:=by
    rw[←hi];unfold idx;exact Nat.le_trans (List.length_filter_le _ _) (by simp)
   simp at this
   omega
  have h3:(x.m ts).wakeR=some (({x with tasks:=x.tasks.set (i+1) ((u.wState 0).wDue (-1)),row:=x.row++[i+1]}:Slp).m ts,true):=by
   unfold IM.wakeR
   show (pickDue (x.now:Int) x.tasks x.tasks 0 (-1)).bind _=_
   rw[h1]
   have e1:¬(((i+1:Nat):Int)<0):=by omega
   have e2:(x.m ts).tasks[i+1]?=some u:=hu
   have e3:¬u.state=5:=by rw[hu2];exact of_decide_eq_true rfl
   simp only[Option.bind_some,e1,if_false,Int.toNat_natCast,e2,bind,e3,sl_ready hu hrl]
  have P':PP ts (cat ts τ [] (pre++[i])) (x.tasks.set (i+1) ((u.wState 0).wDue (-1))):=by
   have:=P.put (c:=1) (u:=(u.wState 0).wDue (-1)) ht (by
    simp only[PT];rw[hu2]
    exact⟨⟨0,5,0,((ts.length+2*(i+1):Nat):Int),0⟩,rfl⟩)
   refine this.congr fun k t hk=>?_
   unfold cat
   by_cases e:k=i
   ·subst e
    rw[ht] at hk
    cases hk
    rw[getD_of ht,if_pos rfl,if_neg (by simp),if_pos (by simp)]
   ·simp[e]
  obtain⟨tasks',g1,g2⟩:=wake_ok hn m (pre++[i]) {x with tasks:=x.tasks.set (i+1) ((u.wState 0).wDue (-1)),row:=x.row++[i+1]} f (by rw[hi];simp) P' hnow (by show x.row++[i+1]=_;rw[hrow];simp) (by omega);refine⟨tasks',?_,g2⟩;rw[IM.wakeQ];simp only[guardO,h2,if_true,bind,Option.bind_some,h3];exact g1
end
end Beat
end
section
set_option linter.unusedSimpArgs false
set_option linter.unusedVariables false
namespace Beat
attribute [local simp] Go.Beat.int_beq Go.Beat.int_bne Go.Beat.ble_dec
attribute [-simp] w64_wrap
open Go.Beat
def says (rs:List Rec):List Int:=(rs.filter fun r=>r.kind==2).map (·.num)
section
variable {ts:List Nat} {x:Slp} {F g:Nat}
theorem idx_le (ts:List Nat)(τ:Nat):(idx ts τ).length≤ts.length:=by
 unfold idx;exact Nat.le_trans (List.length_filter_le _ _) (by simp)
theorem sl_feed (f:Nat):IM.feedQ (f+1) (x.m ts)=some (x.m ts):=by
 simp[IM.feedQ,IM.feedR,Slp.m,chanNo,guardO]
theorem pass_ok {τ:Nat}(hn:ts.length<20)(hτ:τ<10)(P:PP ts (cat ts τ [] []) x.tasks)(hrow:x.row=[])(hnow:x.now≤τ)(hne:idx ts τ≠[])(hr:x.rcs.length<1000):
  ∃x':Slp,IM.passQ (F+30) (x.m ts)=some (x'.m ts,.out)∧PP ts (cat ts τ [] (idx ts τ)) x'.tasks∧x'.row=(idx ts τ).map (·+1)∧x'.now=τ∧says x'.rcs=says x.rcs∧x'.rcs.length≤x.rcs.length+1∧x'.tk=x.tk:=by
 have hlen:=P.len
 have hmin:minDue x.tasks (-1)=(τ:Int):=by
  refine min_val (by omega) _ _ (fun u hu=>?_) (.inl (by decide)) (.inr ?_)
  ·obtain⟨p,hp⟩:=List.getElem?_of_mem hu
   rcases P.due (m:=idx ts τ) rfl hp with ⟨h,_⟩|⟨i,t,_,_,h2,rfl,_⟩
   ·omega
   ·exact .inr (by show (τ:Int)≤(t:Int);omega)
  ·obtain⟨i,m,hi⟩:∃i m,idx ts τ=i::m:=by
    cases h:idx ts τ with
    |nil=>exact absurd h hne
    |cons a b=>exact⟨a,b,rfl⟩
   have ht:=mem_idx.1 (show i∈idx ts τ by rw[hi];simp);have hil:=(List.getElem?_eq_some_iff.1 ht).1;obtain⟨u,hu⟩:∃u,x.tasks[i+1]?=some u:=⟨_,List.getElem?_eq_getElem (by omega)⟩;refine⟨u,List.mem_of_getElem? hu,?_⟩
   rcases P.due (m:=idx ts τ) rfl hu with ⟨_,h⟩|⟨i',t,e,h1,h2,h3,h4⟩
   ·exact absurd (show i∈idx ts τ by rw[hi];simp) (h i rfl)
   ·have:i'=i:=by omega
    subst this;rw[ht] at h1
    cases h1
    rw[h3];rfl
 have hl:x.tasks.length<1000000:=by omega
 obtain⟨y,hy1,hy2,hy3,hy4,hy5,hy6⟩:∃y:Slp,(if (τ:Int)>(x.m ts).now then ((x.m ts).wNow τ).note 5 (-1) 0 else some (x.m ts))=some (y.m ts)∧y.tasks=x.tasks∧y.row=x.row∧y.now=τ∧(says y.rcs=says x.rcs∧y.rcs.length≤x.rcs.length+1)∧y.tk=x.tk:=by
  by_cases h:x.now<τ
  ·refine⟨{x with now:=τ,rcs:=x.rcs++[⟨5,τ, -1,0⟩]},?_,rfl,rfl,rfl,⟨by simp[says],by simp⟩,rfl⟩
   rw[if_pos (by show (τ:Int)>(x.now:Int);omega)]
   have hr':x.rcs.length<1000000:=by omega
   simp[IM.note,IM.wNow,Slp.m,push,lim,hr',IM.wRecs]
  ·refine⟨x,?_,rfl,rfl,by omega,⟨rfl,by omega⟩,rfl⟩
   rw[if_neg (by show ¬(τ:Int)>(x.now:Int);omega)]
 obtain⟨tasks',h1,h2⟩:=wake_ok hn (idx ts τ) [] y (F+30) rfl (by rw[hy2];exact P) hy4 (by rw[hy3,hrow];rfl) (by have:=idx_le ts τ;omega);refine⟨{y with row:=(idx ts τ).map (·+1),tasks:=tasks'},?_,h2,rfl,hy4,hy5.1,hy5.2,hy6⟩
 have e1:¬((τ:Int)<0):=by omega
 have e2:¬((τ:Int)<(x.m ts).now):=by show ¬((τ:Int)<(x.now:Int));omega
 have e3:¬((τ:Int)>(x.m ts).inp.until_):=by show ¬((τ:Int)>100);omega
 have e4:(x.m ts).fed=some 0:=rfl
 have e5:¬((0:Int)<((x.m ts).inp.feed.length:Int)):=by show ¬((0:Int)<0);omega
 have e6:(x.m ts).tasks.length<1000000∧(x.m ts).inp.feed.length<1000000:=⟨hl,of_decide_eq_true rfl⟩;have e7:chanNo 0=some 0:=rfl;have e8:minDue (x.m ts).tasks (-1)=(τ:Int):=hmin;unfold IM.passQ;simp only[e4,bind,Option.bind_some,e7,guardO,e6,and_self,if_true,e8,e5,if_false,e1,e2,e3]
 by_cases hc:(τ:Int)>(x.m ts).now
 ·rw[if_pos hc] at hy1 ⊢
  simp only[hy1,Option.bind_some,h1,sl_feed]
 ·rw[if_neg hc] at hy1 ⊢
  rw[Option.some.injEq] at hy1;simp only[hy1,Option.bind_some,h1,sl_feed]
theorem turns_ok {τ:Nat}(hn:ts.length<20):∀(m pre:List Nat) (x:Slp),idx ts τ=pre++m→PP ts (cat ts τ pre (idx ts τ)) x.tasks→x.row=m.map (·+1)→x.now=τ→x.tk+2*m.length≤800→x.rcs.length+3*m.length≤800→
  ∃x':Slp,(∀g,IM.mainQ (F+3) (g+m.length) (x.m ts)=IM.mainQ (F+3) g (x'.m ts))∧PP ts (cat ts τ (idx ts τ) (idx ts τ)) x'.tasks∧x'.row=[]∧x'.now=τ∧x'.tk=x.tk+2*m.length∧says x'.rcs=says x.rcs++m.map Int.ofNat∧x'.rcs.length=x.rcs.length+3*m.length
 |[],pre,x,hi,P,hrow,hnow,htk,hrc=>by
  have hi':idx ts τ=pre:=by rw[hi,List.append_nil]
  exact⟨x,fun g=>rfl,by rw[hi'] at P ⊢;exact P,hrow,hnow,rfl,by simp,rfl⟩
 |i::m,pre,x,hi,P,hrow,hnow,htk,hrc=>by
  simp only[List.length_cons] at htk hrc
  have him:i∈idx ts τ:=by rw[hi];simp
  have ht:=mem_idx.1 him;have hil:=(List.getElem?_eq_some_iff.1 ht).1
  have hnd:(pre++i::m).Nodup:=by
   rw[←hi]
   exact (idx_sorted ts τ).imp fun h=>Nat.ne_of_lt h
  have hip:i∉pre:=fun h=>(List.nodup_append.1 hnd).2.2 i h i (by simp) rfl
  have hc:cat ts τ pre (idx ts τ) i=1:=by
   unfold cat;rw[getD_of ht,if_neg (by simp[hip]),if_pos him]
  have hP:=P.ti i τ ht;rw[hc] at hP;obtain⟨j,hj⟩:∃j,x.tasks[i+1]?=some (tk_ ((i:Int)+1) 2 [] τ 0 0 0 0 [] j):=hP
  have hml:m.length<20:=by
   have:=idx_le ts τ;rw[hi] at this
   simp at this
   omega
  obtain⟨j',hturn⟩:=sl_turn2 (F:=F) (x:={x with row:=m.map (·+1)}) ht hj (by show x.tk<900;omega) (by show x.rcs.length<1000;omega) (by omega);have P':=P.put (c:=2) (u:=tk_ ((i:Int)+1) 4 [] τ i 0 0 6 [] j') ht ⟨_,rfl,rfl,rfl⟩
  obtain⟨x',g1,g2,g3,g4,g5,g6,g7⟩:=turns_ok hn m (pre++[i]) {x with row:=m.map (·+1),rcs:=x.rcs++[⟨1,x.now,(i:Int)+1,0⟩,⟨2,x.now,(i:Int)+1,i⟩,⟨3,x.now,(i:Int)+1,0⟩],tk:=x.tk+2,us:=2,tasks:=x.tasks.set (i+1) (tk_ ((i:Int)+1) 4 [] τ i 0 0 6 [] j')} (by rw[hi];simp) (by
   refine P'.congr fun k t hk=>?_
   unfold cat
   by_cases e:k=i
   ·subst e
    simp
   ·simp[e]) rfl hnow (by show x.tk+2+_≤_;omega) (by simp;omega)
  refine⟨x',fun g=>?_,g2,g3,g4,by rw[g5];simp;omega,by rw[g6];simp[says],by rw[g7];simp;omega⟩;rw[←g1 g];have e:(x.m ts).row=(i+1)::m.map (·+1):=hrow;rw[List.length_cons,show g+(m.length+1)=(g+m.length)+1 from by omega];exact main_turn e (by simp;omega) hturn rfl
def wantL (ts:List Nat):Nat→List Nat
 |0=>[]
 |τ+1=>wantL ts τ++idx ts τ
def topT (ts:List Nat):Nat→Nat
 |0=>0
 |τ+1=>if idx ts τ=[] then topT ts τ else τ
theorem top_le (ts:List Nat):∀τ,topT ts τ≤τ
 |0=>Nat.le_refl _
 |τ+1=>by
  have:=top_le ts τ;unfold topT
  split<;>omega
theorem filter_split (f:Nat→Nat)(τ:Nat):∀l:List Nat,(l.filter fun i=>decide (f i<τ+1)).length=(l.filter fun i=>decide (f i<τ)).length+(l.filter fun i=>decide (f i=τ)).length
 |[]=>rfl
 |a::l=>by
  have:=filter_split f τ l;simp only[List.filter_cons,decide_eq_true_eq]
  split<;>split<;>split<;>(try simp only[List.length_cons])<;>omega
theorem want_len (ts:List Nat):∀τ,(wantL ts τ).length=((List.range ts.length).filter fun i=>decide (ts.getD i 0<τ)).length
 |0=>by
  rw[List.filter_eq_nil_iff.2 (fun i _=>by simp)];rfl
 |τ+1=>by
  rw[wantL,List.length_append,want_len ts τ,filter_split];rfl
theorem want_le (ts:List Nat)(τ:Nat):(wantL ts τ).length≤ts.length:=by
 rw[want_len];exact Nat.le_trans (List.length_filter_le _ _) (by simp)
structure Lev (ts:List Nat) (τ:Nat) (x:Slp):Prop where
 pp:PP ts (cat ts τ [] []) x.tasks
 row:x.row=[]
 now:x.now=topT ts τ
 tk:x.tk=3*ts.length+2*(wantL ts τ).length
 says:says x.rcs=(wantL ts τ).map Int.ofNat
 rcs:x.rcs.length≤2+ts.length+3*(wantL ts τ).length+τ
theorem level_ok {τ:Nat}(hn:ts.length<20)(hτ:τ<10)(P:Lev ts τ x):∃(x':Slp) (c:Nat),c≤1+(idx ts τ).length∧(∀g,IM.mainQ (F+30) (g+c) (x.m ts)=IM.mainQ (F+30) g (x'.m ts))∧Lev ts (τ+1) x':=by
 have hw1:=want_le ts (τ+1)
 have hw2:(wantL ts (τ+1)).length=(wantL ts τ).length+(idx ts τ).length:=by rw[wantL,List.length_append]
 have hrc:=P.rcs;have htk:=P.tk;have hno:=top_le ts τ
 by_cases he:idx ts τ=[]
 ·refine⟨x,0,by omega,fun g=>rfl,P.pp.congr fun i t hi=>?_,P.row,?_,by rw[hw2,he];exact P.tk,by rw[wantL,he,List.append_nil];exact P.says,by rw[hw2,he];simp;omega⟩
  ·unfold cat
   rw[getD_of hi]
   have:t≠τ:=fun e=>by
    subst e;have:=mem_idx.2 hi;rw[he] at this
    cases this
   simp
   by_cases h:t<τ
   ·rw[if_pos h,if_pos (by omega)]
   ·rw[if_neg h,if_neg (by omega)]
  ·rw[topT,if_pos he];exact P.now
 ·obtain⟨y,a1,a2,a3,a4,a5,a6,a7⟩:=pass_ok (F:=F) hn hτ P.pp P.row (by rw[P.now];exact hno) he (by omega)
  obtain⟨x',b1,b2,b3,b4,b5,b6,b7⟩:=turns_ok (F:=F+27) hn (idx ts τ) [] y rfl a2 a3 a4 (by omega) (by omega);refine⟨x',(idx ts τ).length+1,by omega,fun g=>?_,b2.congr fun i t hi=>?_,b3,?_,by rw[b5,a7,htk,hw2];omega,by rw[b6,a5,P.says,wantL,List.map_append],by rw[b7,hw2];omega⟩
  ·rw[←b1 g]
   exact main_pass P.row a1 rfl
  ·have hm:=mem_idx (ts:=ts) (τ:=τ) (i:=i)
   rw[hi,Option.some.injEq] at hm;unfold cat;rw[getD_of hi];simp only[hm,List.not_mem_nil,or_false,if_false]
   by_cases h:t<τ∨t=τ
   ·rw[if_pos h,if_pos (by omega)]
   ·rw[if_neg h,if_neg (by omega),if_neg (by omega)]
  ·rw[b4,topT,if_neg he]
theorem levels_ok (hn:ts.length<20):∀(k τ:Nat) (x:Slp),τ+k=10→Lev ts τ x→∃(x':Slp) (c:Nat),c+(wantL ts τ).length≤k+(wantL ts 10).length∧(∀g,IM.mainQ (F+30) (g+c) (x.m ts)=IM.mainQ (F+30) g (x'.m ts))∧Lev ts 10 x'
 |0,τ,x,h,P=>by
  have:τ=10:=by omega
  subst this;exact⟨x,0,by omega,fun g=>rfl,P⟩
 |k+1,τ,x,h,P=>by
  obtain⟨y,c,a1,a2,a3⟩:=level_ok (F:=F) hn (by omega) P;obtain⟨x',c',b1,b2,b3⟩:=levels_ok hn k (τ+1) y (by omega) a3
  have hw2:(wantL ts (τ+1)).length=(wantL ts τ).length+(idx ts τ).length:=by rw[wantL,List.length_append]
  refine⟨x',c'+c,by omega,fun g=>?_,b3⟩;rw[←b2 g,←a2 (g+c')]
  congr 1
  omega
theorem ask_ok (hn:ts.length<20)(ht:∀t∈ts,t<10):∀(k i:Nat) (x:Slp),i+k=ts.length→PP ts (fun q=>if q<i then 0 else 3) x.tasks→x.row=List.range' (i+1) k→x.tk=ts.length+2*i→x.now=0→says x.rcs=[]→x.rcs.length≤2+i→
  ∃x':Slp,(∀g,IM.mainQ (F+3) (g+k) (x.m ts)=IM.mainQ (F+3) g (x'.m ts))∧Lev ts 0 x'
 |0,i,x,h,P,hrow,htk,hnow,hs,hrc=>by
  refine⟨x,fun g=>rfl,P.congr fun q t hq=>?_,hrow,hnow,by simp[wantL];omega,by simp[wantL,hs],by simp[wantL];omega⟩;have:=(List.getElem?_eq_some_iff.1 hq).1;rw[if_pos (by omega)];simp[cat]
 |k+1,i,x,h,P,hrow,htk,hnow,hs,hrc=>by
  obtain⟨t,hi⟩:∃t,ts[i]?=some t:=⟨_,List.getElem?_eq_getElem (by omega)⟩;have hP:=P.ti i t hi;simp only[Nat.lt_irrefl,if_false] at hP;have hx:x.tasks[i+1]?=some (frs i):=hP;have ht10:=ht t (List.mem_of_getElem? hi);have hturn:=sl_turn1 (F:=F) (x:={x with row:=List.range' (i+1+1) k}) hi ht10 hx (by show x.tk<900;omega) (by show x.rcs.length<1000;omega) (by show x.now<10;omega)
  have P':=P.put (c:=0) (u:=⟨(i:Int)+1,2,[],[t,0,0,0],2,0,5,0,((x.now+t:Nat):Int),((x.tk+2:Nat):Int),0,[],0,0⟩) hi (by
   simp only[PT,if_true,Option.some.injEq];rw[hnow,htk,Nat.zero_add];rw[show ts.length+2*i+2=ts.length+2*(i+1) from by omega]
   rfl)
  obtain⟨x',g1,g2⟩:=ask_ok hn ht k (i+1) {x with row:=List.range' (i+1+1) k,rcs:=x.rcs++[⟨1,x.now,(i:Int)+1,0⟩],tk:=x.tk+2,us:=2,tasks:=x.tasks.set (i+1) ⟨(i:Int)+1,2,[],[t,0,0,0],2,0,5,0,((x.now+t:Nat):Int),((x.tk+2:Nat):Int),0,[],0,0⟩} (by omega) (by
   refine P'.congr fun q v hq=>?_
   by_cases e:q=i
   ·subst e
    simp
   ·simp only[e,if_false]
    by_cases h:q<i
    ·rw[if_pos h,if_pos (by omega)]
    ·rw[if_neg h,if_neg (by omega)]) rfl (by show x.tk+2=_;omega) hnow (by show says (x.rcs++_)=[];simpa [says] using hs) (by simp;omega)
  refine⟨x',fun g=>?_,g2⟩;rw[←g1 g]
  have e:(x.m ts).row=(i+1)::List.range' (i+1+1) k:=by
   show x.row=_
   rw[hrow];rfl
  rw[show g+(k+1)=(g+k)+1 from by omega];exact main_turn e (by simp;omega) hturn rfl
theorem make_ok (hn:ts.length<20):∀(k i:Nat) (x:Slp) (j:Jk) (r:Int) (rest:List ITask) (f:Nat),i+k=ts.length→x.tasks=tk_ 0 i [] r 0 0 0 1 [] j::rest→rest=(List.range i).map frs→x.row=List.range' 1 i→x.tk=i→x.us=i→x.rcs.length<10→k+1≤f→
  ∃x':Slp,IM.roundsQ 0 (slS0 ts.length) f (x.m ts)=some (x'.m ts,.ret)∧(∃u,x'.tasks=u::(List.range ts.length).map frs∧u.state=6∧u.due= -1)∧x'.row=List.range' 1 ts.length∧x'.tk=ts.length∧x'.rcs=x.rcs++[⟨3,x.now,0,0⟩]∧x'.now=x.now
 |0,i,x,j,r,rest,f,h,hx,hr,hrow,htk,hus,hrc,hf=>by
  obtain⟨f,rfl⟩:∃k,f=k+1:=⟨f - 1,by omega⟩
  have hi:i=ts.length:=by omega
  rw[IM.roundsQ,sl_fin hi hx (by omega) (by omega) (by omega)];exact⟨_,rfl,⟨_,by rw[hr,hi],rfl,rfl⟩,by rw[←hi];exact hrow,by rw[←hi];exact htk,rfl,rfl⟩
 |k+1,i,x,j,r,rest,f,h,hx,hr,hrow,htk,hus,hrc,hf=>by
  obtain⟨f,rfl⟩:∃k,f=k+1:=⟨f - 1,by omega⟩
  have hrl:rest.length=i:=by rw[hr];simp
  rw[IM.roundsQ,sl_spawn hn (by omega) hx (by omega) (by omega) (by omega) (by rw[hrow];simp;omega)];simp only[]
  obtain⟨x',a1,a2,a3,a4,a5,a6⟩:=make_ok hn k (i+1) {x with tk:=x.tk+1,us:=x.us+1,row:=x.row++[rest.length+1],tasks:=tk_ 0 (i+1:Nat) [] (rest.length+1:Nat) 0 0 0 1 [] (j.nx 0 7 x.tk)::(rest++[frs i])} _ _ _ f (by omega) rfl (by rw[hr,List.range_succ,List.map_append];rfl) (by
   show x.row++[rest.length+1]=_
   rw[hrow,hrl,List.range'_concat,Nat.one_mul,Nat.add_comm 1 i]) (by show x.tk+1=_;omega) (by show x.us+1=_;omega) hrc (by omega)
  exact⟨x',a1,a2,a3,a4,a5,a6⟩
theorem long_none:∀(ls:List (List Step)) (i:Nat),(∀l∈ls,l.length≤200)→longI ls i=none
 |[],_,_=>rfl
 |l::ls,i,h=>by
  have:=h l (by simp);rw[longI,if_neg (by omega)]
  exact long_none ls (i+1) fun m hm=>h m (by simp[hm])
theorem badIn_ok {p:Plan}:∀(ss:List Step) (k:Nat),(∀s∈ss,stepOkI p s=true)→badIn p ss k=none
 |[],_,_=>rfl
 |s::ss,k,h=>by
  rw[badIn,if_pos (h s (by simp))]
  exact badIn_ok ss (k+1) fun m hm=>h m (by simp[hm])
theorem bad_none {p:Plan}:∀(ls:List (List Step)) (i:Nat),(∀l∈ls,∀s∈l,stepOkI p s=true)→badI p ls i=none
 |[],_,_=>rfl
 |l::ls,i,h=>by
  rw[badI,badIn_ok l 0 (h l (by simp))]
  exact bad_none ls (i+1) fun m hm=>h m (by simp[hm])
theorem nestIn_flat:∀(ss:List Step) (k:Nat) (es:List Int),(∀s∈ss,s.op≠15∧s.op≠16)→nestIn ss k es=none
 |[],_,_,_=>rfl
 |s::ss,k,es,h=>by
  rw[nestIn];simp only[h s (by simp),ne_eq,not_false_eq_true,and_self,if_true]
  exact nestIn_flat ss (k+1) _ fun m hm=>h m (by simp[hm])
theorem nest_flat:∀(ls:List (List Step)) (i:Nat),(∀l∈ls,∀s∈l,s.op≠15∧s.op≠16)→nestI ls i=none
 |[],_,_=>rfl
 |l::ls,i,h=>by
  rw[nestI,nestIn_flat l 0 _ (h l (by simp))]
  exact nest_flat ls (i+1) fun m hm=>h m (by simp[hm])
theorem sl_valid (h0:0<ts.length)(hn:ts.length<20):planOkI (slPlan ts)=⟨0,0,0⟩:=by
 have hb:∀l∈(slPlan ts).bodies,l.length≤200∧∀s∈l,stepOkI (slPlan ts) s=true∧s.op≠15∧s.op≠16:=by
  intro l hl
  have e1:(slPlan ts).bodies.length=ts.length+1:=by simp[slPlan]
  simp only[slPlan,List.mem_cons,List.mem_map] at hl
  rcases hl with rfl|⟨q,_,rfl⟩
  ·refine⟨by simp[slS0];omega,fun s hs=>?_⟩
   simp only[slS0,List.mem_map,List.mem_range] at hs;obtain⟨i,hi,rfl⟩:=hs;refine⟨?_,of_decide_eq_true rfl,of_decide_eq_true rfl⟩;simp[stepOkI,stepB,regB,e1];omega
  ·refine⟨by simp[slSI],fun s hs=>?_⟩
   simp only[slSI,List.mem_cons,List.not_mem_nil,or_false] at hs
   rcases hs with rfl|rfl|rfl|rfl<;>exact ⟨by simp[stepOkI,stepB,regB],of_decide_eq_true rfl,of_decide_eq_true rfl⟩
 unfold planOkI;rw[long_none _ _ fun l hl=>(hb l hl).1,bad_none _ _ fun l hl s hs=>((hb l hl).2 s hs).1,nest_flat _ _ fun l hl s hs=>((hb l hl).2 s hs).2]
 have e1:(slPlan ts).bodies.length=ts.length+1:=by simp[slPlan]
 rw[if_neg (by omega)];rfl
open Go.Beat in
theorem sleepers_all (h0:0<ts.length)(hn:ts.length<20)(ht:∀t∈ts,t<10):∃m,IM.playQ 100 100 (slPlan ts) ⟨[],1000,100⟩=some m∧m.code=0∧says m.recs=(wantL ts 10).map Int.ofNat∧m.time=topT ts 10∧m.states.length=ts.length+1∧m.recs.length≤1000:=by
 unfold IM.playQ;rw[if_pos ⟨sl_valid h0 hn,by rfl⟩]
 cases hm:((mNew (slPlan ts) ⟨[],1000,100⟩ none).wChansL ((slPlan ts).rooms.map fun r=>{room:=r})).spawn 0 with
 |none=>simp[IM.spawn,mNew,slPlan,IM.wChansL,push,lim,IM.wTasks,IM.wRow] at hm
 |some m1=>
  simp[IM.spawn,mNew,slPlan,IM.wChansL,push,lim,IM.wTasks,IM.wRow] at hm;subst hm;obtain⟨x1,a1,⟨u,a2,a3,a4⟩,a5,a6,a7,a8⟩:=make_ok hn ts.length 0 {rcs:=[⟨1,0,0,0⟩],tk:=0,us:=0,row:=[],tasks:=[{body:=0,state:=1}],now:=0} ⟨0,0,0,0,0⟩ 0 [] 100 (by omega) rfl rfl rfl rfl rfl (by decide) (by omega)
  obtain⟨x2,b1,b2⟩:=ask_ok (F:=97) hn ht ts.length 0 x1 (by omega) (by
   refine⟨by rw[a2];simp,⟨u,by rw[a2];rfl,a3,a4⟩,fun i t hi=>?_⟩;have:=(List.getElem?_eq_some_iff.1 hi).1
   simp[PT,a2,this]) a5 a6 a8 (by rw[a7];rfl) (by rw[a7];exact of_decide_eq_true rfl)
  obtain⟨x3,c,c1,c2,c3⟩:=levels_ok (F:=70) hn 10 0 x2 (by omega) b2;have hw:=want_le ts 10;have hrc:=c3.rcs;have hlen:=c3.pp.len
  have hend:IM.passQ 100 (x3.m ts)=some (x3.m ts,.pan 0):=by
   have hall:∀v∈x3.tasks,v.due= -1∧v.state=6:=fun v hv=>by
    obtain⟨p,hp⟩:=List.getElem?_of_mem hv
    cases p with
    |zero=>
     obtain⟨u,h1,h2,h3⟩:=c3.pp.t0;rw[h1] at hp
     cases hp
     exact⟨h3,h2⟩
    |succ i=>
     have hlt:=(List.getElem?_eq_some_iff.1 hp).1;obtain⟨t,hi⟩:∃t,ts[i]?=some t:=⟨_,List.getElem?_eq_getElem (by omega)⟩;have hP:=c3.pp.ti i t hi;have:=ht t (List.mem_of_getElem? hi);unfold cat at hP;rw[getD_of hi,if_pos (.inl this),hp] at hP;obtain⟨u,h1,h2,h3⟩:∃u,some v=some u∧u.state=6∧u.due= -1:=hP
     cases h1
     exact⟨h3,h2⟩
   have h1:minDue (x3.m ts).tasks (-1)= -1:=min_none _ _ fun v hv=>by rw[(hall v hv).1];decide
   have h2:(x3.m ts).anyW=false:=by
    unfold IM.anyW;rw[List.any_eq_false];intro v hv;rw[(hall v hv).2]
    decide
   have e4:(x3.m ts).fed=some 0:=rfl
   have e5:¬((0:Int)<((x3.m ts).inp.feed.length:Int)):=by show ¬((0:Int)<0);omega
   have e6:(x3.m ts).tasks.length<1000000∧(x3.m ts).inp.feed.length<1000000:=⟨by show x3.tasks.length<_;omega,of_decide_eq_true rfl⟩;have e7:chanNo 0=some 0:=rfl
   have e9:((-1:Int)<0):=by decide
   unfold IM.passQ;simp only[e4,bind,Option.bind_some,e7,guardO,e6,and_self,if_true,h1,e5,if_false,e9,h2];rfl
  have e:∀m2:IM,m2=({p:=slPlan ts,inp:=⟨[],1000,100⟩,tasks:=[{body:=0}],row:=[0],fed:=some 0}:IM)→IM.mainQ 100 100 m2=some (x3.m ts,0):=by
   rintro m2 rfl
   have ht1:IM.turnQ 100 ({p:=slPlan ts,inp:=⟨[],1000,100⟩,tasks:=[{body:=0}],row:=[],fed:=some 0}:IM) 0=some (x1.m ts,.ret):=by
    rw[←a1];unfold IM.turnQ
    have e1:(slS0 ts.length).length<1000000:=by simp[slS0];omega
    simp[IM.setT,IM.note,IM.wRecs,push,lim,ITask.wState,IM.wUsed,chanNo,slPlan,Slp.m,e1]
   rw[main_turn (m':=x1.m ts) (q:=.ret) rfl (of_decide_eq_true rfl) ht1 rfl];obtain⟨g,hg⟩:∃g,99=((g+1)+c)+ts.length:=⟨98 - c - ts.length,by have:(wantL ts 0).length=0:=rfl;omega⟩;rw[hg,b1,c2,IM.mainQ,show (x3.m ts).row=[] from c3.row];simp only[hend];rfl
  have e':=e _ (rfl:({p:=slPlan ts,inp:=⟨[],1000,100⟩,tasks:=[{body:=0}],row:=[0],fed:=some 0}:IM)=_)
  show ∃m,(match IM.mainQ 100 100 ({p:=slPlan ts,inp:=⟨[],1000,100⟩,tasks:=[{body:=0}],row:=[0],fed:=some 0}:IM) with|none=>none|some q=>if q.1.tasks.length<1000000∧q.1.states.length<1000000 then some (IM.finQ q.1 q.2) else none)=some m∧_
  rw[e'];simp only[];rw[if_pos ⟨by show x3.tasks.length<_;omega,of_decide_eq_true rfl⟩];refine⟨_,rfl,rfl,c3.says,?_,?_,?_⟩
  ·show (x3.now:Int)=_
   rw[c3.now]
  ·show (([]:List Int)++x3.tasks.map fun t:ITask=>t.state).length=_
   simp[hlen]
  ·show x3.rcs.length≤_
   omega
end
end Beat
end
