/-
  Texts joined by a program (shake.py), without what the claim does not use; printed walks among them (print.sh), and own ones.
-/
import Derived.Test.YtejjedooecephaaSleep28
import Derived.Test.YtejjedooecephaaSleep34
import Derived.Recover
section
namespace Go.Beat
open Go _root_.Beat Go.Proofs
attribute [local simp] int_beq int_bne ble_dec
set_option maxRecDepth 100000
variable {wb:Nat} {hv:Value} {hk:Option Int}
theorem rawK {wb:Nat}{hv:Value}{hk:Option Int}(m:IM)(c:Int):segM (wb:=wb) (hv:=hv) (hk:=hk) (opI _) (tabA.at pkA gkA) [] [] wk85 600 Try.f85.ntmps gK [clV,lcV 0,.l (.v (.bool true))] m [obOv c] []=some (nrmM [(0,TV.l (AL.p (Tg.m TI.cell) 0 1 0))] (m.wCode c) [⟨155,1,true,some (LO.cells [AL.v (i64 c)])⟩] []):=by kernel_rfl
theorem rawJl {wb:Nat}{hv:Value}{hk:Option Int}(m:IM)(n j:Nat):roundM (wb:=wb) (hv:=hv) (hk:=hk) (opI _) (tabA.at pkA gkA) [] [] wk85 600 Try.f85 (loopsOf gJ.c) (lStates wb hv hk) [clV,.l (.sl (.m .tasks) 0 1 n),iV n,iV j] m [] []=bif decide ((j:Int)<(n:Int)) then if 0+n≤m.tasks.length∧(0:Int)≤(j:Int)∧(j:Int)<(n:Int) then if 0+j<m.tasks.length then m.tasks[0+j]?.bind fun val=>if 0+m.states.length≤m.states.length∧(m.states.length+1)*8≤140737488355328∧m.states.length+1≤9223372036854775807 then bif (List.take m.states.length (List.drop 0 m.states)++[val.state]).length.ble 9223372036854775807 then if 0+(m.states.length+1)≤(List.take m.states.length (List.drop 0 m.states)++[val.state]).length then if IntKind.i64=IntKind.i64∧m.states.length+1=(List.take (m.states.length+1) (List.drop 0 (List.take m.states.length (List.drop 0 m.states)++[val.state]))).length then some (nrmM [(0,TV.l (AL.p (Tg.m TI.cell) 0 1 0)),(34,TV.l (AL.sl (Tg.m TI.tasks) 0 1 n)),(35,iV (n:Int)),(36,iV (IntKind.i64.wrap ((j:Int)+(1:Int))))] (m.wStates (List.take (m.states.length+1) (List.drop 0 (List.take m.states.length (List.drop 0 m.states)++[val.state])))) [] []) else none else none else none else none else none else none else some (exM 0 [(0,TV.l (AL.p (Tg.m TI.cell) 0 1 0))] m [] []):=by kernel_rfl
theorem rawJ {wb:Nat}{hv:Value}{hk:Option Int}(m:IM):segM (wb:=wb) (hv:=hv) (hk:=hk) (opI _) (tabA.at pkA gkA) [] [lStates wb hv hk] wk85 600 Try.f85.ntmps gJ [clV] m [] []=if (m.tasks.length:Int)=(m.tasks.length:Int)∧m.tasks.length=m.tasks.length∧m.tasks.length<1000000∧m.states.length<1000000 then some (nrmM [(0,TV.l (AL.p (Tg.m TI.cell) 0 1 0))] ((m.wTime m.now).wStates (m.states++List.map (fun x=>x.state) m.tasks)) [] []) else none:=by kernel_rfl
theorem get_mid2 {α:Type}{xs pre rest:List α}{t:α}(h:xs=pre++t::rest):xs[pre.length]?=some t∧pre.length<xs.length:=by subst h;simp
theorem states_iter (m:IM)(hn:m.tasks.length<1000000)(hs:m.states.length<1000000):∀(rest pre:List ITask),m.tasks=pre++rest→
  iterM (wb:=wb) (hv:=hv) (hk:=hk) (opI _) (tabA.at pkA gkA) [] [] wk85 600 Try.f85 (loopsOf gJ.c) (lStates wb hv hk) (rest.length+1) [clV,.l (.sl (.m .tasks) 0 1 m.tasks.length),iV m.tasks.length,iV pre.length] (m.wStates (m.states++pre.map (·.state))) [] []=
   some (exM 0 [(0,clV)] (m.wStates (m.states++m.tasks.map (·.state))) [] [])
 |[],pre,h=>by
  refine iterM_exit ?_ (fun s h=>by cases h)
  rw[rawJl];simp only[List.append_nil] at h;simp[h]
 |e::rest,pre,h=>by
  rw[←states_iter m hn hs rest (pre++[e]) (by simp[h])];obtain⟨hg,hlt⟩:=get_mid2 h
  have hlt':(pre.length:Int)<(m.tasks.length:Int):=by omega
  have hw:=wrap_succ (j:=pre.length) (by omega)
  have hp1:(pre++[e]).length=pre.length+1:=by simp
  have hpc:((pre.length+1:Nat):Int)=(pre.length:Int)+1:=by omega
  refine iterM_succ [clV,.l (.sl (.m .tasks) 0 1 m.tasks.length),iV m.tasks.length,iV (pre++[e]).length] ?_
  rw[rawJl];have e1:(m.wStates (m.states++pre.map (·.state))).states=m.states++pre.map (·.state):=rfl;have e0:(m.wStates (m.states++pre.map (·.state))).tasks=m.tasks:=rfl
  have hl:(m.states++pre.map (·.state)).length=m.states.length+pre.length:=by simp
  have e2:List.take (m.states.length+pre.length) (List.drop 0 (m.states++pre.map (·.state)))=m.states++pre.map (·.state):=List.take_of_length_le (by simp)
  have e3:(m.states++pre.map (·.state)++[e.state]).length=m.states.length+pre.length+1:=by simp;omega
  have e4:List.take (m.states.length+pre.length+1) (List.drop 0 (m.states++pre.map (·.state)++[e.state]))=m.states++pre.map (·.state)++[e.state]:=List.take_of_length_le (by rw[List.drop_zero,e3];exact Nat.le_refl _)
  have g1:(m.states.length+pre.length+1)*8≤140737488355328:=by omega
  have g2:m.states.length+pre.length+1≤9223372036854775807:=by omega
  have hb:Nat.ble (m.states.length+pre.length+1) 9223372036854775807=true:=Nat.ble_eq_true_of_le g2;simp only[e0,e1,hl,e2,e3,e4,hlt,hlt',decide_true,cond_true,Nat.zero_add,Int.natCast_nonneg,true_and,and_self,Nat.le_refl,if_true,Int.toNat_natCast,hg,Option.bind_some,g1,g2,hb,hw];simp[lStates,zipK]
theorem states_lp {LS:List (Nat×Code)}{ld:List (LoopD (DM wb hv hk))}(hld:LpOk PG (tabA.at pkA gkA) (DM wb hv hk) Try.f85.ntmps LS ld)(hLS:LS=(loopsOf gJ.c)):LpOk PG (tabA.at pkA gkA) (DM wb hv hk) Try.f85.ntmps LS (lStates wb hv hk::ld):=by
 subst hLS
 refine mkLp (tabAOk.at _ _) (mdI_ok _) mixOk (opI_ok _) EnvOk.nil hld (wk:=wk85) (N:=600) LpOk.nil (by kernel_rfl) fun vs m L dk κ x h0=>?_
 simp only[lStates] at h0
 split at h0
 ·split at h0
  case isFalse=>cases h0
  rename_i n n' hc;obtain⟨rfl,rfl,hn,hs⟩:=hc;have:=states_iter (wb:=wb) (hv:=hv) (hk:=hk) m hn hs m.tasks [] rfl
  have e:m.wStates (m.states++[].map (fun x:ITask=>x.state))=m:=by
   show m.wStates (m.states++[])=m
   rw[List.append_nil];rfl
  rw[e] at this;exact⟨_,_,this,h0⟩
 ·cases h0
def IM.finQ (m:IM)(c:Int):IM:=(((m.wCode c).wTime m.now).wStates (m.states++m.tasks.map (·.state)))
noncomputable def q0:Oper:=(opsOf e0).toList.getD 0 (default:Oper)
noncomputable def q1:Oper:=(opsOf e0).toList.getD 1 (default:Oper)
noncomputable def p0:Oper:=(opsOf r1).toList.getD 0 (default:Oper)
noncomputable def p1:Oper:=(opsOf r1).toList.getD 1 (default:Oper)
noncomputable def x0:Oper:=(opsOf r2).toList.getD 0 (default:Oper)
noncomputable def x1:Oper:=(opsOf r2).toList.getD 1 (default:Oper)
theorem ops_e0:(opsOf e0)=#[q0,q1]:=by kernel_rfl
theorem ops_r1:(opsOf r1).toList=[p0,p1]:=by kernel_rfl
theorem ops_r2:(opsOf r2).toList=x0::x1::(opsOf r2).toList.drop 2:=by kernel_rfl
theorem gd85:q0.guard=none∧q1.guard=none∧p0.guard=none∧p1.guard=none∧x0.guard=none∧x1.guard=none:=⟨by kernel_rfl,by kernel_rfl,by kernel_rfl,by kernel_rfl,by kernel_rfl,by kernel_rfl⟩
theorem ds85:q0.dst=some 6∧q1.dst=some 1∧p0.dst=some 7∧p1.dst=some 8∧x0.dst=some 10∧x1.dst=some 11:=⟨by kernel_rfl,by kernel_rfl,by kernel_rfl,by kernel_rfl,by kernel_rfl,by kernel_rfl⟩
theorem u0 (ρ:Operand→Value)(w:World):(execOp ρ q0).run PG w=.ok .recover w:=by kernel_rfl
theorem u1 (ρ:Operand→Value)(w:World):(execOp ρ q1).run PG w=.ok (.value (ρ (.tmp 6))) w:=by kernel_rfl
theorem u2 (ρ:Operand→Value)(w:World):(execOp ρ p0).run PG w=.ok (.value (ρ (.tmp 1))) w:=by kernel_rfl
theorem u4 (ρ:Operand→Value)(w:World):(execOp ρ x0).run PG w=.ok (.value (ρ (.tmp 1))) w:=by kernel_rfl
theorem u3 (a:Act)(c:Int)(w:World)(h:a.eval (.tmp 7)=panV c):(execOp a.eval p1).run PG w=.ok (.value (.bool true)) w:=by
 have e:p1.op=.binOp .neq 20 (.tmp 7) (.const .nilIface) 20:=by kernel_rfl
 simp only[execOp,e];rw[h];rfl
theorem u5 (a:Act)(c:Int)(w:World)(h:a.eval (.tmp 10)=panV c):(execOp a.eval x1).run PG w=.ok (.value (.tuple #[.agg #[.int .i64 c],.bool true])) w:=by
 have e:x1.op=.typeAssert (.tmp 10) 20 155 true:=by kernel_rfl
 simp only[execOp,e];rw[h];rfl
theorem raw_r2 (m:IM)(c:Int):opsP (D:=DM wb hv hk) (tabA.at pkA gkA) (envOf (opI _) [] (AS (DM wb hv hk))) Try.f85.ntmps (opsOf r2) ((opsOf r2).toList.drop 2) ⟨[(11,.tup [.inr [.v (i64 c)],.inl (.v (.bool true))]),(10,.l (.v (panV c))),(8,.l (.v (.bool true))),(7,.l (.v (panV c))),(1,.l (.v (panV c))),(6,.l (.v (panV c))),(0,clV)],m,[],[]⟩ some (fun _ _=>none)=some ⟨(3,.l (.v (.bool true)))::(2,lcV 0)::(13,.l (.v (.bool true)))::(12,.agg [.v (i64 c)])::(9,.tup [.inr [.v (i64 c)],.inl (.v (.bool true))])::[(11,.tup [.inr [.v (i64 c)],.inl (.v (.bool true))]),(10,.l (.v (panV c))),(8,.l (.v (.bool true))),(7,.l (.v (panV c))),(1,.l (.v (panV c))),(6,.l (.v (panV c))),(0,clV)],m,[obOv c],[]⟩:=by kernel_rfl
theorem frm_args {τ:Type}{n:Nat}{S:Sto (Tg τ)}{vs:List (TV τ)}(hn:vs.length≤n):FrmA n [] {tmps:=(vs.map (encT S)).toArray++Array.replicate (n - (vs.map (encT S)).toArray.size) undef,defers:=[]} S (argsFr 0 vs):=by
 refine⟨rfl,by simp;omega,fun t v ht=>?_⟩;obtain⟨_,h2⟩:=look_args vs 0 t v ht;have hlt:t<vs.length:=(List.getElem?_eq_some_iff.1 h2).1;simp only[Nat.sub_zero] at h2;have h3:vs[t]=v:=(List.getElem?_eq_some_iff.1 h2).2;simp[Array.getElem?_append,hlt,h3]
theorem wanted_of {o:Oper}{ops:Array Oper}{t:Array Value}(h:o.guard=none):Region.wanted o (yielded ops t)=true:=by simp[Region.wanted,h]
def overR (B:Base (DM wb hv hk))(m:IM)(c:Int):Ending→FrameMode→World→Prop:=fun e u' w'=>e=.returned (.tuple #[])∧u'=.panicking [{v:=panV c,recovered:=true}]∧∃S',Rel B (m.finQ c) [] [] S' w'
theorem over_ok {B:Base (DM wb hv hk)}(hpk:B.pk=pkA)(hgk:B.gk=gkA){m:IM}{c:Int}(ht:m.tasks.length<1000000)(hs:m.states.length<1000000){S:Sto (Tg TI)}{w:World}(R:Rel B m [] [] S w):
  CallsD PG 85 #[encT S clV] (.panicking [{v:=panV c,recovered:=false}]) w (overR B m c):=by
 have nilK:∀(a:Act) (w:World) (Q':Post),postK PG (fun _=>True) [] Q'=Q':=fun a w Q'=>by funext e a w;cases e<;>rfl
 have TA:TabA.Ok PG (tabA.at pkA gkA):=tabAOk.at _ _;have hC:CallOk (D:=DM wb hv hk) PG (envOf (opI _) [] (AS (DM wb hv hk))):=envOf_ok (opI_ok _) EnvOk.nil _
 refine callsD_of_wpS (fn:=Try.f85) (c:=b85) (by kernel_rfl) (by kernel_rfl) fun c₀ cs hm=>?_
 have hF0:FrmA Try.f85.ntmps [] {tmps:=#[encT S clV]++Array.replicate (Try.f85.ntmps - #[encT S clV].size) undef,defers:=[]} S [(0,clV)]:=frm_args (vs:=[clV]) (of_decide_eq_true rfl);generalize ({tmps:=#[encT S clV]++Array.replicate (Try.f85.ntmps - #[encT S clV].size) undef,defers:=[]}:Act)=a0 at hF0;rw[b85_eq]
 refine wpS_seq (wpS_seq ?_)
 rw[e0_eq]
 refine wpS_region ?_
 have hsz:List.range (opsOf e0).size=[0,1]:=by rw[ops_e0];rfl
 have hi0:(opsOf e0)[0]?=some q0:=by rw[ops_e0];rfl
 have hi1:(opsOf e0)[1]?=some q1:=by rw[ops_e0];rfl
 rw[hsz];unfold wpOpsS;rw[hi0];simp only[wanted_of gd85.1,if_true,u0]
 have hrec:recoverD (c₀::cs)=some (panV c,{c₀ with mode:=.panicking [{v:=panV c,recovered:=true}]}::cs):=by simp[recoverD,hm]
 rw[hrec]
 simp only
 unfold wpOpsS;rw[hi1];simp only[wanted_of gd85.2.1,if_true,u1];simp only[Oper.upon];unfold wpOpsS;rw[ds85.1,ds85.2.1];have hF1:=hF0.put (d:=6) (of_decide_eq_true rfl) (v:=.l (.v (panV c))) (u:=panV c) (fun v' h=>by cases h;rfl);have ev6:(a0.put (some 6) (panV c)).eval (.tmp 6)=panV c:=hF1.eval (x:=.tmp 6) (v:=.l (.v (panV c))) rfl;rw[ev6];have hF2:=hF1.put (d:=1) (of_decide_eq_true rfl) (v:=.l (.v (panV c))) (u:=panV c) (fun v' h=>by cases h;rfl);generalize ((a0.put (some 6) (panV c)).put (some 1) (panV c))=a2 at hF2
 show Code.wpS PG e1 _ a2 _ w
 refine wpS_of_wp ?_
 have of:∀{K:List KI} {Q':Post} {a:Act} {w:World} {c:Code},WPK PG (fun _=>True) (.code c::K) Q' a w→c.wp PG (postK PG (fun _=>True) K Q') a w:=fun h=>by rw[WPK_code] at h;exact h
 have to:∀{K:List KI} {Q':Post} {a:Act} {w:World} {c:Code},c.wp PG (postK PG (fun _=>True) K Q') a w→WPK PG (fun _=>True) (.code c::K) Q' a w:=fun h=>by rw[WPK_code];exact h
 rw[←nilK a2 w (fun e a' w'=>Exit.thenS _ _ e a' _ w')]
 refine of ?_
 rw[e1_eq]
 refine K_seq ?_
 rw[r1_eq]
 refine K_region ?_
 rw[WPK_ops,ops_r1]
 refine wpList_val (wanted_of gd85.2.2.1) (u2 _ _) ?_
 have ev1:a2.eval (.tmp 1)=panV c:=hF2.eval (x:=.tmp 1) (v:=.l (.v (panV c))) rfl;rw[ev1,ds85.2.2.1];have hF3:=hF2.put (d:=7) (of_decide_eq_true rfl) (v:=.l (.v (panV c))) (u:=panV c) (fun v' h=>by cases h;rfl);generalize (a2.put (some 7) (panV c))=a3 at hF3;have ev7:a3.eval (.tmp 7)=panV c:=hF3.eval (x:=.tmp 7) (v:=.l (.v (panV c))) rfl
 refine wpList_val (wanted_of gd85.2.2.2.1) (u3 a3 c w ev7) ?_
 rw[ds85.2.2.2.1];have hF4:=hF3.put (d:=8) (of_decide_eq_true rfl) (v:=.l (.v (.bool true))) (u:=.bool true) (fun v' h=>by cases h;rfl);generalize (a3.put (some 8) (.bool true))=a4 at hF4;have ev8:a4.eval (.tmp 8)=.bool true:=hF4.eval (x:=.tmp 8) (v:=.l (.v (.bool true))) rfl;unfold wpList
 refine K_cond (t:=true) ev8 ?_
 simp only[if_true]
 refine K_seq ?_
 rw[r2_eq]
 refine K_region ?_
 rw[WPK_ops,ops_r2]
 refine wpList_val (wanted_of gd85.2.2.2.2.1) (u4 _ _) ?_
 have ev1':a4.eval (.tmp 1)=panV c:=hF4.eval (x:=.tmp 1) (v:=.l (.v (panV c))) rfl;rw[ev1',ds85.2.2.2.2.1];have hF5:=hF4.put (d:=10) (of_decide_eq_true rfl) (v:=.l (.v (panV c))) (u:=panV c) (fun v' h=>by cases h;rfl);generalize (a4.put (some 10) (panV c))=a5 at hF5;have ev10:a5.eval (.tmp 10)=panV c:=hF5.eval (x:=.tmp 10) (v:=.l (.v (panV c))) rfl
 refine wpList_val (wanted_of gd85.2.2.2.2.2) (u5 a5 c w ev10) ?_
 rw[ds85.2.2.2.2.2];have hF6:=hF5.put (d:=11) (of_decide_eq_true rfl) (v:=.tup [.inr [.v (i64 c)],.inl (.v (.bool true))]) (u:=.tuple #[.agg #[.int .i64 c],.bool true]) (fun v' h=>by cases h;rfl);generalize (a5.put (some 11) _)=a6 at hF6
 refine opsP_ok (D:=DM wb hv hk) TA (mdI_ok _) hC (n:=Try.f85.ntmps) (ds:=[]) (B:=B) hpk.symm hgk.symm (κ:=some) (κp:=fun _ _=>none) (fun s' S7 a7 w7 h7 hF7 R7=>?_) (fun _ _ _ _ _ h=>by cases h) _ _ _ _ _ (raw_r2 m c) hF6 R
 cases h7
 refine to ?_
 rw[nilK a7 w7]
 have hF8:FrmA Try.f85.ntmps [] a7 S7 (zipK [0,2,3] [clV,lcV 0,.l (.v (.bool true))]):=⟨hF7.defs,hF7.size,fun t v ht=>by
  by_cases h0:t=0
  ·subst h0;cases ht;exact hF7.get _ _ rfl
  ·by_cases h2:t=2
   ·subst h2;cases ht;exact hF7.get _ _ rfl
   ·by_cases h3:t=3
    ·subst h3;cases ht;exact hF7.get _ _ rfl
    ·simp[zipK,lookA,Ne.symm h0,Ne.symm h2,Ne.symm h3] at ht⟩
 refine wp_mono (seg_wp (d:=gK) TA (mdI_ok _) mixOk (opI_ok _) EnvOk.nil LpOk.nil (by kernel_rfl) hpk.symm hgk.symm (o:=nrmM [(0,clV)] (m.wCode c) [obOv c] []) (rawK m c) (endQ_put (J:=fun a w=>e2.wpS PG (bodyPostS PG Try.f85 c₀ cs (overR B m c)) a ({c₀ with mode:=.panicking [{v:=panV c,recovered:=true}]}::cs) w)) (fun S9 a9 w9 hF9 R9=>?_) hF8 R7) fun e a w he=>?_
 ·refine wpS_of_wp ?_
  refine wp_mono (seg_wp (d:=gJ) TA (mdI_ok _) mixOk (opI_ok _) EnvOk.nil (states_lp LpOk.nil rfl) (by kernel_rfl) hpk.symm hgk.symm (o:=nrmM [(0,clV)] (m.finQ c) [] []) ((rawJ (m.wCode c)).trans (if_pos ⟨rfl,rfl,ht,hs⟩)) (endQ_put (J:=fun a w=>bodyPostS PG Try.f85 c₀ cs (overR B m c) .normal a ({c₀ with mode:=.panicking [{v:=panV c,recovered:=true}]}::cs) w)) (fun S10 a10 w10 hF10 R10=>?_) hF9 (R9.forget 0)) fun e a w he=>?_
  ·obtain⟨xs,h1,h2⟩:=run_results (s:=⟨[(0,clV)],m.finQ c,[],[]⟩) (fn:=Try.f85) TA (mdI_ok _) hF10 R10 (κ:=some) (x:=[]) (by kernel_rfl)
   cases h1
   exact⟨hF10.defs,_,rfl,_,h2,rfl,rfl,S10,R10⟩
  ·cases e with
   |normal=>exact he
   |exit i=>exact he.elim
   |ret=>exact he.elim
   |panic c=>exact he.elim
   |goto l=>exact he.elim
   |outgrown=>exact he.elim
 ·cases e with
  |normal=>exact he
  |exit i=>exact he.elim
  |ret=>exact he.elim
  |panic c=>exact he.elim
  |goto l=>exact he.elim
  |outgrown=>exact he.elim
end Go.Beat
end
