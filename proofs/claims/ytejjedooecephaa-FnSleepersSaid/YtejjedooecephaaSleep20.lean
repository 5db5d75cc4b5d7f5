/-
  Texts joined by a program (shake.py), without what the claim does not use; printed walks among them (print.sh), and own ones.
-/
import Derived.Test.YtejjedooecephaaSleep14
import Derived.Test.YtejjedooecephaaSleep19
import Derived.Defers
import Derived.Carry
section
namespace Go.Beat
open Go _root_.Beat Go.Proofs
attribute [local simp] int_beq int_bne ble_dec
set_option maxRecDepth 100000
theorem wpList_append {P:Program}{ops:Array Oper}{Q:Post}{l2:List Oper}:∀{l1:List Oper} {a:Act} {w:World},wpList P ops (Exit.then (wpList P ops Q l2) Q) l1 a w→wpList P ops Q (l1++l2) a w
 |[],_,_,h=>h
 |o::l1,a,w,h=>by
  simp only[List.cons_append];unfold wpList at h ⊢
  split
  ·rename_i hw
   rw[if_pos hw] at h
   rcases h with h|⟨h1,a',w',h2⟩
   ·refine .inl ?_
    unfold Oper.wp at*;generalize (execOp a.eval o).run P w=r at*
    have ih:∀a w,wpList P ops (Exit.then (wpList P ops Q l2) Q) l1 a w→wpList P ops Q (l1++l2) a w:=fun a w=>wpList_append
    cases r with
    |ok n w'=>
     cases n<;>simp only[Oper.upon] at h ⊢<;>
      first
       |exact ih _ _ h
       |exact Calls.mono h (fun e w'' he=>by cases e<;>first|exact ih _ _ he|exact he)
       |exact Rows.mono h (fun _ _ he=>ih _ _ he)
    |halt x w'=>cases x<;>simp only[Oper.upon] at h ⊢<;>exact h
   ·exact .inr ⟨h1,a',w',h2⟩
  ·rename_i hw
   rw[if_neg hw] at h;exact wpList_append h
def endQ (J:Act→World→Prop):Post
 |.normal,a,w=>J a w
 |_,_,_=>False
theorem endQ_put {J:Act→World→Prop}:∀c (d:Option Tmp) v a w,endQ J (.panic c) (a.put d v) w→endQ J (.panic c) a w:=fun _ _ _ _ _ h=>h
theorem endQ_then {J:Act→World→Prop}{Q:Post}:∀e a w,endQ J e a w→Exit.then J Q e a w:=fun e a w h=>by cases e<;>first|exact h|exact h.elim
abbrev D0:Md:=mdS (GM 0 .nilFunc none)
abbrev obHk (hv:Value):LObj TI:=⟨139,1,true,some (.cells [.v hv])⟩
abbrev obPt (a:AL TI):LObj TI:=⟨110,1,true,some (.cells [a])⟩
noncomputable def g0:SegD:=⟨seqL (bd Try.f66),[0,1,2],[3,4,5,6],[],4,0⟩
theorem play_r0 (m:IM)(nb nr n:Nat)(sl t u:Int)(hv':Value):
 segF (D:=D0) (noOp _) (tabA.at [] []) [] [] wk0 100 Try.f66.ntmps g0 [plnV nb nr sl,inpV n t u,.l (.v hv')] m [] []=
  bif [AL.v hv'].all (oneC (τ:=TI)) then some (.norm ⟨zipK [3,4,5,6] [lcV 0,lcV 1,lcV 2,lcV 3],m,[obPl nb nr sl,obIn n t u,obHk hv',obPt (.v (.pointer none))],[]⟩) else none:=by kernel_rfl
noncomputable def c1:Code:=seqL (seqR (bd Try.f66))
noncomputable def c2:Code:=seqR (seqR (bd Try.f66))
theorem c_eq:bd Try.f66=.seq g0.c (.seq c1 c2):=by kernel_rfl
def opsOf:Code→Array Oper
 |.region _ ops _=>ops
 |_=>#[]
theorem c1_eq:c1=.region 1 (opsOf c1) false:=by kernel_rfl
abbrev fr36:AFr TI:=[(3,lcV 0),(4,lcV 1),(5,lcV 2),(6,lcV 3)]
abbrev clV:TV TI:=.l (.p (.m .cell) 0 1 0)
abbrev fr36':AFr TI:=[(3,lcV 0),(4,lcV 1),(5,lcV 2),(6,clV)]
theorem play_r1a (m:IM)(nb nr n:Nat)(sl t u:Int)(oh:LObj TI)(op:LObj TI):
 opsP (D:=D0) (tabA.at [] []) (envOf (noOp _) [] (AS D0)) Try.f66.ntmps (opsOf c1) ((opsOf c1).toList.take 2) ⟨fr36,m,[obPl nb nr sl,obIn n t u,oh,op],[]⟩ some (fun _ _=>none)=
  some ⟨(12,inpV n t u)::(11,plnV nb nr sl)::fr36,m,[obPl nb nr sl,obIn n t u,oh,op],[]⟩:=by kernel_rfl
noncomputable def o13:Oper:=(opsOf c1).toList.getD 2 (default:Oper)
theorem o13_eq:(opsOf c1).toList.drop 2=o13::(opsOf c1).toList.drop 3:=by kernel_rfl
theorem o13_op:o13.op=.makeMap 106 none:=by kernel_rfl
theorem o13_dst:o13.dst=some 13:=by kernel_rfl
theorem o13_guard:o13.guard=none:=by kernel_rfl
theorem play_r1c (wb:Nat)(m:IM)(hv':Value):
 opsP (D:=D0) (tabA.at [] []) (envOf (noOp _) [] (AS D0)) Try.f66.ntmps (opsOf c1) ((opsOf c1).toList.drop 3) ⟨(13,.l (.v (.map (some wb))))::(12,inpV m.inp.feed.length m.inp.ticks m.inp.until_)::(11,plnV m.p.bodies.length m.p.rooms.length m.p.slice)::fr36,m,[obPl m.p.bodies.length m.p.rooms.length m.p.slice,obIn m.inp.feed.length m.inp.ticks m.inp.until_,obHk hv',obPt (.v (.pointer none))],[]⟩ some (fun _ _=>none)=
  some ⟨(15,lcV 4)::(14,.agg (machBox (GM wb .nilFunc none) m .nilFunc))::(13,.l (.v (.map (some wb))))::(12,inpV m.inp.feed.length m.inp.ticks m.inp.until_)::(11,plnV m.p.bodies.length m.p.rooms.length m.p.slice)::fr36,m,
   [obPl m.p.bodies.length m.p.rooms.length m.p.slice,obIn m.inp.feed.length m.inp.ticks m.inp.until_,obHk hv',obPt (.p (.loc 4) 0 1 0),⟨109,1,true,some (.cells (machBox (GM wb .nilFunc none) m .nilFunc))⟩],[]⟩:=by kernel_rfl
theorem look36 {t:Nat}{v:TV TI}(h:lookA fr36' t=some v):(t=3∧v=lcV 0)∨(t=4∧v=lcV 1)∨(t=5∧v=lcV 2)∨(t=6∧v=clV):=by
 by_cases h3:t=3
 ·subst h3;cases h;exact .inl ⟨rfl,rfl⟩
 ·by_cases h4:t=4
  ·subst h4;cases h;exact .inr (.inl ⟨rfl,rfl⟩)
  ·by_cases h5:t=5
   ·subst h5;cases h;exact .inr (.inr (.inl ⟨rfl,rfl⟩))
   ·by_cases h6:t=6
    ·subst h6;cases h;exact .inr (.inr (.inr ⟨rfl,rfl⟩))
    ·simp[lookA,Ne.symm h3,Ne.symm h4,Ne.symm h5,Ne.symm h6] at h
theorem frm36 {fr:AFr TI}(h3:lookA fr 3=some (lcV 0))(h4:lookA fr 4=some (lcV 1))(h5:lookA fr 5=some (lcV 2))(h6:lookA fr 6=some (lcV 3)){n:Nat}{ds:List Deferred}{a:Act}{S S':Sto (Tg TI)}(hF:FrmA n ds a S fr)(hl:∀j,S'.loc (.loc j)=S.loc (.loc j))(hc:S'.loc (.m .cell)=S.loc (.loc 3)):FrmA n ds a S' fr36':=
 ⟨hF.defs,hF.size,fun t v ht=>by
  have e:∀j,encT S' (lcV j)=encT S (lcV j):=fun j=>by simp[encT,encL,hl]
  have ec:encT S' clV=encT S (lcV 3):=by simp[encT,encL,hc]
  rcases look36 ht with ⟨rfl,rfl⟩|⟨rfl,rfl⟩|⟨rfl,rfl⟩|⟨rfl,rfl⟩
  ·rw[e];exact hF.get _ _ h3
  ·rw[e];exact hF.get _ _ h4
  ·rw[e];exact hF.get _ _ h5
  ·rw[ec];exact hF.get _ _ h6⟩
theorem alloc_size (w:World)(o:Obj):(w.alloc o).heap.size=w.heap.size+1:=Array.size_push ..
theorem play_r1 {hv:Value}{p:_root_.Beat.Plan}{inp:_root_.Beat.Input}{B:Base D0}{S:Sto (Tg TI)}{w:World}{a:Act}(R:Rel B (mNew p inp none) [obPl p.bodies.length p.rooms.length p.slice,obIn inp.feed.length inp.ticks inp.until_,obHk hv,obPt (.v (.pointer none))] [] S w)(hF:FrmA Try.f66.ntmps [] a S fr36)(hn:∀t:TI,(mdI (GM 0 .nilFunc none)).isro t=false→S.loc (.m t)=SL.none)(pk gk:List Nat){J:Act→World→Prop}(next:∀(wb:Nat) (S':Sto (Tg TI)) (a':Act) (w':World),Rel (D:=DM wb .nilFunc none) ⟨S',w',mNew p inp none,pk,gk⟩ (mNew p inp none) [obPl p.bodies.length p.rooms.length p.slice,obIn inp.feed.length inp.ticks inp.until_,obHk hv] [] S' w'→
   FrmA Try.f66.ntmps [] a' S' fr36'→Kp S w S' w'→(∀t:TI,(mdI (GM 0 .nilFunc none)).isro t=true→S'.loc (.m t)=S.loc (.m t))→J a' w'):
  c1.wp PG (endQ J) a w:=by
 have e2:∀Q':Post,postK PG (fun _=>True) [] Q'=Q':=fun Q'=>by funext e a w;cases e<;>rfl
 have hC:CallOk (D:=D0) PG (envOf (noOp _) [] (AS D0)):=envOf_ok noOp_ok EnvOk.nil _;have O0:MdOk D0:=mdS_ok _
 have part3:∀(S1:Sto (Tg TI)) (a1:Act) (w1:World),Kp S w S1 w1→(∀t:TI,(mdI (GM 0 .nilFunc none)).isro t=true→S1.loc (.m t)=S.loc (.m t))→(∀t:TI,(mdI (GM 0 .nilFunc none)).isro t=false→S1.loc (.m t)=SL.none)→∀wb,w1.heap[wb]?=some (Obj.map #[] 0)→S1.own wb=none→w.heap.size≤wb→
   Rel (D:=D0) ⟨S1,w1,mNew p inp none,[],[]⟩ (mNew p inp none) [obPl p.bodies.length p.rooms.length p.slice,obIn inp.feed.length inp.ticks inp.until_,obHk hv,obPt (.v (.pointer none))] [] S1 w1→
   FrmA Try.f66.ntmps [] a1 S1 ((13,.l (.v (.map (some wb))))::(12,inpV inp.feed.length inp.ticks inp.until_)::(11,plnV p.bodies.length p.rooms.length p.slice)::fr36)→wpList PG (opsOf c1) (endQ J) ((opsOf c1).toList.drop 3) a1 w1:=fun S1 a1 w1 hk1 hr1 hn1 wb hw1 ho1 hle R1 hF1=>by
  refine opsP_ok (D:=D0) (tabAOk.at _ _) O0 hC (n:=Try.f66.ntmps) (ds:=[]) (B:=⟨S1,w1,mNew p inp none,[],[]⟩) rfl rfl (κ:=some) (κp:=fun _ _=>none) (fun s' S3 a3 w3 h3 hF3 R3=>?_) (fun _ _ _ _ _ h=>by cases h) _ _ _ _ _ (play_r1c wb (mNew p inp none) hv) hF1 R1
  cases h3
  have hk:=R3.kp;have hlt:wb<w1.heap.size:=(Array.getElem?_eq_some_iff.1 hw1).1;have hw3:w3.heap[wb]?=some (Obj.map #[] 0):=(hk.keep _ hlt ho1).trans hw1;have ho3:S3.own wb=none:=(hk.own _ hlt).2 ho1
  have hn3:∀t:TI,(mdI (GM wb .nilFunc none)).isro t=false→S3.loc (.m t)=SL.none:=fun t ht=>(R3.turn t rfl (fun h=>by cases h)).trans (hn1 t ht)
  obtain⟨S',R',hl1,hlc,hl2,hown1,hown2⟩:=start_rel (G:=GM wb .nilFunc none) rfl rfl R3 hn3 hw3 ho3 (fun o ho=>by
   rcases List.mem_cons.1 ho with rfl|ho
   ·rfl
   ·rcases List.mem_cons.1 ho with rfl|ho
    ·rfl
    ·rcases List.mem_cons.1 ho with rfl|ho
     ·rfl
     ·cases ho) pk gk
  refine next wb S' a3 w3 R' (frm36 rfl rfl rfl rfl hF3 hl1 hlc) ?_ fun t ht=>(hl2 t ht).trans ((R3.stab t (.inr ht)).trans (hr1 t ht))
  have k3:Kp S w S3 w3:=hk1.trans hk;refine⟨k3.os,k3.tape,k3.output,k3.size,fun b hb=>?_,k3.keep⟩;rw[←k3.own b hb];refine⟨hown1 b,fun h=>Classical.byContradiction fun h2=>?_⟩;have:=hown2 b h2 h;have:b=wb:=this;omega
 have key:WPK PG (fun _=>True) [.code c1] (endQ J) a w:=by
  rw[c1_eq]
  refine K_region ?_
  rw[WPK_ops,e2];have hops:(opsOf c1).toList=((opsOf c1).toList.take 2)++((opsOf c1).toList.drop 2):=(List.take_append_drop 2 _).symm;rw[hops]
  refine wpList_append ?_
  refine opsP_ok (D:=D0) (tabAOk.at _ _) O0 hC (n:=Try.f66.ntmps) (ds:=[]) (B:=⟨S,w,mNew p inp none,[],[]⟩) rfl rfl (κ:=some) (κp:=fun _ _=>none) (fun s' S1 a1 w1 h1 hF1 R1=>?_) (fun _ _ _ _ _ h=>by cases h) _ _ _ _ _ (play_r1a (mNew p inp none) _ _ _ _ _ _ (obHk hv) _) hF (R.rebase [] [])
  cases h1
  show wpList PG _ _ ((opsOf c1).toList.drop 2) a1 w1
  rw[o13_eq];unfold wpList;rw[if_pos (by simp[Region.wanted,o13_guard])]
  refine .inl ?_
  have hr:(execOp a1.eval o13).run PG w1=.ok (.value (.map (some w1.heap.size))) (w1.alloc (.map #[] 0)):=by
   simp only[execOp,o13_op];rfl
  unfold Oper.wp;rw[hr];simp only[Oper.upon,o13_dst];have hE:Evn S1 w1 S1 (w1.alloc (.map #[] 0)):=Kp.alloc S1 w1 _;have ho2:S1.own w1.heap.size=none:=R1.fresh _ (Nat.le_refl _);have hsz:=alloc_size w1 (.map #[] 0)
  have R2:Rel (D:=D0) ⟨S,w,mNew p inp none,[],[]⟩ (mNew p inp none) [obPl p.bodies.length p.rooms.length p.slice,obIn inp.feed.length inp.ticks inp.until_,obHk hv,obPt (.v (.pointer none))] [] S1 (w1.alloc (.map #[] 0)):=
   R1.step O0 hE (fun t cs ht=>(R1.H t cs ht).other rfl (fun _ _ h=>h) fun b hb _=>heap_alloc_old w1 _ b hb) (fun b hb=>R1.fresh b (by rw[hsz] at hb;omega)) (fun _ _=>rfl) rfl (fun _ _ h=>h) fun _ _ h=>h
  have hw2:(w1.alloc (.map #[] 0)).heap[w1.heap.size]?=some (Obj.map #[] 0):=by
   show (w1.heap.push _)[w1.heap.size]?=_
   simp
  have hF2:=hF1.put (d:=13) (of_decide_eq_true rfl) (v:=.l (.v (.map (some w1.heap.size)))) (u:=.map (some w1.heap.size)) (fun v' h=>by cases h;rfl);exact part3 S1 _ _ (R1.kp.trans hE.toKp) (fun t ht=>R1.stab t (.inr ht)) (fun t ht=>(R1.turn t rfl (fun h=>by cases h)).trans (hn t ht)) w1.heap.size hw2 ho2 R1.kp.size (R2.rebase [] []) hF2
 rw[WPK_code,e2] at key;exact key
end Go.Beat
end
