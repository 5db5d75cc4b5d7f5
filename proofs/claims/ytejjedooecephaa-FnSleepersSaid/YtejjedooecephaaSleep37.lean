/-
  Texts joined by a program (shake.py), without what the claim does not use; printed walks among them (print.sh), and own ones.
-/
import Derived.Test.YtejjedooecephaaSleep13
import Derived.Test.YtejjedooecephaaSleep29
import Derived.Test.YtejjedooecephaaSleep32
import Derived.Test.YtejjedooecephaaSleep33
import Derived.Test.YtejjedooecephaaSleep35
import Derived.Test.YtejjedooecephaaSleep36
section
namespace Go.Beat
open Go _root_.Beat Go.Proofs
attribute [local simp] int_beq int_bne ble_dec
set_option maxRecDepth 100000
def IM.playQ (F g:Nat)(p:_root_.Beat.Plan)(inp:_root_.Beat.Input):Option IM:=
 if planOkI p=⟨0,0,0⟩∧inputOkI p inp=true then
  match ((mNew p inp none).wChansL (p.rooms.map fun r=>{room:=r})).spawn 0 with
  |none=>none
  |some m1=>match IM.mainQ F g (m1.wFed (some 0)) with
   |none=>none
   |some q=>if q.1.tasks.length<1000000∧q.1.states.length<1000000 then some (q.1.finQ q.2) else none
 else some ((mNew p inp none).wCode 3)
def playR (ro0:TI→Option (List (AL TI)))(S0:Sto (Tg TI))(w:World)(m':IM):Ending→World→Prop:=fun e w'=>∃(wb:Nat) (B:Base (DM wb .nilFunc none)) (S':Sto (Tg TI)),e=.returned (encT S' pmV)∧Rel B m' [] [] S' w'∧Kp S0 w S' w'∧(∀t:TI,(mdI (GM 0 .nilFunc none)).isro t=true→S'.loc (.m t)=S0.loc (.m t))∧roI m'=ro0
noncomputable def y0:Oper:=(opsOf c12).toList.getD 0 (default:Oper)
noncomputable def y1:Oper:=(opsOf c12).toList.getD 1 (default:Oper)
theorem c12_eq:c12=.region 12 (opsOf c12) false:=by kernel_rfl
theorem ops_c12:(opsOf c12).toList=[y0,y1]:=by kernel_rfl
theorem gd12:y0.guard=none∧y1.guard=none:=⟨by kernel_rfl,by kernel_rfl⟩
theorem ds12:y0.dst=some 57∧y1.dst=none:=⟨by kernel_rfl,by kernel_rfl⟩
theorem v0 (ρ:Operand→Value)(w:World):(execOp ρ y0).run PG w=.ok (.value (.func (.func 85) #[] #[ρ (.tmp 6)])) w:=by kernel_rfl
abbrev dfr (v:Value):Deferred:={target:=.fn (.func 85) #[v],args:=#[]}
theorem v1 (a:Act)(v:Value)(w:World)(h:a.eval (.tmp 57)=.func (.func 85) #[] #[v]):(execOp a.eval y1).run PG w=.ok (.defer (dfr v)) w:=by
 have e:y1.op=.defer {callee:=.value (.tmp 57),args:=#[],argTypes:=#[]}:=by kernel_rfl
 simp only[execOp,e];unfold resolve
 have hm:(Array.map a.eval #[])=#[]:=by simp
 simp only[h,hm];rfl
theorem v2 (v:Value)(w:World):(invoke (.fn (.func 85) #[v]) #[]).run PG w=.ok (.enter 85 #[v]) w:=by kernel_rfl
theorem endQ_then' {J:Act→World→Prop}{Q:Post}{c:Code}{a:Act}{w:World}(h:c.wp PG (endQ J) a w):c.wp PG (Exit.then J Q) a w:=wp_mono h endQ_then
theorem start0 {p:_root_.Beat.Plan}{inp:_root_.Beat.Input}{S0:Sto (Tg TI)}{w:World}(hro:∀t cs,roI (mNew p inp none) t=some cs→RoAt S0 w t ((MI YM).sz t) cs)(hown:∀b,S0.own b=none):
  Rel (D:=D0) ⟨S0,w,mNew p inp none,[],[]⟩ (mNew p inp none) [] [] S0 w:=
 have hH:Holds (metaA D0 []) S0 w.heap (encC S0 (contA (D:=D0) (mNew p inp none) [] [])):=fun t cs ht=>by
  cases t with
  |loc j=>cases ht
  |m t=>
   have e:contA (D:=D0) (mNew p inp none) [] [] (.m t)=none:=by
    unfold contA;exact if_neg List.not_mem_nil
   unfold encC at ht;rw[e] at ht
   cases ht
 ⟨hH,fun b _=>hown b,Kp.refl _ _,hro,trivial,fun _ _=>rfl,fun _ _ h=>h,rfl,fun _ _ _=>rfl⟩
theorem cell_loc {wb:Nat}{hv:Value}{hk:Option Int}{B:Base (DM wb hv hk)}{m:IM}{L:List (LObj TI)}{dk:List TI}{S:Sto (Tg TI)}{w:World}(R:Rel B m L dk S w):S.loc (.m .cell)=B.S.loc (.m .cell):=R.stab TI.cell (.inl ⟨rfl,rfl⟩)
theorem cell_results {wb:Nat}{hv:Value}{hk:Option Int}{B:Base (DM wb hv hk)}{m:IM}{S:Sto (Tg TI)}{w:World}{a:Act}{ds:List Deferred}(R:Rel B m [] [] S w)(hF:FrmA Try.f66.ntmps ds a S [(6,clV)]):(results Try.f66 a.tmps).run PG w=.ok (encT S pmV) w:=by
 obtain⟨xs,h1,h2⟩:=run_results (s:=⟨[(6,clV)],m,[],[]⟩) (fn:=Try.f66) (tabAOk.at pkA gkA) (mdI_ok _) hF R (κ:=some) (x:=[.inl (.p (.m .mach) 0 1 0)]) (by kernel_rfl)
 cases h1
 exact h2
theorem enc_p {S S':Sto (Tg TI)}{t t':Tg TI}(h:S'.loc t'=S.loc t):encT S (.l (.p t 0 1 0))=encT S' (.l (.p t' 0 1 0)):=by simp[encT,encL,h]
theorem frm6 {n:Nat}{ds:List Deferred}{a:Act}{S:Sto (Tg TI)}{fr:AFr TI}(hF:FrmA n ds a S fr)(h6:lookA fr 6=some clV):FrmA n ds a S [(6,clV)]:=⟨hF.defs,hF.size,fun t v ht=>by
 by_cases h:t=6
 ·subst h;cases ht;exact hF.get _ _ h6
 ·simp[lookA,Ne.symm h] at ht⟩
section
variable {F g:Nat} {p:_root_.Beat.Plan} {inp:_root_.Beat.Input} {S0:Sto (Tg TI)} {w:World} {m':IM}
abbrev obs (p:_root_.Beat.Plan)(inp:_root_.Beat.Input):List (LObj TI):=[obPl p.bodies.length p.rooms.length p.slice,obIn inp.feed.length inp.ticks inp.until_,obHk .nilFunc]
theorem play_tail {wb:Nat}(hN:CtrOk (D:=DM wb .nilFunc none) PG 99 (cNote wb .nilFunc none)){S2:Sto (Tg TI)}{w2:World}{m0 m1:IM}{ro0:TI→Option (List (AL TI))}(h0:roI m0=ro0)(hs:m0.spawn 0=some m1){q:IM×Int}(hq:IM.mainQ F g (m1.wFed (some 0))=some q)(h1:q.1.tasks.length<1000000)(h2:q.1.states.length<1000000)(k2:Kp S0 w S2 w2)(r2:∀t:TI,(mdI (GM 0 .nilFunc none)).isro t=true→S2.loc (.m t)=S0.loc (.m t)){st0:IM}{S5:Sto (Tg TI)}{a5:Act}{w5:World}(R5:Rel (D:=DM wb .nilFunc none) ⟨S2,w2,st0,pkA,gkA⟩ m0 (obs p inp) [] S5 w5)(hF5:FrmA Try.f66.ntmps [] a5 S5 [(6,clV)]):
  (Code.seq c12 (.seq gD.c (.seq gE.c cL))).wp PG (bodyPostD PG Try.f66 (playR ro0 S0 w (q.1.finQ q.2))) a5 w5:=by
 have nilK:∀(a:Act) (w:World) (Q':Post),postK PG (fun _=>True) [] Q'=Q':=fun a w Q'=>by funext e a w;cases e<;>rfl
 have of:∀{K:List KI} {Q':Post} {a:Act} {w:World} {c:Code},WPK PG (fun _=>True) (.code c::K) Q' a w→c.wp PG (postK PG (fun _=>True) K Q') a w:=fun h=>by rw[WPK_code] at h;exact h
 have to:∀{K:List KI} {Q':Post} {a:Act} {w:World} {c:Code},c.wp PG (postK PG (fun _=>True) K Q') a w→WPK PG (fun _=>True) (.code c::K) Q' a w:=fun h=>by rw[WPK_code];exact h
 have TA:TabA.Ok PG (tabA.at pkA gkA):=tabAOk.at _ _;rw[←nilK a5 w5 (bodyPostD PG Try.f66 _)]
 refine of ?_
 refine K_seq ?_
 rw[c12_eq]
 refine K_region ?_
 rw[WPK_ops,ops_c12]
 refine wpList_val (wanted_of gd12.1) (v0 _ _) ?_
 have ev6:a5.eval (.tmp 6)=encT S5 clV:=hF5.eval (x:=.tmp 6) (v:=clV) rfl;rw[ev6,ds12.1];have hF6:=hF5.put (d:=57) (of_decide_eq_true rfl) (v:=.l (.v (.func (.func 85) #[] #[encT S5 clV]))) (u:=.func (.func 85) #[] #[encT S5 clV]) (fun v' h=>by cases h;rfl);generalize (a5.put (some 57) _)=a6 at hF6;have ev57:a6.eval (.tmp 57)=.func (.func 85) #[] #[encT S5 clV]:=hF6.eval (x:=.tmp 57) (v:=.l (.v (.func (.func 85) #[] #[encT S5 clV]))) rfl;unfold wpList;rw[if_pos (wanted_of gd12.2)]
 refine .inl ?_
 unfold Oper.wp;rw[v1 a6 _ w5 ev57];simp only[Oper.upon,ds12.2];unfold wpList
 have hF7:FrmA Try.f66.ntmps [dfr (encT S5 clV)] (({a6 with defers:=dfr (encT S5 clV)::a6.defers}:Act).put none undef) S5 [(6,clV)]:=by
  have h:=frm6 hF6 rfl;refine⟨?_,h.size,h.get⟩
  show dfr (encT S5 clV)::a6.defers=_
  rw[h.defs]
 generalize (({a6 with defers:=dfr (encT S5 clV)::a6.defers}:Act).put none undef)=a7 at hF7
 show WPK PG (fun _=>True) [.code (.seq gD.c (.seq gE.c cL))] _ a7 w5
 refine to ?_
 rw[nilK a7 w5]
 refine wp_seq (endQ_then' (seg_wp (D:=DM wb .nilFunc none) (d:=gD) TA (mdI_ok _) mixOk (opJ_ok) (EnvOk.cons spawn_ok EnvOk.nil) LpOk.nil (by kernel_rfl) rfl rfl (o:=nrmM [(6,clV)] m1 (obs p inp) []) ((rawD m0 _ _ _ _ _ _ _).trans (by rw[hs];rfl)) (endQ_put (J:=(Code.seq gE.c cL).wp PG _)) (fun S8 a8 w8 hF8 R8=>?_) hF7 R5))
 show (Code.seq gE.c cL).wp PG _ a8 w8
 refine wp_seq (endQ_then' (seg_wp (D:=DM wb .nilFunc none) (d:=gE) TA (mdI_ok _) mixOk (opJ_ok) EnvOk.nil LpOk.nil (by kernel_rfl) rfl rfl (o:=nrmM [(6,clV),(9,lcV 3)] m1 [obPl p.bodies.length p.rooms.length p.slice,obIn inp.feed.length inp.ticks inp.until_,obHk .nilFunc,⟨3,1,true,some (.cells [.v (i64 0)])⟩] []) (rawE m1 _ _ _ _ _ _ .nilFunc) (endQ_put (J:=cL.wp PG _)) (fun S9 a9 w9 hF9 R9=>?_) hF8 R8))
 show cL.wp PG _ a9 w9
 obtain⟨S10,R10,hl1,hl2,hl3,hown⟩:=fed_rel R9 (fun o ho=>by
   rcases List.mem_cons.1 ho with rfl|ho
   ·rfl
   ·rcases List.mem_cons.1 ho with rfl|ho
    ·rfl
    ·rcases List.mem_cons.1 ho with rfl|ho
     ·rfl
     ·cases ho) pkA gkA
 have hF10:FrmA Try.f66.ntmps [dfr (encT S5 clV)] a9 S10 fr69:=⟨hF9.defs,hF9.size,fun t v ht=>by
  by_cases h6:t=6
  ·subst h6;cases ht
   refine (hF9.get 6 clV rfl).trans ?_
   exact enc_p (hl3 TI.cell nofun)
  ·by_cases h9:t=9
   ·subst h9;cases ht
    refine (hF9.get 9 (lcV 3) rfl).trans ?_
    exact enc_p hl2
   ·simp[lookA,Ne.symm h6,Ne.symm h9] at ht⟩
 have hloc:S10.loc (.m .cell)=S5.loc (.m .cell):=(hl3 TI.cell nofun).trans ((cell_loc R9).trans (cell_loc R5).symm)
 refine main_wp (m':=q.1) (c':=q.2) (turn_ok hN (step_ok hN) finish_ok F) (pass_ok hN F) (B:=⟨S10,w9,m1.wFed (some 0),pkA,gkA⟩) rfl rfl (fun S11 a11 w11 hF11 R11=>?_) g (m1.wFed (some 0)) S10 a9 w9 hq hF10 R10
 show Leaves PG Try.f66 a11.tmps _ a11.defers _ w11
 rw[hF11.defs];have hloc2:S11.loc (.m .cell)=S5.loc (.m .cell):=(cell_loc R11).trans hloc;have hv:encT S5 clV=encT S11 clV:=enc_p hloc2;rw[hv]
 refine leaves_cons (by simp) (v2 _ _) ((over_ok rfl rfl h1 h2 (R11.forget 0)).mono fun e u' w' he=>?_)
 obtain⟨rfl,rfl,S12,R12⟩:=he
 have hF12:FrmA Try.f66.ntmps [dfr (encT S11 clV)] a11 S12 [(6,clV)]:=⟨hF11.defs.trans (by rw[hv]),hF11.size,fun t v ht=>by
  by_cases h6:t=6
  ·subst h6;cases ht
   refine (hF11.get 6 clV rfl).trans ?_
   have:S12.loc (.m .cell)=S11.loc (.m .cell):=(cell_loc R12).trans (cell_loc R11).symm;exact enc_p this
  ·simp[lookA,Ne.symm h6] at ht⟩
 refine⟨_,cell_results R12 hF12,wb,_,S12,rfl,R12,?_,fun t ht=>((R12.stab t (.inr ht)).trans (hl3 t (by rintro rfl;cases ht))).trans ((R9.stab t (.inr ht)).trans (r2 t ht)),?_⟩;have k9:Kp S2 w2 S9 w9:=R9.kp;have k10:Kp S9 w9 S10 w9:=⟨rfl,rfl,rfl,Nat.le_refl _,fun b _=>hown b,fun _ _ _=>rfl⟩
 ·exact (k2.trans k9).trans (k10.trans R12.kp)
 ·have e1:roI m1=roI m0:=by
   simp only[IM.spawn,bind,Option.bind_eq_some_iff,Option.some.injEq] at hs;obtain⟨_,_,_,_,rfl⟩:=hs
   funext u
   cases u<;>rfl
  have e2:roI (m1.wFed (some 0))=roI m1:=by funext u;cases u<;>rfl
  exact (R12.rob.trans (e2.trans e1)).trans h0
end
end Go.Beat
end
section
namespace Go.Beat
open Go _root_.Beat Go.Proofs
attribute [local simp] int_beq int_bne ble_dec
set_option maxRecDepth 100000
theorem setCell_same {w:World}{ad:Addr}{v:Value}(h:w.cell? ad=some v):w.setCell ad v=w:=by
 obtain⟨b,off,spot⟩:=ad;unfold World.cell? at h
 simp only at h
 split at h
 ·rename_i c e f hb
  cases spot with
  |some s=>simp at h
  |none=>
   simp only[Option.isSome_none,Bool.false_eq_true,if_false] at h
   have hc:c.setIfInBounds off v=c:=by
    apply Array.ext_getElem?
    intro j;rw[Array.getElem?_setIfInBounds]
    split
    ·rename_i hj
     subst hj;rw[h,if_pos (Array.getElem?_eq_some_iff.1 h).1]
    ·rfl
   have hh:(w.setCell ⟨b,off,none⟩ v).heap=w.heap:=by
    unfold World.setCell
    apply Array.ext_getElem?
    intro j;simp only[Array.getElem?_modify]
    split
    ·rename_i hj
     subst hj;rw[hb];simp[hc]
    ·rfl
   cases w
   simp only[World.setCell] at hh ⊢;rw[hh]
 ·cases h
noncomputable def z0:Oper:=(opsOf cA4).toList.getD 0 (default:Oper)
noncomputable def z1:Oper:=(opsOf cA4).toList.getD 1 (default:Oper)
theorem cA4_eq:cA4=.region 4 (opsOf cA4) false:=by kernel_rfl
theorem ops_cA4:(opsOf cA4).toList=[z0]++[z1]:=by kernel_rfl
theorem gd4:z1.guard=none:=by kernel_rfl
theorem z1_op:z1.op=.store 110 (.tmp 6) (.tmp 30):=by kernel_rfl
theorem z1_dst:z1.dst=none:=by kernel_rfl
section
variable {wb:Nat}
theorem raw_z0 (m:IM)(nb nr nf:Nat)(sl t u:Int):opsP (D:=DM wb .nilFunc none) (tabA.at pkA gkA) (envOf (opJ _) [] (AS (DM wb .nilFunc none))) Try.f66.ntmps (opsOf cA4) [z0] ⟨zipK [3,4,5,6] lc36,m,[obPl nb nr sl,obIn nf t u,obHk .nilFunc],[]⟩ some (fun _ _=>none)=some ⟨(30,pmV)::zipK [3,4,5,6] lc36,m,[obPl nb nr sl,obIn nf t u,obHk .nilFunc],[]⟩:=by kernel_rfl
theorem cA4_wp {B:Base (DM wb .nilFunc none)}(hpk:B.pk=pkA)(hgk:B.gk=gkA){m:IM}{nb nr nf:Nat}{sl t u:Int}{S:Sto (Tg TI)}{w:World}{a:Act}(R:Rel B m [obPl nb nr sl,obIn nf t u,obHk .nilFunc] [] S w)(hF:FrmA Try.f66.ntmps [] a S (zipK [3,4,5,6] lc36)){J:Act→World→Prop}(next:∀S' a' w',Rel B m [obPl nb nr sl,obIn nf t u,obHk .nilFunc] [] S' w'→FrmA Try.f66.ntmps [] a' S' [(6,clV)]→J a' w'):cA4.wp PG (endQ J) a w:=by
 rw[cA4_eq]
 refine wp_region_list ?_
 rw[ops_cA4]
 refine wpList_append ?_
 have hC:CallOk (D:=DM wb .nilFunc none) PG (envOf (opJ _) [] (AS (DM wb .nilFunc none))):=envOf_ok (opJ_ok) EnvOk.nil _
 refine opsP_ok (D:=DM wb .nilFunc none) (tabAOk.at _ _) (mdI_ok _) hC (n:=Try.f66.ntmps) (ds:=[]) (B:=B) hpk.symm hgk.symm (κ:=some) (κp:=fun _ _=>none) (fun s' S1 a1 w1 h1 hF1 R1=>?_) (fun _ _ _ _ _ h=>by cases h) _ _ _ _ _ (raw_z0 m nb nr nf sl t u) hF R
 cases h1
 show wpList PG _ _ [z1] a1 w1
 unfold wpList;rw[if_pos (wanted_of gd4)]
 refine .inl ?_
 have hH:=R1.H (.m .cell) [encL S1 (.p (.m .mach) 0 1 0)] (by
  have e:contA (D:=DM wb .nilFunc none) m [] [obPl nb nr sl,obIn nf t u,obHk .nilFunc] (.m .cell)=some [.p (.m .mach) 0 1 0]:=by
   unfold contA;exact if_neg List.not_mem_nil
  unfold encC;rw[e]
  rfl)
 obtain⟨hnil,hoff⟩:=hH.fix rfl;obtain⟨_,pre,post,hb,hpl,_⟩:=hH.blk hnil;have hpre:pre=[]:=List.eq_nil_of_length_eq_zero (by rw[hpl];exact hoff);subst hpre
 have hcell:w1.cell? ⟨(S1.loc (.m .cell)).b,(S1.loc (.m .cell)).off+0*1+0,none⟩=some (encL S1 (.p (.m .mach) 0 1 0)):=by
  unfold World.cell?;rw[hb,hoff];rfl
 have hfz:w1.frozen? ⟨(S1.loc (.m .cell)).b,(S1.loc (.m .cell)).off+0*1+0,none⟩=false:=HoldsAt.frozen hH hnil _ rfl;have hst:=run_storeVar_sca (P:=PG) (t:=110) (by kernel_rfl) (v:=encL S1 (.p (.m .mach) 0 1 0)) rfl hcell hfz;rw[setCell_same hcell] at hst;have e6:a1.eval (.tmp 6)=.pointer (some ⟨(S1.loc (.m .cell)).b,(S1.loc (.m .cell)).off+0*1+0,none⟩):=hF1.eval (x:=.tmp 6) (v:=clV) rfl;have e30:a1.eval (.tmp 30)=encL S1 (.p (.m .mach) 0 1 0):=hF1.eval (x:=.tmp 30) (v:=pmV) rfl
 have e:(execOp a1.eval z1).run PG w1=.ok .skip w1:=by
  simp only[execOp,z1_op,e6,e30,Instr.storeAt,Instr.sureAddr,Sem.run_bind];simp only[Nat.zero_mul,Nat.add_zero] at hst;simp[hst]
 unfold Oper.wp;rw[e];simp only[Oper.upon,z1_dst];unfold wpList;exact next S1 _ w1 R1 (frm6 (fr:=(30,pmV)::zipK [3,4,5,6] lc36) ⟨hF1.defs,hF1.size,hF1.get⟩ rfl)
theorem lookA4 {t:Nat}{v:TV TI}(h:lookA (zipK [3,4,5,6] lc36) t=some v):(t=3∧v=lcV 0)∨(t=4∧v=lcV 1)∨(t=5∧v=lcV 2)∨(t=6∧v=clV):=look36 h
theorem rooms_of {p:_root_.Beat.Plan}(h:planOkI p=⟨0,0,0⟩):p.rooms.length<100:=by
 unfold planOkI at h
 split at h
 ·cases h
 ·split at h
  ·cases h
  ·omega
end
theorem play_calls {F g:Nat}{p:_root_.Beat.Plan}{inp:_root_.Beat.Input}{S0:Sto (Tg TI)}{w:World}{m':IM}(hro:∀t cs,roI (mNew p inp none) t=some cs→RoAt S0 w t ((MI YM).sz t) cs)(hown:∀b,S0.own b=none)(hnil:∀t:TI,(mdI (GM 0 .nilFunc none)).isro t=false→S0.loc (.m t)=SL.none)(h:IM.playQ F g p inp=some m'):Calls PG 66 #[encT S0 (plnV p.bodies.length p.rooms.length p.slice),encT S0 (inpV inp.feed.length inp.ticks inp.until_),.nilFunc] w (playR (roI (mNew p inp none)) S0 w m'):=by
 refine calls_of_wp_defers (fn:=Try.f66) (c:=bd Try.f66) (by kernel_rfl) (by kernel_rfl) ?_
 have hF0:FrmA Try.f66.ntmps [] {tmps:=#[encT S0 (plnV p.bodies.length p.rooms.length p.slice),encT S0 (inpV inp.feed.length inp.ticks inp.until_),.nilFunc]++Array.replicate (Try.f66.ntmps - #[encT S0 (plnV p.bodies.length p.rooms.length p.slice),encT S0 (inpV inp.feed.length inp.ticks inp.until_),.nilFunc].size) undef,defers:=[]} S0 (argsFr 0 [plnV p.bodies.length p.rooms.length p.slice,inpV inp.feed.length inp.ticks inp.until_,.l (.v .nilFunc)]):=frm_args (vs:=[plnV p.bodies.length p.rooms.length p.slice,inpV inp.feed.length inp.ticks inp.until_,.l (.v .nilFunc)]) (of_decide_eq_true rfl);generalize ({tmps:=#[encT S0 (plnV p.bodies.length p.rooms.length p.slice),encT S0 (inpV inp.feed.length inp.ticks inp.until_),.nilFunc]++Array.replicate (Try.f66.ntmps - #[encT S0 (plnV p.bodies.length p.rooms.length p.slice),encT S0 (inpV inp.feed.length inp.ticks inp.until_),.nilFunc].size) undef,defers:=[]}:Act)=a0 at hF0;have TA:TabA.Ok PG (tabA.at pkA gkA):=tabAOk.at _ _;rw[c_eq]
 refine wp_seq (endQ_then' (seg_wp (D:=D0) (d:=g0) (tabAOk.at [] []) (mdS_ok _) mixOk noOp_ok EnvOk.nil LpOk.nil (by kernel_rfl) rfl rfl ((play_r0 (mNew p inp none) _ _ _ _ _ _ .nilFunc).trans rfl) (endQ_put (J:=(Code.seq c1 c2).wp PG _)) (fun S1 a1 w1 hF1 R1=>?_) hF0 (start0 hro hown)))
 show (Code.seq c1 c2).wp PG _ a1 w1
 refine wp_seq (endQ_then' (play_r1 R1 hF1 (fun t ht=>(R1.turn t rfl (fun h=>by cases h)).trans (hnil t ht)) pkA gkA fun wb S2 a2 w2 R2 hF2 k2 l2=>?_))
 have r02:∀t:TI,(mdI (GM 0 .nilFunc none)).isro t=true→S2.loc (.m t)=S0.loc (.m t):=fun t ht=>(l2 t ht).trans (R1.stab t (.inr ht))
 have hN:CtrOk (D:=DM wb .nilFunc none) PG 99 (cNote wb .nilFunc none):=note_ok;have k02:Kp S0 w S2 w2:=R1.kp.trans k2;rw[c2_eq]
 refine wp_seq ?_
 rw[cA_eq];unfold IM.playQ at h
 by_cases hok:planOkI p=⟨0,0,0⟩∧inputOkI p inp=true
 ·rw[if_pos hok] at h
  have e1:planOkI (mNew p inp none).p=⟨0,0,0⟩:=hok.1;have e2:inputOkI (mNew p inp none).p (mNew p inp none).inp=true:=hok.2
  have hsegA:segF (D:=DM wb .nilFunc none) (opJ _) (tabA.at pkA gkA) [(24,cPlanOk wb .nilFunc none),(20,cInputOk wb .nilFunc none)] [] wk66 600 Try.f66.ntmps gA lc36 (mNew p inp none) (obs p inp) []=
    some (nrmM [(3,lcV 0),(4,lcV 1),(5,lcV 2),(6,clV),(25,.l (.v (.bool false)))] (mNew p inp none) (obs p inp) []):=(rawA (mNew p inp none) _ _ _ _ _ _ .nilFunc).trans (by
   rw[if_pos ⟨rfl,rfl,rfl⟩,e1,if_pos ⟨rfl,rfl,rfl,rfl⟩,e2]
   rfl)
  split at h
  ·cases h
  ·rename_i m1 hs
   split at h
   ·cases h
   ·rename_i q hq
    split at h
    case isFalse=>cases h
    rename_i hlen;simp only[Option.some.injEq] at h;subst h
    refine wp_seq (endQ_then' (seg_wp (D:=DM wb .nilFunc none) (d:=gA) TA (mdI_ok _) mixOk (opJ_ok) (EnvOk.cons planok_ok (EnvOk.cons input_ok EnvOk.nil)) LpOk.nil (by kernel_rfl) rfl rfl hsegA (endQ_put (J:=(Code.cond (.tmp 25) cA3 .skip).wp PG _)) (fun S3 a3 w3 hF3 R3=>?_) hF2 R2))
    show (Code.cond (.tmp 25) cA3 .skip).wp PG _ a3 w3
    have ev25:a3.eval (.tmp 25)=.bool false:=hF3.eval (x:=.tmp 25) (v:=.l (.v (.bool false))) rfl
    refine wp_cond ev25 ?_
    simp only[Bool.false_eq_true,if_false]
    refine wp_skip ?_
    show (Code.seq gB.c (.seq gC.c (.seq c12 (.seq gD.c (.seq gE.c cL))))).wp PG _ a3 w3
    have hF3':FrmA Try.f66.ntmps [] a3 S3 (zipK [3,4,5,6] lc36):=⟨hF3.defs,hF3.size,fun t v ht=>by
     rcases lookA4 ht with ⟨rfl,rfl⟩|⟨rfl,rfl⟩|⟨rfl,rfl⟩|⟨rfl,rfl⟩
     ·exact hF3.get _ _ rfl
     ·exact hF3.get _ _ rfl
     ·exact hF3.get _ _ rfl
     ·exact hF3.get _ _ rfl⟩
    refine wp_seq (endQ_then' (seg_wp (D:=DM wb .nilFunc none) (d:=gB) TA (mdI_ok _) mixOk (opJ_ok) EnvOk.nil LpOk.nil (by kernel_rfl) rfl rfl (o:=nrmM [(3,lcV 0),(4,lcV 1),(5,lcV 2),(6,clV)] (mNew p inp none) (obs p inp) []) (rawB (mNew p inp none) _ _ _ _ _ _) (endQ_put (J:=(Code.seq gC.c (.seq c12 (.seq gD.c (.seq gE.c cL)))).wp PG _)) (fun S4 a4 w4 hF4 R4=>?_) hF3' R3))
    show (Code.seq gC.c (.seq c12 (.seq gD.c (.seq gE.c cL)))).wp PG _ a4 w4
    refine wp_seq (endQ_then' (seg_wp (D:=DM wb .nilFunc none) (d:=gC) TA (mdI_ok _) mixOk (opJ_ok) EnvOk.nil (chan_lp LpOk.nil rfl) (by kernel_rfl) rfl rfl (o:=nrmM [(6,clV)] ((mNew p inp none).wChansL (p.rooms.map fun r=>{room:=r})) (obs p inp) []) ((rawC (mNew p inp none) _ _ _ _ _ _ .nilFunc).trans (if_pos ⟨rfl,rfl,rooms_of hok.1,rfl⟩)) (endQ_put (J:=(Code.seq c12 (.seq gD.c (.seq gE.c cL))).wp PG _)) (fun S5 a5 w5 hF5 R5=>?_) hF4 R4))
    exact play_tail hN (by funext u;cases u<;>rfl) hs hq hlen.1 hlen.2 k02 r02 R5 hF5
 ·rw[if_neg hok] at h
  simp only[Option.some.injEq] at h;subst h
  have hsegA:segF (D:=DM wb .nilFunc none) (opJ _) (tabA.at pkA gkA) [(24,cPlanOk wb .nilFunc none),(20,cInputOk wb .nilFunc none)] [] wk66 600 Try.f66.ntmps gA lc36 (mNew p inp none) (obs p inp) []=
    some (nrmM [(3,lcV 0),(4,lcV 1),(5,lcV 2),(6,clV),(25,.l (.v (.bool true)))] (mNew p inp none) (obs p inp) []):=(rawA (mNew p inp none) _ _ _ _ _ _ .nilFunc).trans (by
   rw[if_pos ⟨rfl,rfl,rfl⟩]
   by_cases e1:planOkI p=⟨0,0,0⟩
   ·have e1':planOkI (mNew p inp none).p=⟨0,0,0⟩:=e1
    have e2:inputOkI (mNew p inp none).p (mNew p inp none).inp=false:=by
     cases hb:inputOkI p inp with
     |true=>exact absurd ⟨e1,hb⟩ hok
     |false=>exact hb
    rw[e1',if_pos ⟨rfl,rfl,rfl,rfl⟩,e2];rfl
   ·have e3:eqL [(planOkI (mNew p inp none).p).code,(planOkI (mNew p inp none).p).body,(planOkI (mNew p inp none).p).step] [0,0,0]=false:=by
     cases hb:eqL [(planOkI (mNew p inp none).p).code,(planOkI (mNew p inp none).p).body,(planOkI (mNew p inp none).p).step] [0,0,0] with
     |false=>rfl
     |true=>
      refine absurd ?_ e1
      simp only[eqL,Bool.and_true,Bool.and_eq_true,beq_iff_eq] at hb;have h1:planOkI p=⟨(planOkI p).code,(planOkI p).body,(planOkI p).step⟩:=rfl;rw[h1];have hb':(planOkI p).code=0∧(planOkI p).body=0∧(planOkI p).step=0:=hb;rw[hb'.1,hb'.2.1,hb'.2.2]
    rw[e3]
    rfl)
  refine wp_seq (endQ_then' (seg_wp (D:=DM wb .nilFunc none) (d:=gA) TA (mdI_ok _) mixOk (opJ_ok) (EnvOk.cons planok_ok (EnvOk.cons input_ok EnvOk.nil)) LpOk.nil (by kernel_rfl) rfl rfl hsegA (endQ_put (J:=(Code.cond (.tmp 25) cA3 .skip).wp PG _)) (fun S3 a3 w3 hF3 R3=>?_) hF2 R2))
  show (Code.cond (.tmp 25) cA3 .skip).wp PG _ a3 w3
  have ev25:a3.eval (.tmp 25)=.bool true:=hF3.eval (x:=.tmp 25) (v:=.l (.v (.bool true))) rfl
  refine wp_cond ev25 ?_
  simp only[if_true];rw[cA3_eq]
  have hF3':FrmA Try.f66.ntmps [] a3 S3 (zipK [3,4,5,6] lc36):=⟨hF3.defs,hF3.size,fun t v ht=>by
   rcases lookA4 ht with ⟨rfl,rfl⟩|⟨rfl,rfl⟩|⟨rfl,rfl⟩|⟨rfl,rfl⟩
   ·exact hF3.get _ _ rfl
   ·exact hF3.get _ _ rfl
   ·exact hF3.get _ _ rfl
   ·exact hF3.get _ _ rfl⟩
  refine wp_seq (endQ_then' (seg_wp (D:=DM wb .nilFunc none) (d:=gA3) TA (mdI_ok _) mixOk (opJ_ok) EnvOk.nil LpOk.nil (by kernel_rfl) rfl rfl (o:=nrmM [(3,lcV 0),(4,lcV 1),(5,lcV 2),(6,clV)] ((mNew p inp none).wCode 3) (obs p inp) []) (rawA3 (mNew p inp none) _ _ _ _ _ _ .nilFunc) (endQ_put (J:=(Code.seq cA4 .ret).wp PG _)) (fun S4 a4 w4 hF4 R4=>?_) hF3' R3))
  show (Code.seq cA4 .ret).wp PG _ a4 w4
  refine wp_seq (endQ_then' (cA4_wp rfl rfl R4 hF4 fun S5 a5 w5 R5 hF5=>?_))
  refine wp_ret ?_
  show Leaves PG Try.f66 a5.tmps _ a5.defers .returning w5
  rw[hF5.defs];exact⟨_,cell_results (R5.forget 0) hF5,wb,_,S5,rfl,R5.forget 0,k02.trans R5.kp,fun t ht=>(R5.stab t (.inr ht)).trans (r02 t ht),by funext u;cases u<;>rfl⟩
end Go.Beat
end
section
namespace Go.Beat
open Go _root_.Beat Go.Proofs
attribute [local simp] int_beq int_bne ble_dec
set_option maxRecDepth 100000
def Sto.free (S:Sto (Tg TI)):Sto (Tg TI):={own:=fun _=>none,loc:=S.loc}
theorem free_enc (S:Sto (Tg TI))(v:TV TI):encT S.free v=encT S v:=by rw[encT_same (S:=S) (S':=S.free) rfl]
theorem free_encL (S:Sto (Tg TI))(a:AL TI):encL S.free a=encL S a:=by rw[encL_same (S:=S) (S':=S.free) rfl]
theorem free_ro {S:Sto (Tg TI)}{w:World}{t:TI}{sz:Nat}{cs:List (AL TI)}(r:RoAt S w t sz cs):RoAt S.free w t sz cs:=
 RoAt.moved r rfl (fun a _=>free_encL S a) fun _ _=>rfl
theorem play_called {F g:Nat}{p:_root_.Beat.Plan}{inp:_root_.Beat.Input}{S0 S1:Sto (Tg TI)}{w w1:World}{L:List (LObj TI)}{m':IM}(hnil:∀t:TI,(mdI (GM 0 .nilFunc none)).isro t=false→S0.loc (.m t)=SL.none)(R:Rel (D:=D0) ⟨S0,w,mNew p inp none,[],[]⟩ (mNew p inp none) L [] S1 w1)(h:IM.playQ F g p inp=some m'):
  Calls PG 66 #[encT S1 (plnV p.bodies.length p.rooms.length p.slice),encT S1 (inpV inp.feed.length inp.ticks inp.until_),.nilFunc] w1 (playR (roI (mNew p inp none)) S1.free w1 m'):=by
 have hro:∀t cs,roI (mNew p inp none) t=some cs→RoAt S1.free w1 t ((MI YM).sz t) cs:=fun t cs ht=>free_ro (R.ro t cs ht)
 have hn:∀t:TI,(mdI (GM 0 .nilFunc none)).isro t=false→S1.free.loc (.m t)=SL.none:=fun t ht=>(R.turn t rfl (fun h=>by cases h)).trans (hnil t ht)
 have:=play_calls (w:=w1) (S0:=S1.free) hro (fun _=>rfl) hn h;rw[free_enc,free_enc] at this;exact this
theorem play_kept {S0 S1 S':Sto (Tg TI)}{w w1 w':World}(hown:∀b,S0.own b=none)(k:Kp S0 w S1 w1)(k':Kp S1.free w1 S' w'):Kp S0 w S' w':=by
 refine⟨k'.os.trans k.os,k'.tape.trans k.tape,k'.output.trans k.output,Nat.le_trans k.size k'.size,fun b hb=>?_,fun b hb ho=>?_⟩
 ·have h1:S'.own b=none:=(k'.own b (by have:=k.size;omega)).2 rfl
  exact⟨fun _=>hown b,fun _=>h1⟩
 ·exact (k'.keep b (by have:=k.size;omega) rfl).trans (k.keep b hb ho)
theorem call66 {o:Oper}{i j:Nat}{ts:Array TypeId}(h:o.op=.call {callee:=.value (.func 66),args:=#[.tmp i,.tmp j,.const .nilFunc],argTypes:=ts})(a:Act)(w:World):
  (execOp a.eval o).run PG w=.ok (.enter 66 #[a.eval (.tmp i),a.eval (.tmp j),.nilFunc]) w:=by
 have hok:callOk PG 66=true:=by kernel_rfl
 simp[execOp,h,resolve,Act.eval,Deferred.ofValue,invoke,run_call hok]
end Go.Beat
end
section
namespace Go.Beat
open Go _root_.Beat Go.Proofs
attribute [local simp] int_beq int_bne ble_dec
set_option maxRecDepth 100000
variable {wb:Nat}
theorem Rel.own {D:Md}{B:Base D}{st:D.σ}{S:Sto (Tg D.τ)}{w:World}(R:Rel B st [] [] S w)(O:MdOk D){ob:LObj D.τ}{o:LO D.τ}(ho:ob.o=some o)(hob:ob.has (isLoc 0)=false){sl:SL}(hlen:∃n,o.flat.length=n*ob.sz∧n≤sl.cap)(hcap:sl.cap≤9223372036854775807)(hpos:0<ob.sz)(hnil:sl.nil=false)(hfix:ob.fix=true→sl.off=0)(hblk:∃pre post:List Value,w.heap[sl.b]?=some (.cells (pre++o.flat.map (encL S)++post).toArray ob.ty (0,0))∧pre.length=sl.off∧sl.cap*ob.sz≤(o.flat.map (encL S)++post).length)(hown:S.own sl.b=none)(hro:∀t cs,D.ro st t=some cs→cs≠[]→(S.loc (.m t)).b≠sl.b)(pk gk:List Nat):
  Rel ⟨S.put (.loc 0) sl,w,st,pk,gk⟩ st [ob] [] (S.put (.loc 0) sl) w∧(∀t,(S.put (.loc 0) sl).loc (.m t)=S.loc (.m t))∧Kp ⟨fun b=>if b=sl.b then none else S.own b,S.loc⟩ w ⟨fun b=>if b=sl.b then none else (S.put (.loc 0) sl).own b,S.loc⟩ w:=by
 have hl:∀t,isLoc 0 t=false→(S.put (.loc 0) sl).loc t=S.loc t:=fun t ht=>Sto.put_loc_ne S _ (locne ht)
 have hlm:∀t:D.τ,(S.put (.loc 0) sl).loc (.m t)=S.loc (.m t):=fun t=>hl (.m t) rfl
 have hne:∀{b:Nat},b≠sl.b→(S.put (.loc 0) sl).own b=S.own b:=fun h=>Sto.put_own S _ sl h
 have hsame:(S.put (.loc 0) sl).own sl.b=some (.loc 0):=by simp[Sto.put,hnil]
 have hcm:∀t,contA st [] [ob] (.m t)=contA (D:=D) st [] [] (.m t):=fun t=>rfl
 have hb:sl.b<w.heap.size:=by
  obtain⟨pre,post,h1,_⟩:=hblk;exact (Array.getElem?_eq_some_iff.1 h1).1
 refine⟨⟨fun t cs ht=>?_,fun b hb'=>?_,Kp.refl _ _,fun t cs ht=>?_,?_,fun _ _=>rfl,fun _ _ h=>h,rfl,fun _ _ _=>rfl⟩,hlm,⟨rfl,rfl,rfl,Nat.le_refl _,fun b _=>?_,fun _ _ _=>rfl⟩⟩
 ·cases t with
  |loc j=>
   match j,ht with
   |0,ht=>
    have e:encC (S.put (.loc 0) sl) (contA (D:=D) st [] [ob]) (.loc 0)=some (o.flat.map (encL (S.put (.loc 0) sl))):=by simp[encC,contA,ho]
    rw[e] at ht;simp only[Option.some.injEq] at ht;subst ht;rw[flat_enc hl hob ho];have hloc:(S.put (.loc 0) sl).loc (.loc 0)=sl:=Sto.put_loc S _ sl;have e1:(metaA D [ob]).ty (.loc 0)=ob.ty:=rfl;have e2:(metaA D [ob]).sz (.loc 0)=ob.sz:=rfl;have e3:(metaA D [ob]).fix (.loc 0)=ob.fix:=rfl;refine⟨?_,?_,?_,?_,?_,?_⟩
    ·rw[hloc,e2,List.length_map];exact hlen
    ·rw[hloc];exact hcap
    ·rw[e2];exact hpos
    ·rw[hloc,e3];exact fun h=>⟨hnil,hfix h⟩
    ·rw[hloc,hnil];exact fun h=>by cases h
    ·rw[hloc,e1,e2];exact fun _=>⟨hsame,hblk⟩
   |j+1,ht=>simp[encC,contA] at ht
  |m t=>
   have e:encC (S.put (.loc 0) sl) (contA (D:=D) st [] [ob]) (.m t)=encC S (contA (D:=D) st [] []) (.m t):=by
    have:=congrFun (cont_new (D:=D) (st:=st) (dk:=[]) (L:=[]) (S:=S) (S':=S.put (.loc 0) sl) O (j:=0) hl rfl) (.m t);exact (by simp only[encC,hcm]:encC (S.put (.loc 0) sl) (contA (D:=D) st [] [ob]) (.m t)=encC (S.put (.loc 0) sl) (contA (D:=D) st [] []) (.m t)).trans this
   rw[e] at ht;have H:=R.H (.m t) cs ht;refine⟨?_,?_,H.pos,?_,?_,?_⟩
   ·rw[hlm];exact H.len
   ·rw[hlm];exact H.cap
   ·rw[hlm];exact H.fix
   ·rw[hlm];exact H.nil
   ·rw[hlm]
    intro hn;obtain⟨h1,h2⟩:=H.blk hn;refine⟨?_,h2⟩;rw[hne (fun hh=>by rw[hh,hown] at h1;cases h1)];exact h1
 ·rw[hne (by omega)]
  exact R.fresh b hb'
 ·have r:=R.ro t cs ht
  refine r.moved (hlm t) (fun a ha=>?_) fun h _=>?_
  ·have:=O.rocell st t cs ht a ha
   cases a with
   |v x=>rfl
   |p=>exact this.elim
   |sl t' k s n=>
    cases t' with
    |m z=>simp only[encL,hlm]
    |loc j=>exact this.elim
  ·rw[hne (hro t cs ht h)]
   exact (r.own h).1
 ·refine O.exd st S w _ R.ex (fun b hb'=>?_) fun t _=>hlm t
  obtain⟨pre,post,h1,_⟩:=hblk;rw[hne (fun hh=>hb' _ _ _ (by rw[hh];exact h1))]
 ·by_cases h:b=sl.b
  ·simp[h]
  ·simp only[if_neg h,hne h]
noncomputable def rp0:SegD:=⟨seqL (bd Try.f27),[0,1],[2,3,4],[],3,0⟩
noncomputable def rp1:Code:=seqL (seqR (bd Try.f27))
noncomputable def rp2:Code:=seqR (seqR (bd Try.f27))
theorem rp_eq:bd Try.f27=.seq rp0.c (.seq rp1 rp2):=by kernel_rfl
theorem rp1_eq:rp1=.region 1 (opsOf rp1) false:=by kernel_rfl
theorem rp2_eq:rp2=.ret:=by kernel_rfl
noncomputable def rpc:Oper:=(opsOf rp1).toList.getD 2 (default:Oper)
theorem rpc_eq:(opsOf rp1).toList=(opsOf rp1).toList.take 2++(rpc::(opsOf rp1).toList.drop 3):=by kernel_rfl
theorem rpc_op:rpc.op=.call {callee:=.value (.func 66),args:=#[.tmp 5,.tmp 6,.const .nilFunc],argTypes:=#[35,39,139]}:=by kernel_rfl
theorem rpc_dst:rpc.dst=some 7:=by kernel_rfl
theorem rpc_guard:rpc.guard=none:=by kernel_rfl
abbrev obRp (cs:List (AL TI)):LObj TI:=⟨53,1,true,some (.cells cs)⟩
abbrev rp0C:List (AL TI):=[.v (i64 0),.v (.slice none 0 0),.v (i64 0),.v (i64 0),.v (.slice none 0 0)]
abbrev rpC (m:IM):List (AL TI):=[.v (i64 m.code),.sl (.m .recs) 0 4 m.recs.length,.v (i64 m.time),.v (i64 m.ticks),.sl (.m .states) 0 1 m.states.length]
theorem rp_r0 (m:IM)(nb nr n:Nat)(sl t u:Int):
 segF (D:=D0) (noOp _) (tabA.at [] []) [] [] wk0 100 Try.f27.ntmps rp0 [plnV nb nr sl,inpV n t u] m [] []=
  some (.norm ⟨[(2,lcV 0),(3,lcV 1),(4,lcV 2)],m,[obPl nb nr sl,obIn n t u,obRp rp0C],[]⟩):=by kernel_rfl
theorem rp_r1 (m:IM)(nb nr n:Nat)(sl t u:Int):
 opsP (D:=D0) (tabA.at [] []) (envOf (noOp _) [] (AS D0)) Try.f27.ntmps (opsOf rp1) ((opsOf rp1).toList.take 2) ⟨[(2,lcV 0),(3,lcV 1),(4,lcV 2)],m,[obPl nb nr sl,obIn n t u,obRp rp0C],[]⟩ some (fun _ _=>none)=
  some ⟨(6,inpV n t u)::(5,plnV nb nr sl)::[(2,lcV 0),(3,lcV 1),(4,lcV 2)],m,[obPl nb nr sl,obIn n t u,obRp rp0C],[]⟩:=by kernel_rfl
theorem rp_r2 {wb:Nat}(m:IM):opsP (D:=DM wb .nilFunc none) (tabA.at [] []) (envOf (noOp _) [] (AS (DM wb .nilFunc none))) Try.f27.ntmps (opsOf rp1) ((opsOf rp1).toList.drop 3) ⟨[(7,pmV),(4,lcV 0)],m,[obRp rp0C],[]⟩ some (fun _ _=>none)=
 some ⟨[(10,.agg (rpC m)),(9,.l (.p (.m .mach) 0 1 6)),(8,pmV),(7,pmV),(4,lcV 0)],m,[obRp (rpC m)],[]⟩:=by kernel_rfl
def leftM (S0:Sto (Tg TI))(w:World)(m':IM)(v:TV TI)(L:List (LObj TI)):Ending→World→Prop:=fun e w'=>∃(wb:Nat) (B:Base (DM wb .nilFunc none)) (S':Sto (Tg TI)),e=.returned (encT S' v)∧Rel B m' L [] S' w'∧Kp S0 w S' w'
theorem runplan_calls {F g:Nat}{p:_root_.Beat.Plan}{inp:_root_.Beat.Input}{S0:Sto (Tg TI)}{w:World}{m':IM}(hro:∀t cs,roI (mNew p inp none) t=some cs→RoAt S0 w t ((MI YM).sz t) cs)(hown:∀b,S0.own b=none)(hnil:∀t:TI,(mdI (GM 0 .nilFunc none)).isro t=false→S0.loc (.m t)=SL.none)(h:IM.playQ F g p inp=some m'):
  Calls PG 27 #[encT S0 (plnV p.bodies.length p.rooms.length p.slice),encT S0 (inpV inp.feed.length inp.ticks inp.until_)] w (leftM S0 w m' (.agg (rpC m')) [obRp (rpC m')]):=by
 refine calls_of_wp (fn:=Try.f27) (c:=bd Try.f27) (by kernel_rfl) (by kernel_rfl) ?_
 have hF:FrmA Try.f27.ntmps [] {tmps:=#[encT S0 (plnV p.bodies.length p.rooms.length p.slice),encT S0 (inpV inp.feed.length inp.ticks inp.until_)]++Array.replicate (Try.f27.ntmps - #[encT S0 (plnV p.bodies.length p.rooms.length p.slice),encT S0 (inpV inp.feed.length inp.ticks inp.until_)].size) undef,defers:=[]} S0 (argsFr 0 [plnV p.bodies.length p.rooms.length p.slice,inpV inp.feed.length inp.ticks inp.until_]):=frm_args (vs:=[plnV p.bodies.length p.rooms.length p.slice,inpV inp.feed.length inp.ticks inp.until_]) (of_decide_eq_true rfl);generalize ({tmps:=#[encT S0 (plnV p.bodies.length p.rooms.length p.slice),encT S0 (inpV inp.feed.length inp.ticks inp.until_)]++Array.replicate (Try.f27.ntmps - #[encT S0 (plnV p.bodies.length p.rooms.length p.slice),encT S0 (inpV inp.feed.length inp.ticks inp.until_)].size) undef,defers:=[]}:Act)=a at hF;rw[rp_eq]
 refine wp_seq (endQ_then' (seg_wp (D:=D0) (d:=rp0) (tabAOk.at [] []) (mdS_ok _) mixOk noOp_ok EnvOk.nil LpOk.nil (by kernel_rfl) rfl rfl (rp_r0 (mNew p inp none) _ _ _ _ _ _) (endQ_put (J:=(Code.seq rp1 rp2).wp PG _)) (fun S1 a1 w1 hF1 R1=>?_) hF (start0 hro hown)))
 show (Code.seq rp1 rp2).wp PG _ a1 w1
 refine wp_seq ?_
 rw[rp1_eq]
 refine wp_region_list ?_
 rw[rpc_eq]
 refine wpList_append ?_
 have hC0:CallOk (D:=D0) PG (envOf (noOp _) [] (AS D0)):=envOf_ok noOp_ok EnvOk.nil _
 refine opsP_ok (D:=D0) (tabAOk.at _ _) (mdS_ok _) hC0 (n:=Try.f27.ntmps) (ds:=[]) (B:=⟨S0,w,mNew p inp none,[],[]⟩) rfl rfl (κ:=some) (κp:=fun _ _=>none) (fun s' S2 a2 w2 h2 hF2 R2=>?_) (fun _ _ _ _ _ h=>by cases h) _ _ _ _ _ (rp_r1 (mNew p inp none) _ _ _ _ _ _) hF1 R1
 cases h2
 show wpList PG _ _ (rpc::(opsOf rp1).toList.drop 3) a2 w2
 unfold wpList;rw[if_pos (wanted_of rpc_guard)]
 refine .inl ?_
 unfold Oper.wp;rw[call66 rpc_op];have ei:a2.eval (.tmp 5)=encT S2 (plnV p.bodies.length p.rooms.length p.slice):=hF2.eval (x:=.tmp 5) (v:=plnV p.bodies.length p.rooms.length p.slice) rfl;have ej:a2.eval (.tmp 6)=encT S2 (inpV inp.feed.length inp.ticks inp.until_):=hF2.eval (x:=.tmp 6) (v:=inpV inp.feed.length inp.ticks inp.until_) rfl;rw[ei,ej];simp only[Oper.upon]
 -- the report's box
 have H2:=R2.atLoc (j:=2) (ob:=obRp rp0C) (o:=.cells rp0C) rfl rfl;have hfx:=H2.fix rfl;obtain⟨hown2,hblk2⟩:=H2.blk hfx.1
 refine (play_called hnil R2 h).mono fun e w3 he=>?_
 obtain⟨wb,B,S3,rfl,R3,k3,l3,ro3⟩:=he;simp only[rpc_dst]
 have hsz2:(S2.loc (.loc 2)).b<w2.heap.size:=by
  obtain⟨pre,post,h1,_⟩:=hblk2;exact (Array.getElem?_eq_some_iff.1 h1).1
 have hown3:S3.own (S2.loc (.loc 2)).b=none:=(k3.own _ hsz2).2 rfl;have hheap3:w3.heap[(S2.loc (.loc 2)).b]?=w2.heap[(S2.loc (.loc 2)).b]?:=k3.keep _ hsz2 rfl
 have hro3:∀(t:TI) cs,(DM wb .nilFunc none).ro m' t=some cs→cs≠[]→(S3.loc (.m t)).b≠(S2.loc (.loc 2)).b:=fun t cs ht hne=>by
  have hisro:(mdI (GM 0 .nilFunc none)).isro t=true:=(mdI_ok (GM wb .nilFunc none)).rois m' t cs ht;have ht0:roI (mNew p inp none) t=some cs:=(congrFun ro3 t).symm.trans ht;rw[l3 t hisro]
  show (S2.loc (.m t)).b≠_
  intro hh;have r2:=(R2.ro t cs ht0).own hne;rw[hh,hown2] at r2
  cases r2.1
 obtain⟨R3',hm3,hk3⟩:=Rel.own (ob:=obRp rp0C) (o:=.cells rp0C) (R3.rebase [] []) (mdI_ok _) rfl rfl (sl:=S2.loc (.loc 2)) (by have:=H2.len;rw[List.length_map] at this;exact this) H2.cap (of_decide_eq_true rfl) hfx.1 (fun _=>hfx.2) (by
  obtain⟨pre,post,h1,h2,h3⟩:=hblk2
  exact⟨pre,post,hheap3.trans h1,h2,h3⟩) hown3 hro3 [] []
 have hF3:FrmA Try.f27.ntmps [] (a2.put (some 7) (encT S3 pmV)) (S3.put (.loc 0) (S2.loc (.loc 2))) [(7,pmV),(4,lcV 0)]:=by
  have h0:FrmA Try.f27.ntmps [] a2 (S3.put (.loc 0) (S2.loc (.loc 2))) [(4,lcV 0)]:=⟨hF2.defs,hF2.size,fun t v ht=>by
   by_cases h4:t=4
   ·subst h4
    cases ht
    refine (hF2.get 4 (lcV 2) rfl).trans ?_
    exact enc_p (Sto.put_loc S3 (.loc 0) (S2.loc (.loc 2)))
   ·simp[lookA,Ne.symm h4] at ht⟩
  exact h0.put (d:=7) (of_decide_eq_true rfl) (v:=pmV) (u:=encT S3 pmV) (fun v' h=>by cases h;exact enc_p (hm3 TI.mach))
 have hC:CallOk (D:=DM wb .nilFunc none) PG (envOf (noOp _) [] (AS (DM wb .nilFunc none))):=envOf_ok noOp_ok EnvOk.nil _
 refine opsP_ok (D:=DM wb .nilFunc none) (tabAOk.at _ _) (mdI_ok _) hC (n:=Try.f27.ntmps) (ds:=[]) (B:=⟨S3.put (.loc 0) (S2.loc (.loc 2)),w3,m',[],[]⟩) rfl rfl (κ:=some) (κp:=fun _ _=>none) (fun s' S4 a4 w4 h4 hF4 R4=>?_) (fun _ _ _ _ _ h=>by cases h) _ _ _ _ _ (rp_r2 m') hF3 R3'
 cases h4
 show rp2.wp PG _ a4 w4
 rw[rp2_eq]
 refine wp_ret ?_
 have hres:(results Try.f27 a4.tmps).run PG w4=.ok (encT S4 (.agg (rpC m'))) w4:=by
  obtain⟨xs,h1,h2⟩:=run_results (D:=DM wb .nilFunc none) (s:=⟨[(10,.agg (rpC m')),(9,.l (.p (.m .mach) 0 1 6)),(8,pmV),(7,pmV),(4,lcV 0)],m',[obRp (rpC m')],[]⟩) (fn:=Try.f27) (tabAOk.at [] []) (mdI_ok _) hF4 R4 (κ:=some) (x:=[.inr (rpC m')]) (by kernel_rfl)
  cases h1
  exact h2
 refine⟨hF4.defs,_,hres,wb,_,S4,rfl,R4,?_⟩;have kk:=play_kept hown R2.kp k3;refine⟨R4.kp.os.trans kk.os,R4.kp.tape.trans kk.tape,R4.kp.output.trans kk.output,Nat.le_trans kk.size R4.kp.size,fun b hb=>?_,fun b hb ho=>?_⟩
 ·have hb4:b≠(S2.loc (.loc 2)).b:=fun hh=>by
   have:=(R2.kp.own b hb).2 (hown b);rw[hh,hown2] at this
   cases this
  have h3:(S3.put (.loc 0) (S2.loc (.loc 2))).own b=S3.own b:=Sto.put_own S3 _ _ hb4;have h5:=R4.kp.own b (Nat.lt_of_lt_of_le hb kk.size)
  have h6:S4.own b=none↔S3.own b=none:=by rw[←h3];exact h5
  exact h6.trans (kk.own b hb)
 ·have hb4:b≠(S2.loc (.loc 2)).b:=fun hh=>by
   have:=(R2.kp.own b hb).2 (hown b);rw[hh,hown2] at this
   cases this
  have h3:(S3.put (.loc 0) (S2.loc (.loc 2))).own b=S3.own b:=Sto.put_own S3 _ _ hb4;exact (R4.kp.keep b (Nat.lt_of_lt_of_le hb kk.size) (h3.trans ((kk.own b hb).2 ho))).trans (kk.keep b hb ho)
end Go.Beat
end
section
namespace Beat
def Le {α:Type}(a b:Option α):Prop:=∀r,a=some r→b=some r
theorem Le.refl {α:Type}(a:Option α):Le a a:=fun _ h=>h
theorem Le.bind {α β:Type}{a a':Option α}{f f':α→Option β}(h:Le a a')(k:∀x,Le (f x) (f' x)):Le (a.bind f) (a'.bind f'):=fun r hr=>by
 obtain⟨x,hx,hr⟩:=Option.bind_eq_some_iff.1 hr;exact Option.bind_eq_some_iff.2 ⟨x,h x hx,k x r hr⟩
theorem Le.ite {α:Type}{c:Prop}[Decidable c]{a a' b b':Option α}(h:Le a a')(k:Le b b'):Le (if c then a else b) (if c then a' else b'):=fun r hr=>by
 split at hr
 ·rename_i hc;rw[if_pos hc];exact h r hr
 ·rename_i hc;rw[if_neg hc];exact k r hr
theorem roundsQ_le {i:Nat}{steps:List Step}:∀(f:Nat) (m:IM),Le (IM.roundsQ i steps f m) (IM.roundsQ i steps (f+1) m)
 |0,_,_,h=>by cases h
 |f+1,m,r,h=>by
  rw[IM.roundsQ] at h ⊢
  cases hq:IM.roundQ i steps m with
  |none=>rw[hq] at h;cases h
  |some q=>
   obtain⟨m1,q⟩:=q;rw[hq] at h
   cases q with
   |go=>exact roundsQ_le f m1 r h
   |out=>exact h
   |ret=>exact h
   |pan c=>exact h
theorem turnQ_le (f:Nat)(m:IM)(i:Nat):Le (IM.turnQ f m i) (IM.turnQ (f+1) m i):=
 Le.bind (Le.refl _) fun _=>Le.bind (Le.refl _) fun _=>Le.bind (Le.refl _) fun _=>Le.bind (Le.refl _) fun _=>Le.bind (Le.refl _) fun _=>Le.ite (roundsQ_le _ _) (Le.refl _)
theorem feedQ_le:∀(f:Nat) (m:IM),Le (IM.feedQ f m) (IM.feedQ (f+1) m)
 |0,_,_,h=>by cases h
 |f+1,m,r,h=>by
  rw[IM.feedQ] at h ⊢;simp only[bind] at h ⊢;obtain⟨q,hq,h⟩:=Option.bind_eq_some_iff.1 h;rw[hq,Option.bind_some]
  split at h
  ·rename_i hc;rw[if_pos hc];exact feedQ_le f _ r h
  ·rename_i hc;rw[if_neg hc];exact h
theorem wakeQ_le:∀(f:Nat) (m:IM),Le (IM.wakeQ f m) (IM.wakeQ (f+1) m)
 |0,_,_,h=>by cases h
 |f+1,m,r,h=>by
  rw[IM.wakeQ] at h ⊢;simp only[bind] at h ⊢;obtain⟨u,hu,h⟩:=Option.bind_eq_some_iff.1 h;obtain⟨q,hq,h⟩:=Option.bind_eq_some_iff.1 h;rw[hu,Option.bind_some,hq,Option.bind_some]
  split at h
  ·rename_i hc;rw[if_pos hc];exact wakeQ_le f _ r h
  ·rename_i hc;rw[if_neg hc];exact h
theorem passQ_le (f:Nat)(m:IM):Le (IM.passQ f m) (IM.passQ (f+1) m):=
 Le.bind (Le.refl _) fun _=>Le.bind (Le.refl _) fun _=>Le.bind (Le.refl _) fun _=>Le.bind (Le.refl _) fun _=>Le.ite (Le.refl _) (Le.ite (Le.refl _) (Le.ite (Le.bind (Le.refl _) fun _=>Le.bind (wakeQ_le _ _) fun _=>Le.bind (feedQ_le _ _) fun _=>Le.refl _) (Le.bind (Le.refl _) fun _=>Le.bind (wakeQ_le _ _) fun _=>Le.bind (feedQ_le _ _) fun _=>Le.refl _)))
end Beat
namespace Go.Beat
open Go _root_.Beat
attribute [local simp] int_beq int_bne ble_dec
theorem mainQ_le (F:Nat):∀(g:Nat) (m:IM),Le (IM.mainQ F g m) (IM.mainQ (F+1) (g+1) m)
 |0,_,_,h=>by cases h
 |g+1,m,r,h=>by
  rw[IM.mainQ] at h ⊢
  cases hr:m.row with
  |nil=>
   rw[hr] at h
   simp only at h ⊢
   cases hq:IM.passQ F m with
   |none=>rw[hq] at h;cases h
   |some q=>
    rw[hq] at h;rw[passQ_le F m q hq]
    simp only at h ⊢
    cases hb:q.2.isPan with
    |true=>rw[hb] at h;exact h
    |false=>rw[hb] at h;exact mainQ_le F g _ r h
  |cons i rest=>
   rw[hr] at h
   simp only at h ⊢
   split at h
   ·rename_i hc
    rw[if_pos hc]
    cases hq:IM.turnQ F (m.wRow rest) i with
    |none=>rw[hq] at h;cases h
    |some q=>
     rw[hq] at h;rw[turnQ_le F _ i q hq]
     simp only at h ⊢
     cases hb:q.2.isPan with
     |true=>rw[hb] at h;exact h
     |false=>rw[hb] at h;exact mainQ_le F g _ r h
   ·cases h
theorem playQ_le (k:Nat)(p:_root_.Beat.Plan)(inp:_root_.Beat.Input):Le (IM.playQ k k p inp) (IM.playQ (k+1) (k+1) p inp):=fun r h=>by
 unfold IM.playQ at h ⊢
 split at h
 ·rename_i hc
  rw[if_pos hc]
  split at h
  ·cases h
  ·rename_i m1 hs
   split at h
   ·cases h
   ·rename_i q hq
    rw[mainQ_le k k _ q hq];exact h
 ·rename_i hc
  rw[if_neg hc];exact h
theorem playQ_mono {k k':Nat}(hk:k≤k'){p:_root_.Beat.Plan}{inp:_root_.Beat.Input}{m:IM}(h:IM.playQ k k p inp=some m):IM.playQ k' k' p inp=some m:=by
 induction hk with
 |refl=>exact h
 |step _ ih=>exact playQ_le _ p inp m ih
end Go.Beat
end
