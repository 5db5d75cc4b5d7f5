/-
  Texts joined by a program (shake.py), without what the claim does not use; printed walks among them (print.sh), and own ones.
-/
import Derived.Test.YtejjedooecephaaSleep23
import Derived.Test.YtejjedooecephaaSleep24
import Derived.Test.YtejjedooecephaaSleep27
import Derived.Test.YtejjedooecephaaSleep28
section
namespace Go.Beat
open Go _root_.Beat Go.Proofs Classical
attribute [local simp] int_beq int_bne ble_dec
set_option maxRecDepth 100000
variable {wb:Nat} {hv:Value} {hk:Option Int}
theorem rawA {wb:Nat}{hv:Value}{hk:Option Int}(m:IM)(nb nr nf:Nat)(sl t u:Int)(hv_:Value):segM (wb:=wb) (hv:=hv) (hk:=hk) (opJ _) (tabA.at pkA gkA) [(24,cPlanOk wb hv hk),(20,cInputOk wb hv hk)] [] wk66 600 Try.f66.ntmps gA lc36 m [obPl nb nr sl,obIn nf t u,obHk hv_] []=if nb=m.p.bodies.length∧nr=m.p.rooms.length∧sl=m.p.slice then bif !eqL [(planOkI m.p).code,(planOkI m.p).body,(planOkI m.p).step] [(0:Int),(0:Int),(0:Int)] then some (nrmM [(3,TV.l (AL.p (Tg.loc 0) 0 1 0)),(4,TV.l (AL.p (Tg.loc 1) 0 1 0)),(5,TV.l (AL.p (Tg.loc 2) 0 1 0)),(6,TV.l (AL.p (Tg.m TI.cell) 0 1 0)),(25,bV true)] m [⟨35,1,true,some (LO.cells [AL.sl (Tg.m TI.bodies) 0 1 nb,AL.sl (Tg.m TI.rooms) 0 1 nr,AL.v (i64 sl)])⟩,⟨39,1,true,some (LO.cells [AL.sl (Tg.m TI.feed) 0 3 nf,AL.v (i64 t),AL.v (i64 u)])⟩,⟨139,1,true,some (LO.cells [AL.v hv_])⟩] []) else if nr=m.p.rooms.length∧nf=m.inp.feed.length∧t=m.inp.ticks∧u=m.inp.until_ then some (nrmM [(3,TV.l (AL.p (Tg.loc 0) 0 1 0)),(4,TV.l (AL.p (Tg.loc 1) 0 1 0)),(5,TV.l (AL.p (Tg.loc 2) 0 1 0)),(6,TV.l (AL.p (Tg.m TI.cell) 0 1 0)),(25,TV.l (AL.v (Value.bool !inputOkI m.p m.inp)))] m [⟨35,1,true,some (LO.cells [AL.sl (Tg.m TI.bodies) 0 1 nb,AL.sl (Tg.m TI.rooms) 0 1 nr,AL.v (i64 sl)])⟩,⟨39,1,true,some (LO.cells [AL.sl (Tg.m TI.feed) 0 3 nf,AL.v (i64 t),AL.v (i64 u)])⟩,⟨139,1,true,some (LO.cells [AL.v hv_])⟩] []) else none else none:=by kernel_rfl
theorem rawA3 {wb:Nat}{hv:Value}{hk:Option Int}(m:IM)(nb nr nf:Nat)(sl t u:Int)(hv_:Value):segM (wb:=wb) (hv:=hv) (hk:=hk) (opJ _) (tabA.at pkA gkA) [] [] wk66 600 Try.f66.ntmps gA3 lc36 m [obPl nb nr sl,obIn nf t u,obHk hv_] []=some (nrmM [(3,TV.l (AL.p (Tg.loc 0) 0 1 0)),(4,TV.l (AL.p (Tg.loc 1) 0 1 0)),(5,TV.l (AL.p (Tg.loc 2) 0 1 0)),(6,TV.l (AL.p (Tg.m TI.cell) 0 1 0))] (m.wCode (3:Int)) [⟨35,1,true,some (LO.cells [AL.sl (Tg.m TI.bodies) 0 1 nb,AL.sl (Tg.m TI.rooms) 0 1 nr,AL.v (i64 sl)])⟩,⟨39,1,true,some (LO.cells [AL.sl (Tg.m TI.feed) 0 3 nf,AL.v (i64 t),AL.v (i64 u)])⟩,⟨139,1,true,some (LO.cells [AL.v hv_])⟩] []):=by kernel_rfl
theorem rawB {wb:Nat}{hv:Value}{hk:Option Int}(m:IM)(nb nr nf:Nat)(sl t u:Int):segM (wb:=wb) (hv:=hv) (hk:=hk) (opJ _) (tabA.at pkA gkA) [] [] wk66 600 Try.f66.ntmps gB lc36 m [obPl nb nr sl,obIn nf t u,obHk .nilFunc] []=some (nrmM [(3,TV.l (AL.p (Tg.loc 0) 0 1 0)),(4,TV.l (AL.p (Tg.loc 1) 0 1 0)),(5,TV.l (AL.p (Tg.loc 2) 0 1 0)),(6,TV.l (AL.p (Tg.m TI.cell) 0 1 0))] m [⟨35,1,true,some (LO.cells [AL.sl (Tg.m TI.bodies) 0 1 nb,AL.sl (Tg.m TI.rooms) 0 1 nr,AL.v (i64 sl)])⟩,⟨39,1,true,some (LO.cells [AL.sl (Tg.m TI.feed) 0 3 nf,AL.v (i64 t),AL.v (i64 u)])⟩,⟨139,1,true,some (LO.cells [AL.v Value.nilFunc])⟩] []):=by kernel_rfl
theorem rawCl {wb:Nat}{hv:Value}{hk:Option Int}(m:IM)(nb nr nf n j:Nat)(sl t u:Int)(hv_:Value):roundM (wb:=wb) (hv:=hv) (hk:=hk) (opJ _) (tabA.at pkA gkA) [] [] wk66 600 Try.f66 (loopsOf gC.c) (lChan wb hv hk) [lcV 0,lcV 1,lcV 2,clV,.l (.sl (.m .rooms) 0 1 n),iV n,iV j] m [obPl nb nr sl,obIn nf t u,obHk hv_] []=bif decide ((j:Int)<(n:Int)) then if 0+n≤m.p.rooms.length∧(0:Int)≤(j:Int)∧(j:Int)<(n:Int) then m.p.rooms[0+j]?.bind fun val=>if 0+m.chans.length≤(ptrsL TI.chan m.chans.length).length / 1∧(m.chans.length+1)*8≤140737488355328∧m.chans.length+1≤9223372036854775807 then bif !LObj.has (isLoc 5) ⟨131,1,false,some (LO.cells (List.take (m.chans.length*1) (List.drop (0*1) (ptrsL TI.chan m.chans.length))++List.take (1*1) (List.drop (0*1) [AL.p (Tg.loc 3) 0 1 0])))⟩&&LO.fits 1 (LO.cells (List.take (m.chans.length*1) (List.drop (0*1) (ptrsL TI.chan m.chans.length))++List.take (1*1) (List.drop (0*1) [AL.p (Tg.loc 3) 0 1 0])))&&true&&((List.take (m.chans.length*1) (List.drop (0*1) (ptrsL TI.chan m.chans.length))++List.take (1*1) (List.drop (0*1) [AL.p (Tg.loc 3) 0 1 0])).length / 1).ble 9223372036854775807 then if List.take (m.chans.length*1) (List.drop (0*1) (ptrsL TI.chan m.chans.length))++List.take (1*1) (List.drop (0*1) [AL.p (Tg.loc 3) 0 1 0])=ptrsL TI.chan m.chans.length++[AL.p (Tg.loc (0+1+1+1)) 0 1 0]∧m.chans.length+1=m.chans.length+1 then some (nrmM [(3,TV.l (AL.p (Tg.loc 0) 0 1 0)),(4,TV.l (AL.p (Tg.loc 1) 0 1 0)),(5,TV.l (AL.p (Tg.loc 2) 0 1 0)),(6,TV.l (AL.p (Tg.m TI.cell) 0 1 0)),(38,TV.l (AL.sl (Tg.m TI.rooms) 0 1 n)),(39,iV (n:Int)),(40,iV (IntKind.i64.wrap ((j:Int)+(1:Int))))] (m.wChansL (m.chans++[{room:=val:IChan}])) [⟨35,1,true,some (LO.cells [AL.sl (Tg.m TI.bodies) 0 1 nb,AL.sl (Tg.m TI.rooms) 0 1 nr,AL.v (i64 sl)])⟩,⟨39,1,true,some (LO.cells [AL.sl (Tg.m TI.feed) 0 3 nf,AL.v (i64 t),AL.v (i64 u)])⟩,⟨139,1,true,some (LO.cells [AL.v hv_])⟩] []) else none else none else none else none else some (exM 0 [(6,TV.l (AL.p (Tg.m TI.cell) 0 1 0))] m [⟨35,1,true,some (LO.cells [AL.sl (Tg.m TI.bodies) 0 1 nb,AL.sl (Tg.m TI.rooms) 0 1 nr,AL.v (i64 sl)])⟩,⟨39,1,true,some (LO.cells [AL.sl (Tg.m TI.feed) 0 3 nf,AL.v (i64 t),AL.v (i64 u)])⟩,⟨139,1,true,some (LO.cells [AL.v hv_])⟩] []):=by kernel_rfl
theorem rawC {wb:Nat}{hv:Value}{hk:Option Int}(m:IM)(nb nr nf:Nat)(sl t u:Int)(hv_:Value):segM (wb:=wb) (hv:=hv) (hk:=hk) (opJ _) (tabA.at pkA gkA) [] [lChan wb hv hk] wk66 600 Try.f66.ntmps gC lc36 m [obPl nb nr sl,obIn nf t u,obHk hv_] []=if (nr:Int)=(nr:Int)∧nr=m.p.rooms.length∧nr<100∧m.chans=[] then some (nrmM [(6,TV.l (AL.p (Tg.m TI.cell) 0 1 0))] (m.wChansL (List.map (fun r=>{room:=r:IChan}) m.p.rooms)) [⟨35,1,true,some (LO.cells [AL.sl (Tg.m TI.bodies) 0 1 nb,AL.sl (Tg.m TI.rooms) 0 1 nr,AL.v (i64 sl)])⟩,⟨39,1,true,some (LO.cells [AL.sl (Tg.m TI.feed) 0 3 nf,AL.v (i64 t),AL.v (i64 u)])⟩,⟨139,1,true,some (LO.cells [AL.v hv_])⟩] []) else none:=by kernel_rfl
theorem rawD {wb:Nat}{hv:Value}{hk:Option Int}(m:IM)(nb nr nf:Nat)(sl t u:Int)(hv_:Value):segM (wb:=wb) (hv:=hv) (hk:=hk) (opJ _) (tabA.at pkA gkA) [(86,cSpawn wb hv hk)] [] wk66 600 Try.f66.ntmps gD [clV] m [obPl nb nr sl,obIn nf t u,obHk hv_] []=(m.spawn (0:Int)).bind fun val=>some (nrmM [(6,TV.l (AL.p (Tg.m TI.cell) 0 1 0))] val [⟨35,1,true,some (LO.cells [AL.sl (Tg.m TI.bodies) 0 1 nb,AL.sl (Tg.m TI.rooms) 0 1 nr,AL.v (i64 sl)])⟩,⟨39,1,true,some (LO.cells [AL.sl (Tg.m TI.feed) 0 3 nf,AL.v (i64 t),AL.v (i64 u)])⟩,⟨139,1,true,some (LO.cells [AL.v hv_])⟩] []):=by kernel_rfl
theorem rawE {wb:Nat}{hv:Value}{hk:Option Int}(m:IM)(nb nr nf:Nat)(sl t u:Int)(hv_:Value):segM (wb:=wb) (hv:=hv) (hk:=hk) (opJ _) (tabA.at pkA gkA) [] [] wk66 600 Try.f66.ntmps gE [clV] m [obPl nb nr sl,obIn nf t u,obHk hv_] []=some (nrmM [(6,TV.l (AL.p (Tg.m TI.cell) 0 1 0)),(9,TV.l (AL.p (Tg.loc 3) 0 1 0))] m [⟨35,1,true,some (LO.cells [AL.sl (Tg.m TI.bodies) 0 1 nb,AL.sl (Tg.m TI.rooms) 0 1 nr,AL.v (i64 sl)])⟩,⟨39,1,true,some (LO.cells [AL.sl (Tg.m TI.feed) 0 3 nf,AL.v (i64 t),AL.v (i64 u)])⟩,⟨139,1,true,some (LO.cells [AL.v hv_])⟩,⟨3,1,true,some (LO.cells [AL.v (i64 (0:Int))])⟩] []):=by kernel_rfl
abbrev mkCh (r:Int):IChan:={room:=r}
theorem chan_iter (m:IM)(hn:m.p.rooms.length<100)(nb nr nf:Nat)(sl t u:Int)(hv_:Value):∀(rest pre:List Int),m.p.rooms=pre++rest→
  iterM (wb:=wb) (hv:=hv) (hk:=hk) (opJ _) (tabA.at pkA gkA) [] [] wk66 600 Try.f66 (loopsOf gC.c) (lChan wb hv hk) (rest.length+1) [lcV 0,lcV 1,lcV 2,clV,.l (.sl (.m .rooms) 0 1 m.p.rooms.length),iV m.p.rooms.length,iV pre.length] (m.wChansL (pre.map mkCh)) [obPl nb nr sl,obIn nf t u,obHk hv_] []=
   some (exM 0 [(6,clV)] (m.wChansL (m.p.rooms.map mkCh)) [obPl nb nr sl,obIn nf t u,obHk hv_] [])
 |[],pre,h=>by
  refine iterM_exit ?_ (fun s h=>by cases h)
  rw[rawCl];simp only[List.append_nil] at h;simp[h]
 |e::rest,pre,h=>by
  rw[←chan_iter m hn nb nr nf sl t u hv_ rest (pre++[e]) (by simp[h])];obtain⟨hg,hlt⟩:=get_mid h
  have hlt':(pre.length:Int)<(m.p.rooms.length:Int):=by omega
  have hw:=wrap_succ (j:=pre.length) (by omega)
  have hp1:(pre++[e]).length=pre.length+1:=by simp
  have hpc:((pre.length+1:Nat):Int)=(pre.length:Int)+1:=by omega
  refine iterM_succ [lcV 0,lcV 1,lcV 2,clV,.l (.sl (.m .rooms) 0 1 m.p.rooms.length),iV m.p.rooms.length,iV (pre++[e]).length] ?_
  rw[rawCl]
  have hc:(m.wChansL (pre.map mkCh)).chans.length=pre.length:=by show (pre.map mkCh).length=_;simp
  have hh:LObj.has (isLoc 5) (⟨131,1,false,some (LO.cells (ptrsL TI.chan pre.length++[AL.p (Tg.loc 3) 0 1 0]))⟩:LObj TI)=false:=by
   simp only[LObj.has,List.any_append,ptrs_has];rfl
  have hf:LO.fits 1 (LO.cells (ptrsL TI.chan pre.length++[AL.p (Tg.loc 3) 0 1 0]):LO TI)=true:=by simp[LO.fits,Nat.mod_one]
  have g1:(pre.length+1)*8≤140737488355328:=by omega
  have g2:pre.length+1≤9223372036854775807:=by omega
  have hb:Nat.ble (pre.length+1) 9223372036854775807=true:=Nat.ble_eq_true_of_le g2;have e1:(m.wChansL (pre.map mkCh)).p=m.p:=rfl
  have e2:(m.wChansL (pre.map mkCh)).wChansL ((m.wChansL (pre.map mkCh)).chans++[mkCh e])=m.wChansL ((pre++[e]).map mkCh):=by
   show m.wChansL (pre.map mkCh++[mkCh e])=_
   simp
  simp only[hc,e1,ptrs_all,ptrs_one,ptrs_len,hlt',decide_true,cond_true,Nat.zero_add,Int.natCast_nonneg,true_and,and_true,Nat.le_refl,if_true,Int.toNat_natCast,hg,Option.bind_some,Nat.div_one,g1,g2,hh,hf,Bool.not_false,Bool.true_and,Bool.and_true,List.length_append,List.length_singleton,hb,e2,hw,hpc];simp[hw,lChan,zipK]
theorem chan_lp {LS:List (Nat×Code)}{ld:List (LoopD (DM wb hv hk))}(hld:LpOk PG (tabA.at pkA gkA) (DM wb hv hk) Try.f66.ntmps LS ld)(hLS:LS=(loopsOf gC.c)):LpOk PG (tabA.at pkA gkA) (DM wb hv hk) Try.f66.ntmps LS (lChan wb hv hk::ld):=by
 subst hLS
 refine mkLp (tabAOk.at _ _) (mdI_ok _) mixOk (opJ_ok) EnvOk.nil hld (wk:=wk66) (N:=600) LpOk.nil (by kernel_rfl) fun vs m L dk κ x h0=>?_
 simp only[lChan] at h0
 split at h0
 ·split at h0
  case isFalse=>cases h0
  rename_i n n' nb nr sl nf t u hv' hc;obtain⟨rfl,rfl,hn,hch⟩:=hc;have:=chan_iter (wb:=wb) (hv:=hv) (hk:=hk) m hn nb nr nf sl t u hv' m.p.rooms [] rfl
  have e:m.wChansL ([].map mkCh)=m:=by
   cases m
   simp only at hch
   subst hch;rfl
  rw[e] at this;exact⟨_,_,this,h0⟩
 ·cases h0
end Go.Beat
end
section
namespace Go.Beat
open Go _root_.Beat Go.Proofs
attribute [local simp] int_beq int_bne ble_dec
def opsF {D:Md}(H:OpH D)(T:TabA)(l:List (FuncId×Ctr D))(n:Nat)(c:Code)(ki ko kx:List Nat)(m mx:Nat)(vs:List (TV D.τ))(st:D.σ)(L:List (LObj D.τ))(dk:List D.τ):Option (Stop D):=
 opsP T (envOf H l (Stop D)) n (opsOf c) (opsOf c).toList ⟨zipK ki vs,st,L,dk⟩ (fun s'=>match nrm ko m none s' with|some s''=>some (.norm s'')|none=>none) fun v s'=>some (.pan v (nrmX kx (s'.L.take mx) s'))
section
variable {D:Md} {B:Base D} {P:Program} {T:TabA} {n:Nat} {ds:List Deferred} {S:Sto (Tg D.τ)} {w:World} {a:Act}
theorem ops_wp (hT:T.Ok P)(O:MdOk D){H:OpH D}(hH:OpOk P H){l:List (FuncId×Ctr D)}(hl:EnvOk P l){c:Code}{id:Nat}(hc:c=.region id (opsOf c) false)(hpk:T.pk=B.pk)(hgk:T.gk=B.gk){ki ko kx:List Nat}{m mx:Nat}{vs:List (TV D.τ)}{st:D.σ}{L:List (LObj D.τ)}{dk:List D.τ}{o:Stop D}(h:opsF H T l n c ki ko kx m mx vs st L dk=some o){Q:Post}(good:Good B n ds Q o)(hF:FrmA n ds a S (zipK ki vs))(R:Rel B st L dk S w):c.wp P Q a w:=by
 rw[hc]
 refine wp_region_list ?_
 refine opsP_ok hT O (envOf_ok hH hl (Stop D)) hpk hgk (fun s' S1 a1 w1 h1 hF1 R1=>?_) (fun v s' S1 a1 w1 h1 hF1 R1=>?_) _ _ _ _ _ h hF R
 ·split at h1
  ·rename_i s'' hn
   simp only[Option.some.injEq] at h1;subst h1;obtain⟨S2,hF2,R2⟩:=nrm_ok O hn hF1 R1;exact good S2 a1 w1 hF2 R2
  ·cases h1
 ·simp only[Option.some.injEq] at h1
  subst h1;exact good S1 a1 w1 ⟨hF1.defs,hF1.size,fun t v hv=>hF1.get t v (look_keepO _ t v hv)⟩ (R1.forget _)
end
section
variable {wb:Nat} {hv:Value} {hk:Option Int}
def opsM (H:OpH (DM wb hv hk))(T:TabA)(l:List (FuncId×CM wb hv hk))(n:Nat)(c:Code)(ki ko kx:List Nat)(m mx:Nat)(vs:List (TV TI))(st:IM)(L:List (LObj TI))(dk:List TI):Option (SM_ wb hv hk):=opsF (D:=DM wb hv hk) H T l n c ki ko kx m mx vs st L dk
end
def IM.mainQ (F:Nat):Nat→IM→Option (IM×Int)
 |0,_=>none
 |k+1,m=>match m.row with
  |[]=>match IM.passQ F m with
   |none=>none
   |some q=>bif q.2.isPan then some (q.1,q.2.num) else mainQ F k q.1
  |i::r=>if r.length<1000000 then (match IM.turnQ F (m.wRow r) i with
   |none=>none
   |some q=>bif q.2.isPan then some (q.1,q.2.num) else mainQ F k q.1) else none
abbrev fdV:TV TI:=.l (.p (.m .fed) 0 1 0)
def unB:Code→Code
 |.block _ c=>c
 |c=>c
def unL:Code→Code
 |.loop c=>c
 |c=>c
noncomputable def cOut:Code:=unL (unB cL)
noncomputable def cIn:Code:=unL (unB (seqL (unB cOut)))
noncomputable def c19:Code:=seqR (unB cOut)
noncomputable def gF:SegD:=⟨seqL cIn,[6,9],[6,9],[6,9],3,3⟩
noncomputable def gG:SegD:=⟨seqL (unB (seqR cIn)),[6,9],[6,9,10],[6],3,3⟩
noncomputable def gH:SegD:=⟨seqL (seqR (unB (seqR cIn))),[6,9,10],[6,9,10],[6],3,3⟩
noncomputable def c18:Code:=seqR (seqR (unB (seqR cIn)))
theorem cL_eq:cL=.block 2 (.loop cOut):=by kernel_rfl
theorem cOut_eq:cOut=.block 3 (.seq (.block 4 (.loop cIn)) c19):=by kernel_rfl
theorem cIn_eq:cIn=.seq gF.c (.block 5 (.seq gG.c (.seq gH.c c18))):=by kernel_rfl
theorem c18_eq:c18=.region 18 (opsOf c18) false:=by kernel_rfl
theorem c19_eq:c19=.region 19 (opsOf c19) false:=by kernel_rfl
end Go.Beat
end
