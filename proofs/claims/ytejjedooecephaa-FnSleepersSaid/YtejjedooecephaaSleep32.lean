/-
  Texts joined by a program (shake.py), without what the claim does not use; printed walks among them (print.sh), and own ones.
-/
import Derived.Test.YtejjedooecephaaSleep29
import Derived.Test.YtejjedooecephaaSleep31
import Derived.Deep.LoopGhost
section
namespace Go.Beat
open Go _root_.Beat Go.Proofs
attribute [local simp] int_beq int_bne ble_dec
set_option maxRecDepth 100000
variable {wb:Nat} {hv:Value} {hk:Option Int}
theorem rawF {wb:Nat}{hv:Value}{hk:Option Int}(m:IM)(nb nr nf:Nat)(sl t u:Int)(hv_:Value):segM (wb:=wb) (hv:=hv) (hk:=hk) (opJ _) (tabA.at pkA gkA) [] [] wk66 600 Try.f66.ntmps gF [clV,fdV] m [obPl nb nr sl,obIn nf t u,obHk hv_] []=bif decide ((↑m.row.length:Int)>(0:Int)) then some (nrmM [(6,TV.l (AL.p (Tg.m TI.cell) 0 1 0)),(9,TV.l (AL.p (Tg.m TI.fed) 0 1 0))] m [{ty:=35,sz:=1,fix:=true,o:=some (LO.cells [AL.sl (Tg.m TI.bodies) 0 1 nb,AL.sl (Tg.m TI.rooms) 0 1 nr,AL.v (Value.int IntKind.i64 sl)]):LObj TI},{ty:=39,sz:=1,fix:=true,o:=some (LO.cells [AL.sl (Tg.m TI.feed) 0 3 nf,AL.v (Value.int IntKind.i64 t),AL.v (Value.int IntKind.i64 u)]):LObj TI},{ty:=139,sz:=1,fix:=true,o:=some (LO.cells [AL.v hv_]):LObj TI}] []) else some (exM 4 [(6,TV.l (AL.p (Tg.m TI.cell) 0 1 0)),(9,TV.l (AL.p (Tg.m TI.fed) 0 1 0))] m [{ty:=35,sz:=1,fix:=true,o:=some (LO.cells [AL.sl (Tg.m TI.bodies) 0 1 nb,AL.sl (Tg.m TI.rooms) 0 1 nr,AL.v (Value.int IntKind.i64 sl)]):LObj TI},{ty:=39,sz:=1,fix:=true,o:=some (LO.cells [AL.sl (Tg.m TI.feed) 0 3 nf,AL.v (Value.int IntKind.i64 t),AL.v (Value.int IntKind.i64 u)]):LObj TI},{ty:=139,sz:=1,fix:=true,o:=some (LO.cells [AL.v hv_]):LObj TI}] []):=by kernel_rfl
theorem rawG {wb:Nat}{hv:Value}{hk:Option Int}(m:IM)(nb nr nf:Nat)(sl t u:Int)(hv_:Value):segM (wb:=wb) (hv:=hv) (hk:=hk) (opJ _) (tabA.at pkA gkA) [] [] wk66 600 Try.f66.ntmps gG [clV,fdV] m [obPl nb nr sl,obIn nf t u,obHk hv_] []=if 0+m.row.length≤m.row.length∧(0:Int)≤(0:Int)∧(0:Int)<(↑m.row.length:Int) then (List.map Int.ofNat m.row)[0+Int.toNat (0:Int)]?.bind fun (val:Int)=>some (nrmM [(6,TV.l (AL.p (Tg.m TI.cell) 0 1 0)),(9,TV.l (AL.p (Tg.m TI.fed) 0 1 0)),(10,TV.l (AL.v (Value.int IntKind.i64 val)))] m [{ty:=35,sz:=1,fix:=true,o:=some (LO.cells [AL.sl (Tg.m TI.bodies) 0 1 nb,AL.sl (Tg.m TI.rooms) 0 1 nr,AL.v (Value.int IntKind.i64 sl)]):LObj TI},{ty:=39,sz:=1,fix:=true,o:=some (LO.cells [AL.sl (Tg.m TI.feed) 0 3 nf,AL.v (Value.int IntKind.i64 t),AL.v (Value.int IntKind.i64 u)]):LObj TI},{ty:=139,sz:=1,fix:=true,o:=some (LO.cells [AL.v hv_]):LObj TI}] []) else none:=by kernel_rfl
theorem rawH {wb:Nat}{hv:Value}{hk:Option Int}(m:IM)(nb nr nf:Nat)(sl t u:Int)(hv_:Value)(i:Int):segM (wb:=wb) (hv:=hv) (hk:=hk) (opJ _) (tabA.at pkA gkA) [] [] wk66 600 Try.f66.ntmps gH [clV,fdV,iV i] m [obPl nb nr sl,obIn nf t u,obHk hv_] []=if m.row.length≤m.row.length∧(0:Int)≤(1:Int)∧(1:Int)≤(↑m.row.length:Int)∧(↑m.row.length:Int)≤(↑m.row.length:Int) then if Int.toNat (1:Int)+((↑m.row.length:Int) - (1:Int)).toNat≤(List.map Int.ofNat m.row).length then if ((↑m.row.length:Int) - (1:Int)).toNat*8≤140737488355328∧((↑m.row.length:Int) - (1:Int)).toNat≤9223372036854775807 then bif (List.take ((↑m.row.length:Int) - (1:Int)).toNat (List.drop (Int.toNat (1:Int)) (List.map Int.ofNat m.row))).length.ble 9223372036854775807 then if 0+((↑m.row.length:Int) - (1:Int)).toNat≤(List.take ((↑m.row.length:Int) - (1:Int)).toNat (List.drop (Int.toNat (1:Int)) (List.map Int.ofNat m.row))).length then (toNats (List.take ((↑m.row.length:Int) - (1:Int)).toNat (List.drop 0 (List.take ((↑m.row.length:Int) - (1:Int)).toNat (List.drop (Int.toNat (1:Int)) (List.map Int.ofNat m.row)))))).bind fun (val:List Nat)=>if IntKind.i64=IntKind.i64∧((↑m.row.length:Int) - (1:Int)).toNat=val.length then some (nrmM [(6,TV.l (AL.p (Tg.m TI.cell) 0 1 0)),(9,TV.l (AL.p (Tg.m TI.fed) 0 1 0)),(10,TV.l (AL.v (Value.int IntKind.i64 i)))] (m.wRow val) [{ty:=35,sz:=1,fix:=true,o:=some (LO.cells [AL.sl (Tg.m TI.bodies) 0 1 nb,AL.sl (Tg.m TI.rooms) 0 1 nr,AL.v (Value.int IntKind.i64 sl)]):LObj TI},{ty:=39,sz:=1,fix:=true,o:=some (LO.cells [AL.sl (Tg.m TI.feed) 0 3 nf,AL.v (Value.int IntKind.i64 t),AL.v (Value.int IntKind.i64 u)]):LObj TI},{ty:=139,sz:=1,fix:=true,o:=some (LO.cells [AL.v hv_]):LObj TI}] []) else none else none else none else none else none else none:=by kernel_rfl
theorem rawT {wb:Nat}{hv:Value}{hk:Option Int}(m:IM)(nb nr nf:Nat)(sl t u:Int)(hv_:Value)(i:Nat)(F:Nat):opsM (wb:=wb) (hv:=hv) (hk:=hk) (withP (opJ _) [(87,cTurn F wb hv hk),(88,cPass F wb hv hk)]) (tabA.at pkA gkA) [] Try.f66.ntmps c18 [6,9,10] [6,9] [6] 3 3 [clV,fdV,iV i] m [obPl nb nr sl,obIn nf t u,obHk hv_] []=(IM.turnQ F m (↑i:Int).toNat).bind fun (val:IM×RQ)=>bif val.snd.isPan then some (pnM (Value.iface 155 (Value.agg {toList:=[Value.int IntKind.i64 val.snd.num]:Array Value})) [(6,TV.l (AL.p (Tg.m TI.cell) 0 1 0))] val.fst [{ty:=35,sz:=1,fix:=true,o:=some (LO.cells [AL.sl (Tg.m TI.bodies) 0 1 nb,AL.sl (Tg.m TI.rooms) 0 1 nr,AL.v (Value.int IntKind.i64 sl)]):LObj TI},{ty:=39,sz:=1,fix:=true,o:=some (LO.cells [AL.sl (Tg.m TI.feed) 0 3 nf,AL.v (Value.int IntKind.i64 t),AL.v (Value.int IntKind.i64 u)]):LObj TI},{ty:=139,sz:=1,fix:=true,o:=some (LO.cells [AL.v hv_]):LObj TI}] []) else some (nrmM [(6,TV.l (AL.p (Tg.m TI.cell) 0 1 0)),(9,TV.l (AL.p (Tg.m TI.fed) 0 1 0))] val.fst [{ty:=35,sz:=1,fix:=true,o:=some (LO.cells [AL.sl (Tg.m TI.bodies) 0 1 nb,AL.sl (Tg.m TI.rooms) 0 1 nr,AL.v (Value.int IntKind.i64 sl)]):LObj TI},{ty:=39,sz:=1,fix:=true,o:=some (LO.cells [AL.sl (Tg.m TI.feed) 0 3 nf,AL.v (Value.int IntKind.i64 t),AL.v (Value.int IntKind.i64 u)]):LObj TI},{ty:=139,sz:=1,fix:=true,o:=some (LO.cells [AL.v hv_]):LObj TI}] []):=by kernel_rfl
theorem rawP {wb:Nat}{hv:Value}{hk:Option Int}(m:IM)(nb nr nf:Nat)(sl t u:Int)(hv_:Value)(F:Nat):opsM (wb:=wb) (hv:=hv) (hk:=hk) (withP (opJ _) [(87,cTurn F wb hv hk),(88,cPass F wb hv hk)]) (tabA.at pkA gkA) [] Try.f66.ntmps c19 [6,9] [6,9] [6] 3 3 [clV,fdV] m [obPl nb nr sl,obIn nf t u,obHk hv_] []=(IM.passQ F m).bind fun (val:IM×RQ)=>bif val.snd.isPan then some (pnM (Value.iface 155 (Value.agg {toList:=[Value.int IntKind.i64 val.snd.num]:Array Value})) [(6,TV.l (AL.p (Tg.m TI.cell) 0 1 0))] val.fst [{ty:=35,sz:=1,fix:=true,o:=some (LO.cells [AL.sl (Tg.m TI.bodies) 0 1 nb,AL.sl (Tg.m TI.rooms) 0 1 nr,AL.v (Value.int IntKind.i64 sl)]):LObj TI},{ty:=39,sz:=1,fix:=true,o:=some (LO.cells [AL.sl (Tg.m TI.feed) 0 3 nf,AL.v (Value.int IntKind.i64 t),AL.v (Value.int IntKind.i64 u)]):LObj TI},{ty:=139,sz:=1,fix:=true,o:=some (LO.cells [AL.v hv_]):LObj TI}] []) else some (nrmM [(6,TV.l (AL.p (Tg.m TI.cell) 0 1 0)),(9,TV.l (AL.p (Tg.m TI.fed) 0 1 0))] val.fst [{ty:=35,sz:=1,fix:=true,o:=some (LO.cells [AL.sl (Tg.m TI.bodies) 0 1 nb,AL.sl (Tg.m TI.rooms) 0 1 nr,AL.v (Value.int IntKind.i64 sl)]):LObj TI},{ty:=39,sz:=1,fix:=true,o:=some (LO.cells [AL.sl (Tg.m TI.feed) 0 3 nf,AL.v (Value.int IntKind.i64 t),AL.v (Value.int IntKind.i64 u)]):LObj TI},{ty:=139,sz:=1,fix:=true,o:=some (LO.cells [AL.v hv_]):LObj TI}] []):=by kernel_rfl
abbrev fr69:AFr TI:=[(6,clV),(9,fdV)]
def endE (J:Act→World→Prop)(id:Nat)(K:Act→World→Prop):Post
 |.normal,a,w=>J a w
 |.exit i,a,w=>i=id∧K a w
 |_,_,_=>False
theorem endE_put {J:Act→World→Prop}{id:Nat}{K:Act→World→Prop}:∀c (d:Option Tmp) v a w,endE J id K (.panic c) (a.put d v) w→endE J id K (.panic c) a w:=fun _ _ _ _ _ h=>h
theorem nats_take (l:List Nat):toNats (l.map Int.ofNat)=some l:=by
 induction l with
 |nil=>rfl
 |cons x l ih=>simp[toNats,ih]
theorem rowH (m:IM)(i0:Nat)(r:List Nat)(hr:m.row=i0::r)(hl:r.length<1000000)(nb nr nf:Nat)(sl t u:Int)(hv_:Value)(i:Int):segM (wb:=wb) (hv:=hv) (hk:=hk) (opJ _) (tabA.at pkA gkA) [] [] wk66 600 Try.f66.ntmps gH [clV,fdV,iV i] m [obPl nb nr sl,obIn nf t u,obHk hv_] []=some (nrmM [(6,clV),(9,fdV),(10,iV i)] (m.wRow r) [obPl nb nr sl,obIn nf t u,obHk hv_] []):=by
 rw[rawH,hr]
 have e1:(((i0::r).length:Int) - 1).toNat=r.length:=by simp
 have e2:List.take r.length (List.drop (Int.toNat 1) ((i0::r).map Int.ofNat))=r.map Int.ofNat:=by
  show List.take r.length (r.map Int.ofNat)=_
  exact List.take_of_length_le (by simp)
 have g1:r.length*8≤140737488355328:=by omega
 have g2:r.length≤9223372036854775807:=by omega
 have hb:Nat.ble r.length 9223372036854775807=true:=Nat.ble_eq_true_of_le g2
 have e3:Int.toNat 1+r.length≤(i0::r).length:=by simp only[List.length_cons];show 1+r.length≤_;omega
 have e4:(1:Int)≤((i0::r).length:Int):=by simp only[List.length_cons];omega
 have e5:List.take r.length (r.map Int.ofNat)=r.map Int.ofNat:=List.take_of_length_le (by simp);simp only[e1,e2,g1,g2,e3,e4,Nat.le_refl,Int.le_refl,true_and,and_self,if_true,List.length_map,hb,cond_true,Nat.zero_add,List.drop_zero,e5,nats_take,Option.bind_some,(by decide:(0:Int)≤1)]
theorem main_wp {F:Nat}(hT:PCtrOk (D:=DM wb hv hk) PG 87 (cTurn F wb hv hk))(hP:PCtrOk (D:=DM wb hv hk) PG 88 (cPass F wb hv hk)){B:Base (DM wb hv hk)}(hpk:B.pk=pkA)(hgk:B.gk=gkA){nb nr nf:Nat}{sl t u:Int}{hv_:Value}{ds:List Deferred}{m':IM}{c':Int}{Q:Post}(hfin:∀S a w,FrmA Try.f66.ntmps ds a S [(6,clV)]→Rel B m' [obPl nb nr sl,obIn nf t u,obHk hv_] [] S w→Q (.panic [{v:=panV c',recovered:=false}]) a w):
  ∀(g:Nat) (m:IM) (S:Sto (Tg TI)) (a:Act) (w:World),IM.mainQ F g m=some (m',c')→FrmA Try.f66.ntmps ds a S fr69→Rel B m [obPl nb nr sl,obIn nf t u,obHk hv_] [] S w→cL.wp PG Q a w:=by
 intro g m S a w h hF R
 have e2:∀Q':Post,postK PG (fun _=>True) [] Q'=Q':=fun Q'=>by funext e a w;cases e<;>rfl
 have of:∀{K:List KI} {Q':Post} {a:Act} {w:World} {c:Code},WPK PG (fun _=>True) (.code c::K) Q' a w→c.wp PG (postK PG (fun _=>True) K Q') a w:=fun h=>by rw[WPK_code] at h;exact h
 have to:∀{K:List KI} {Q':Post} {a:Act} {w:World} {c:Code},c.wp PG (postK PG (fun _=>True) K Q') a w→WPK PG (fun _=>True) (.code c::K) Q' a w:=fun h=>by rw[WPK_code];exact h
 have TA:TabA.Ok PG (tabA.at pkA gkA):=tabAOk.at _ _;have HK:OpOk PG (withP (opJ _) [(87,cTurn F wb hv hk),(88,cPass F wb hv hk)]):=withP_ok (opJ_ok) (PEnvOk.cons hT (PEnvOk.cons hP PEnvOk.nil))
 let I:Nat→Act→World→Prop:=fun g a w=>∃m S,IM.mainQ F g m=some (m',c')∧FrmA Try.f66.ntmps ds a S fr69∧Rel B m [obPl nb nr sl,obIn nf t u,obHk hv_] [] S w
 have main:WPK PG (fun _=>True) [.code cL] Q a w:=by
  rw[cL_eq]
  refine K_block ?_
  refine to ?_
  refine wp_loop_ghost I g ⟨m,S,h,hF,R⟩ fun g a w hI=>?_
  have hg0:∀k,k≤g→∀a w,I k a w→WPK PG (fun _=>True) [.code (.block 4 (.loop cIn)),.code c19,.blk 3] (Exit.then (fun a' w'=>∃g',g'<g∧I g' a' w') (postK PG (fun _=>True) [.blk 2] Q)) a w:=fun k hkg a w hI=>by
   refine K_block ?_
   refine to ?_
   have hg1:∃k,k≤g∧I k a w:=⟨k,hkg,hI⟩
   refine wp_loop_ghost (fun k a w=>k≤g∧I k a w) k ⟨hkg,hI⟩ fun k a w hI=>?_
   obtain⟨hkg,m,S,h,hF,R⟩:=hI
   cases k with
   |zero=>cases h
   |succ k=>
   simp only[IM.mainQ] at h
   have in1:WPK PG (fun _=>True) [.code cIn] (Exit.then (fun a' w'=>∃n',n'<k+1∧n'≤g∧I n' a' w') (postK PG (fun _=>True) [.blk 4,.code c19,.blk 3] (Exit.then (fun a' w'=>∃g',g'<g∧I g' a' w') (postK PG (fun _=>True) [.blk 2] Q)))) a w:=by
    rw[cIn_eq]
    refine K_seq ?_
    refine to ?_
    cases hr:m.row with
    |nil=>
     rw[hr] at h;have hraw:segF (D:=DM wb hv hk) (opJ _) (tabA.at pkA gkA) [] [] wk66 600 Try.f66.ntmps gF [clV,fdV] m [obPl nb nr sl,obIn nf t u,obHk hv_] []=some (exM 4 fr69 m [obPl nb nr sl,obIn nf t u,obHk hv_] []):=(rawF m nb nr nf sl t u hv_).trans (by rw[hr];rfl)
     refine wp_mono (seg_wp TA (mdI_ok _) mixOk (opJ_ok) EnvOk.nil (LpOk.nil) (by kernel_rfl) hpk.symm hgk.symm hraw (endE_put (J:=fun _ _=>False) (id:=4) (K:=fun a w=>c19.wp PG (postK PG (fun _=>True) [.blk 3] (Exit.then (fun a' w'=>∃g',g'<g∧I g' a' w') (postK PG (fun _=>True) [.blk 2] Q))) a w)) (fun S1 a1 w1 hF1 R1=>⟨rfl,?_⟩) hF R) fun e a w he=>?_
     ·cases hq:IM.passQ F m with
      |none=>rw[hq] at h;cases h
      |some q=>
       rw[hq] at h
       simp only at h
       cases hpan:q.2.isPan with
       |true=>
        rw[hpan] at h;simp only[cond_true,Option.some.injEq,Prod.mk.injEq] at h;obtain⟨h1,h2⟩:=h;have hraw:opsF (D:=DM wb hv hk) (withP (opJ _) [(87,cTurn F wb hv hk),(88,cPass F wb hv hk)]) (tabA.at pkA gkA) [] Try.f66.ntmps c19 [6,9] [6,9] [6] 3 3 [clV,fdV] m [obPl nb nr sl,obIn nf t u,obHk hv_] []=some (pnM (panV q.2.num) [(6,clV)] q.1 [obPl nb nr sl,obIn nf t u,obHk hv_] []):=(rawP m nb nr nf sl t u hv_ F).trans (by rw[hq,Option.bind_some,hpan];rfl)
        exact ops_wp TA (mdI_ok _) HK EnvOk.nil c19_eq hpk.symm hgk.symm hraw (fun S2 a2 w2 hF2 R2=>by
         have:=hfin S2 a2 w2 hF2 (h1 ▸ R2);rw[←h2] at this
         exact this) hF1 R1
       |false=>
        rw[hpan] at h;have hraw:opsF (D:=DM wb hv hk) (withP (opJ _) [(87,cTurn F wb hv hk),(88,cPass F wb hv hk)]) (tabA.at pkA gkA) [] Try.f66.ntmps c19 [6,9] [6,9] [6] 3 3 [clV,fdV] m [obPl nb nr sl,obIn nf t u,obHk hv_] []=some (nrmM fr69 q.1 [obPl nb nr sl,obIn nf t u,obHk hv_] []):=(rawP m nb nr nf sl t u hv_ F).trans (by rw[hq,Option.bind_some,hpan];rfl);exact ops_wp TA (mdI_ok _) HK EnvOk.nil c19_eq hpk.symm hgk.symm hraw (fun S2 a2 w2 hF2 R2=>⟨k,by omega,q.1,S2,h,hF2,R2⟩) hF1 R1
     ·cases e with
      |exit i=>
       obtain⟨rfl,he⟩:=he;exact he
      |normal=>exact he.elim
      |ret=>exact he.elim
      |panic c=>exact he.elim
      |goto l=>exact he.elim
      |outgrown=>exact he.elim
    |cons i r=>
     rw[hr] at h
     simp only at h
     split at h
     case isFalse=>cases h
     rename_i hlen
     have hraw:segF (D:=DM wb hv hk) (opJ _) (tabA.at pkA gkA) [] [] wk66 600 Try.f66.ntmps gF [clV,fdV] m [obPl nb nr sl,obIn nf t u,obHk hv_] []=some (nrmM fr69 m [obPl nb nr sl,obIn nf t u,obHk hv_] []):=(rawF m nb nr nf sl t u hv_).trans (by
      rw[hr,decide_eq_true (show ((i::r).length:Int)>0 by simp only[List.length_cons];omega)]
      rfl)
     refine wp_mono (seg_wp TA (mdI_ok _) mixOk (opJ_ok) EnvOk.nil (LpOk.nil) (by kernel_rfl) hpk.symm hgk.symm hraw (endQ_put (J:=fun a w=>postK PG (fun _=>True) [.code (.block 5 (.seq gG.c (.seq gH.c c18)))] (Exit.then (fun a' w'=>∃n',n'<k+1∧n'≤g∧I n' a' w') (postK PG (fun _=>True) [.blk 4,.code c19,.blk 3] (Exit.then (fun a' w'=>∃g',g'<g∧I g' a' w') (postK PG (fun _=>True) [.blk 2] Q)))) .normal a w)) (fun S1 a1 w1 hF1 R1=>?_) hF R) fun e a w he=>?_
     ·show WPK PG (fun _=>True) [.code (.block 5 (.seq gG.c (.seq gH.c c18)))] _ a1 w1
      refine K_block ?_
      refine K_seq ?_
      refine to ?_
      have hrawG:segF (D:=DM wb hv hk) (opJ _) (tabA.at pkA gkA) [] [] wk66 600 Try.f66.ntmps gG [clV,fdV] m [obPl nb nr sl,obIn nf t u,obHk hv_] []=some (nrmM [(6,clV),(9,fdV),(10,iV i)] m [obPl nb nr sl,obIn nf t u,obHk hv_] []):=(rawG m nb nr nf sl t u hv_).trans (by
       rw[hr]
       have e1:(0:Int)<((i::r).length:Int):=by simp only[List.length_cons];omega
       simp only[Nat.zero_add,Nat.le_refl,Int.le_refl,e1,and_self,if_true]
       rfl)
      refine wp_mono (seg_wp TA (mdI_ok _) mixOk (opJ_ok) EnvOk.nil (LpOk.nil) (by kernel_rfl) hpk.symm hgk.symm hrawG (endQ_put (J:=fun a w=>postK PG (fun _=>True) [.code (.seq gH.c c18),.blk 5] (Exit.then (fun a' w'=>∃n',n'<k+1∧n'≤g∧I n' a' w') (postK PG (fun _=>True) [.blk 4,.code c19,.blk 3] (Exit.then (fun a' w'=>∃g',g'<g∧I g' a' w') (postK PG (fun _=>True) [.blk 2] Q)))) .normal a w)) (fun S2 a2 w2 hF2 R2=>?_) hF1 R1) fun e a w he=>?_
      ·show WPK PG (fun _=>True) [.code (.seq gH.c c18),.blk 5] _ a2 w2
       refine K_seq ?_
       refine to ?_
       refine wp_mono (seg_wp TA (mdI_ok _) mixOk (opJ_ok) EnvOk.nil (LpOk.nil) (by kernel_rfl) hpk.symm hgk.symm (rowH m i r hr hlen nb nr nf sl t u hv_ i) (endQ_put (J:=fun a w=>postK PG (fun _=>True) [.code c18,.blk 5] (Exit.then (fun a' w'=>∃n',n'<k+1∧n'≤g∧I n' a' w') (postK PG (fun _=>True) [.blk 4,.code c19,.blk 3] (Exit.then (fun a' w'=>∃g',g'<g∧I g' a' w') (postK PG (fun _=>True) [.blk 2] Q)))) .normal a w)) (fun S3 a3 w3 hF3 R3=>?_) hF2 R2) fun e a w he=>?_
       ·show WPK PG (fun _=>True) [.code c18,.blk 5] _ a3 w3
        refine to ?_
        cases hq:IM.turnQ F (m.wRow r) i with
        |none=>rw[hq] at h;cases h
        |some q=>
         rw[hq] at h
         simp only at h
         cases hpan:q.2.isPan with
         |true=>
          rw[hpan] at h;simp only[cond_true,Option.some.injEq,Prod.mk.injEq] at h;obtain⟨h1,h2⟩:=h;have hraw:opsF (D:=DM wb hv hk) (withP (opJ _) [(87,cTurn F wb hv hk),(88,cPass F wb hv hk)]) (tabA.at pkA gkA) [] Try.f66.ntmps c18 [6,9,10] [6,9] [6] 3 3 [clV,fdV,iV i] (m.wRow r) [obPl nb nr sl,obIn nf t u,obHk hv_] []=some (pnM (panV q.2.num) [(6,clV)] q.1 [obPl nb nr sl,obIn nf t u,obHk hv_] []):=(rawT (m.wRow r) nb nr nf sl t u hv_ i F).trans (by rw[Int.toNat_natCast,hq,Option.bind_some,hpan];rfl)
          exact ops_wp TA (mdI_ok _) HK EnvOk.nil c18_eq hpk.symm hgk.symm hraw (fun S2 a2 w2 hF2 R2=>by
           have:=hfin S2 a2 w2 hF2 (h1 ▸ R2);rw[←h2] at this
           exact this) hF3 R3
         |false=>
          rw[hpan] at h;have hraw:opsF (D:=DM wb hv hk) (withP (opJ _) [(87,cTurn F wb hv hk),(88,cPass F wb hv hk)]) (tabA.at pkA gkA) [] Try.f66.ntmps c18 [6,9,10] [6,9] [6] 3 3 [clV,fdV,iV i] (m.wRow r) [obPl nb nr sl,obIn nf t u,obHk hv_] []=some (nrmM fr69 q.1 [obPl nb nr sl,obIn nf t u,obHk hv_] []):=(rawT (m.wRow r) nb nr nf sl t u hv_ i F).trans (by rw[Int.toNat_natCast,hq,Option.bind_some,hpan];rfl);exact ops_wp TA (mdI_ok _) HK EnvOk.nil c18_eq hpk.symm hgk.symm hraw (fun S2 a2 w2 hF2 R2=>⟨k,by omega,by omega,q.1,S2,h,hF2,R2⟩) hF3 R3
       ·cases e with
        |normal=>exact he
        |exit i=>exact he.elim
        |ret=>exact he.elim
        |panic c=>exact he.elim
        |goto l=>exact he.elim
        |outgrown=>exact he.elim
      ·cases e with
       |normal=>exact he
       |exit i=>exact he.elim
       |ret=>exact he.elim
       |panic c=>exact he.elim
       |goto l=>exact he.elim
       |outgrown=>exact he.elim
     ·cases e with
      |normal=>exact he
      |exit i=>exact he.elim
      |ret=>exact he.elim
      |panic c=>exact he.elim
      |goto l=>exact he.elim
      |outgrown=>exact he.elim
   have:=of in1;rw[e2] at this;exact this
  have e:=hg0 g (Nat.le_refl _) a w hI;have:=K_block (id:=3) (K_seq e);rw[←cOut_eq] at this;have:=of this;rw[e2] at this;exact this
 have:=of main;rw[e2] at this;exact this
end Go.Beat
end
