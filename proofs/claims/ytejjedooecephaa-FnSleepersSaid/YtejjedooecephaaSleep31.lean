/-
  Texts joined by a program (shake.py), without what the claim does not use; printed walks among them (print.sh), and own ones.
-/
import Derived.Test.YtejjedooecephaaSleep17
import Derived.Test.YtejjedooecephaaSleep22
import Derived.Test.YtejjedooecephaaSleep28
import Derived.Test.YtejjedooecephaaSleep30
section
namespace Go.Beat
open Go _root_.Beat Go.Proofs
attribute [local simp] int_beq int_bne ble_dec
set_option maxRecDepth 100000
variable {wb:Nat} {hv:Value} {hk:Option Int}
theorem raw87p {wb:Nat}{hv:Value}{hk:Option Int}(m:IM)(i b n:Nat)(q:Bool):roundM (wb:=wb) (hv:=hv) (hk:=hk) (noOp _) (tabA.at [1,3,4,7,8,10,11,12,13] [6,7,8]) [] [] wk0 600 Try.f87 (loopsOf (loopC (loopsOf (bd Try.f87)) 0)) (lPop wb hv hk) [mchV,iV i,tskV i,stV b n,bV q] m [] []=m.tasks[i]?.bind fun val=>bif decide ((val.blocks.length:Int)>(0:Int)) then m.tasks[i]?.bind fun val=>m.tasks[i]?.bind fun val_1=>m.tasks[i]?.bind fun val_2=>m.tasks[i]?.bind fun val_3=>if 0+val_1.blocks.length≤val_3.blocks.length∧(0:Int)≤IntKind.i64.wrap ((val_2.blocks.length:Int) - (1:Int))∧IntKind.i64.wrap ((val_2.blocks.length:Int) - (1:Int))<(val_1.blocks.length:Int) then m.tasks[i]?.bind fun val_4=>(List.map pairRow val_4.blocks.reverse)[0+(IntKind.i64.wrap ((val_2.blocks.length:Int) - (1:Int))).toNat]?.bind fun (val_5:List Int)=>bif val.pc==val_5.getD (0+1) (0:Int) then m.tasks[i]?.bind fun val=>m.tasks[i]?.bind fun val_6=>m.tasks[i]?.bind fun val_7=>if 0+val.blocks.length≤val_7.blocks.length∧(0:Int)≤IntKind.i64.wrap ((val_6.blocks.length:Int) - (1:Int))∧IntKind.i64.wrap ((val_6.blocks.length:Int) - (1:Int))<(val.blocks.length:Int) then m.tasks[i]?.bind fun val=>(List.map pairRow val.blocks.reverse)[0+(IntKind.i64.wrap ((val_6.blocks.length:Int) - (1:Int))).toNat]?.bind fun (val:List Int)=>m.tasks[i]?.bind fun val_8=>m.tasks[i]?.bind fun val_9=>m.tasks[i]?.bind fun val_10=>if val_8.blocks.length≤val_10.blocks.length∧(0:Int)≤(0:Int)∧(0:Int)≤IntKind.i64.wrap ((val_9.blocks.length:Int) - (1:Int))∧IntKind.i64.wrap ((val_9.blocks.length:Int) - (1:Int))≤(val_8.blocks.length:Int) then if TI.tblocks i=TI.tblocks i then m.tasks[i]?.bind fun val_11=>if 0+(IntKind.i64.wrap ((val_9.blocks.length:Int) - (1:Int)) - (0:Int)).toNat≤(List.map pairRow val_11.blocks.reverse).length then m.tasks[i]?.bind fun val_12=>(toPairs (List.take (IntKind.i64.wrap ((val_9.blocks.length:Int) - (1:Int)) - (0:Int)).toNat (List.drop (0) (List.map pairRow val_11.blocks.reverse)))).bind fun (val_13:List (Int×Int))=>if k2=k2∧(IntKind.i64.wrap ((val_9.blocks.length:Int) - (1:Int)) - (0:Int)).toNat=val_13.length then m.p.bodies[b]?.bind fun (val_14:List Step)=>if 0+n≤val_14.length∧(0:Int)≤val.getD 0 (0:Int)∧val.getD 0 (0:Int)<(n:Int) then m.p.bodies[b]?.bind fun (val_15:List Step)=>(List.map stepRow val_15)[0+(val.getD 0 (0:Int)).toNat]?.bind fun (val_16:List Int)=>bif val_16.getD 0 (0:Int)==(15:Int) then (m.tasks.set i (val_12.wBlocks val_13.reverse))[i]?.bind fun val_17=>some (exM 2 [(0,mchV),(1,iV (i:Int)),(4,tskV i),(5,TV.l (AL.sl (Tg.m (TI.steps b)) 0 5 n)),(6,bV true)] ((m.setT i (val_12.wBlocks val_13.reverse)).setT i (val_17.wPc (val.getD 0 (0:Int)))) [] []) else some (nrmM [(0,mchV),(1,iV (i:Int)),(4,tskV i),(5,TV.l (AL.sl (Tg.m (TI.steps b)) 0 5 n)),(6,bV q)] (m.setT i (val_12.wBlocks val_13.reverse)) [] []) else none else none else none else none else none else none else some (exM 2 [(0,mchV),(1,iV (i:Int)),(4,tskV i),(5,TV.l (AL.sl (Tg.m (TI.steps b)) 0 5 n)),(6,bV q)] m [] []) else none else some (exM 2 [(0,mchV),(1,iV (i:Int)),(4,tskV i),(5,TV.l (AL.sl (Tg.m (TI.steps b)) 0 5 n)),(6,bV q)] m [] []):=by kernel_rfl
theorem raw87r {wb:Nat}{hv:Value}{hk:Option Int}(m:IM)(i b n:Nat):roundM (wb:=wb) (hv:=hv) (hk:=hk) (noOp _) (tabA.at [1,3,4,7,8,10,11,12,13] [6,7,8]) [(99,cNote wb hv hk),(100,cReady wb hv hk),(101,cFinish wb hv hk),(102,cStep wb hv hk)] [lPop wb hv hk] wk0 900 Try.f87 (loopsOf (bd Try.f87)) (lTurn 0 wb hv hk) [mchV,iV i,tskV i,stV b n] m [] []=m.tasks[i]?.bind fun val=>bif val.state==(1:Int) then bif m.used==m.p.slice then (m.ready i).bind fun val=>some (retM [] val [] []) else if i=i then m.p.bodies[b]?.bind fun (val:List Step)=>if n=val.length then (m.popT i val).bind fun (val_1:IM×Bool)=>val_1.fst.tasks[i]?.bind fun val_2=>bif val_2.pc==(val.length:Int) then (val_1.fst.note (3:Int) (i:Int) (0:Int)).bind fun val=>(val.finish (i:Int).toNat (6:Int)).bind fun val=>some (retM [] val [] []) else bif val_1.fst.ticks==val_1.fst.inp.ticks then some (pnM (Value.iface 155 (Value.agg {toList:=[i64 (2:Int)]:Array Value})) [] val_1.fst [] []) else val_1.fst.tasks[i]?.bind fun val_3=>val_1.fst.p.bodies[b]?.bind fun (val_4:List Step)=>if 0+val.length≤val_4.length∧(0:Int)≤val_3.pc∧val_3.pc<(val.length:Int) then val_1.fst.p.bodies[b]?.bind fun (val_5:List Step)=>(List.map stepRow val_5)[0+val_3.pc.toNat]?.bind fun (val_6:List Int)=>if i=(i:Int).toNat then (((val_1.fst.wTicks (IntKind.i64.wrap (val_1.fst.ticks+(1:Int)))).wUsed (IntKind.i64.wrap (val_1.fst.used+(1:Int)))).step (i:Int).toNat {op:=val_6.getD 0 (0:Int),a:=val_6.getD (0+1) (0:Int),b:=val_6.getD (0+1+1) (0:Int),n:=val_6.getD (0+1+1+1) (0:Int),size:=val_6.getD (0+1+1+1+1) (0:Int):Step}).bind fun val_7=>bif decide (i<val_1.fst.tasks.length) then bif decide (i<val_1.fst.tasks.length) then bif decide (i<val_1.fst.tasks.length) then bif decide (i<val_1.fst.tasks.length) then bif decide (i<val_1.fst.tasks.length) then bif decide (i<val_1.fst.tasks.length) then bif decide (i<val_1.fst.tasks.length) then bif decide (i<val_1.fst.tasks.length) then some (nrmM [(0,mchV),(1,iV (i:Int)),(4,tskV i),(5,TV.l (AL.sl (Tg.m (TI.steps b)) 0 5 val.length))] val_7 [] []) else none else none else none else none else none else none else none else none else none else none else none else none else some (exM 0 [] m [] []):=by kernel_rfl
theorem raw87 {wb:Nat}{hv:Value}{hk:Option Int}(m:IM)(i F:Nat):runM (wb:=wb) (hv:=hv) (hk:=hk) (noOp _) (tabA.at [1,3,4,7,8,10,11,12,13] [6,7,8]) [(99,cNote wb hv hk),(100,cReady wb hv hk),(101,cFinish wb hv hk),(102,cStep wb hv hk)] [lTurn F wb hv hk] wk0 900 Try.f87 [mchV,iV i] m=if 0+m.tasks.length≤m.tasks.length∧(0:Int)≤(i:Int)∧(i:Int)<(m.tasks.length:Int) then if 0+i<m.tasks.length then m.tasks[0+i]?.bind fun val=>((m.setT (0+i) (val.wState (1:Int))).note (1:Int) (i:Int) (0:Int)).bind fun val=>val.tasks[0+i]?.bind fun val_1=>if 0+val.p.bodies.length≤val.p.bodies.length∧(0:Int)≤val_1.body∧val_1.body<(val.p.bodies.length:Int) then val.p.bodies[0+val_1.body.toNat]?.bind fun (val_2:List Step)=>if 0+i=i then val.p.bodies[0+val_1.body.toNat]?.bind fun (val_3:List Step)=>if val_2.length=val_3.length then (IM.roundsQ i val_3 F (val.wUsed (0:Int))).bind fun (val:IM×RQ)=>bif val.snd.isOut then some (okM (TV.tup []) val.fst []) else bif val.snd.isRet then some (okM (TV.tup []) val.fst []) else bif val.snd.isPan then some (panM (Value.iface 155 (Value.agg {toList:=[i64 val.snd.num]:Array Value})) val.fst) else none else none else none else none else none else none:=by kernel_rfl
theorem setT_self {m:IM}{i:Nat}{t:ITask}(h:m.tasks[i]?=some t):m.setT i t=m:=by
 obtain⟨hi,ht⟩:=List.getElem?_eq_some_iff.1 h;unfold IM.setT;rw[←ht,List.set_getElem_self]
theorem wB_self {t:ITask}{bs:List (Int×Int)}{pc:Int}(h:t.blocks=bs)(h2:t.pc=pc):(t.wBlocks bs).wPc pc=t:=by
 subst h h2;rfl
theorem last_row (x:Int×Int)(bs:List (Int×Int)):(List.map pairRow (x::bs).reverse)[bs.length]?=some (pairRow x):=by simp
theorem most_rows (x:Int×Int)(bs:List (Int×Int)):toPairs (List.take bs.length (List.map pairRow (x::bs).reverse))=some bs.reverse:=by
 rw[List.reverse_cons,List.map_append,List.take_append_of_le_length (by simp)];rw[List.take_of_length_le (by simp),toPairs_pairs]
theorem wrap_pred {n:Nat}(h:n<1000000000):IntKind.i64.wrap (((n+1:Nat):Int) - 1)=(n:Int):=(wrap_small' (by omega) (by omega)).trans (by omega)
theorem pop_iter {i b:Nat}{l:List _root_.Beat.Step}(hl:l.length<1000000):∀(bs:List (Int×Int)) (m:IM) (t:ITask) (bs':List (Int×Int)) (pc':Int) (q':Bool),m.tasks[i]?=some t→t.blocks=bs→m.p.bodies[b]?=some l→bs.length<1000000→popQ l bs t.pc=some (bs',pc',q')→
  iterM (wb:=wb) (hv:=hv) (hk:=hk) (noOp _) (tabA.at [1,3,4,7,8,10,11,12,13] [6,7,8]) [] [] wk0 600 Try.f87 (loopsOf (loopC (loopsOf (bd Try.f87)) 0)) (lPop wb hv hk) (bs.length+1) [mchV,iV i,tskV i,stV b l.length,bV false] m [] []=some (exM 2 [(0,mchV),(1,iV i),(4,tskV i),(5,stV b l.length),(6,bV q')] (m.setT i ((t.wBlocks bs').wPc pc')) [] [])
 |[],m,t,bs',pc',q',ht,hb,hs,hn,h=>by
  simp only[popQ,Option.some.injEq,Prod.mk.injEq] at h;obtain⟨rfl,rfl,rfl⟩:=h;rw[wB_self hb rfl,setT_self ht]
  refine iterM_exit ?_ (fun s h=>by cases h)
  rw[raw87p];simp[ht,hb]
 |x::bs,m,t,bs',pc',q',ht,hb,hs,hn,h=>by
  simp only[List.length_cons] at hn;have hw:=wrap_pred (n:=bs.length) (by omega);have hlast:=last_row x bs;have hmost:=most_rows x bs;obtain⟨hi,ht'⟩:=List.getElem?_eq_some_iff.1 ht;unfold popQ at h;have hrev:(x::bs).reverse=bs.reverse++[x]:=List.reverse_cons
  split at h
  ·rename_i h1
   split at h
   ·rename_i h2
    split at h
    ·cases h
    ·rename_i s hst
     have hx:=get_some hst
     have h3:x.1<(l.length:Int):=by omega
     have hst':l[x.1.toNat]=s:=(List.getElem?_eq_some_iff.1 hst).2
     split at h
     ·rename_i h4
      simp only[Option.some.injEq,Prod.mk.injEq] at h;obtain⟨rfl,rfl,rfl⟩:=h
      refine iterM_exit ?_ (fun s h=>by cases h)
      rw[raw87p];simp only[ht,hb,some_bindT,List.length_cons,hw,Int.toNat_natCast,Int.sub_zero,Int.toNat_zero,List.drop_zero,Nat.zero_add,hlast,hmost,hs];simp[hi,ht',h1,h2,h3,hx,hst',h4,pairRow,stepRow,List.getElem?_eq_getElem,exM];omega
     ·rename_i h4
      have ih:=pop_iter (i:=i) hl bs (m.setT i (t.wBlocks bs)) (t.wBlocks bs) bs' pc' q' (by simp[hi]) rfl hs (by omega) h
      have e:(m.setT i (t.wBlocks bs)).setT i (((t.wBlocks bs).wBlocks bs').wPc pc')=m.setT i ((t.wBlocks bs').wPc pc'):=by simp
      rw[e] at ih;rw[←ih]
      refine iterM_succ [mchV,iV i,tskV i,stV b l.length,bV false] ?_
      rw[raw87p];simp only[ht,hb,some_bindT,List.length_cons,hw,Int.toNat_natCast,Int.sub_zero,Int.toNat_zero,List.drop_zero,Nat.zero_add,hlast,hmost,hs];simp[hi,ht',h1,h2,h3,hx,hst',h4,pairRow,stepRow,List.getElem?_eq_getElem,nrmM,lPop,zipK];omega
   ·cases h
  ·rename_i h1
   simp only[Option.some.injEq,Prod.mk.injEq] at h;obtain⟨rfl,rfl,rfl⟩:=h;rw[wB_self hb rfl,setT_self ht]
   refine iterM_exit ?_ (fun s h=>by cases h)
   rw[raw87p];simp only[ht,hb,some_bindT,List.length_cons,hw,Int.toNat_natCast,Nat.zero_add,hlast];simp[h1,pairRow];omega
theorem pop_lp {LS:List (Nat×Code)}(hLS:LS=(loopsOf (loopC (loopsOf (bd Try.f87)) 0))):LpOk PG (tabA.at [1,3,4,7,8,10,11,12,13] [6,7,8]) (DM wb hv hk) Try.f87.ntmps LS [lPop wb hv hk]:=by
 subst hLS
 refine mkLp (tabAOk.at _ _) (mdI_ok _) mixOk noOp_ok EnvOk.nil LpOk.nil (wk:=wk0) (N:=600) LpOk.nil (by kernel_rfl) fun vs m L dk κ x h0=>?_
 simp only[lPop] at h0
 split at h0
 ·obtain⟨i,rfl,h1⟩:=natOf_some h0
  clear h0
  split at h1
  case isFalse=>cases h1
  rename_i hi;subst hi
  split at h1
  ·cases h1
  rename_i l hl
  split at h1
  case isFalse=>cases h1
  rename_i hn;subst hn
  split at h1
  ·cases h1
  rename_i q hq;simp only[IM.popT,bind,Option.bind_eq_some_iff] at hq;obtain⟨t,ht,⟨bs',pc',q'⟩,hp,hq⟩:=hq;simp only[Option.ite_none_right_eq_some,Option.some.injEq] at hq;obtain⟨⟨hbl,hll⟩,rfl⟩:=hq;exact⟨_,_,pop_iter hll t.blocks m t bs' pc' q' ht rfl hl hbl hp,h1⟩
 ·cases h0
variable (hN:CtrOk (D:=DM wb hv hk) PG 99 (cNote wb hv hk)) (hS:CtrOk (D:=DM wb hv hk) PG 102 (cStep wb hv hk)) (hFi:CtrOk (D:=DM wb hv hk) PG 101 (cFinish wb hv hk))
include hN hS hFi
theorem turn_env:EnvOk PG [(99,cNote wb hv hk),(100,cReady wb hv hk),(101,cFinish wb hv hk),(102,cStep wb hv hk)]:=EnvOk.cons hN (EnvOk.cons ready_ok (EnvOk.cons hFi (EnvOk.cons hS EnvOk.nil)))
omit hN hS hFi
def outM (m:IM):RQ→Stop (DM wb hv hk)
 |.out=>exM 0 [] m [] []
 |.ret=>retM [] m [] []
 |.pan c=>pnM (panV c) [] m [] []
 |.go=>nrmM [] m [] []
theorem round_raw {i b:Nat}{l:List _root_.Beat.Step}{m m':IM}{q:RQ}(hb:m.p.bodies[b]?=some l)(hp:∀q,m.popT i l=some q→q.1.p.bodies[b]?=some l)(h:m.roundQ i l=some (m',q)):
  roundM (wb:=wb) (hv:=hv) (hk:=hk) (noOp _) (tabA.at [1,3,4,7,8,10,11,12,13] [6,7,8]) [(99,cNote wb hv hk),(100,cReady wb hv hk),(101,cFinish wb hv hk),(102,cStep wb hv hk)] [lPop wb hv hk] wk0 900 Try.f87 (loopsOf (bd Try.f87)) (lTurn 0 wb hv hk) [mchV,iV i,tskV i,stV b l.length] m [] []=some (match q with|.go=>nrmM (zipK [0,1,4,5] [mchV,iV i,tskV i,stV b l.length]) m' [] []|q=>outM (wb:=wb) (hv:=hv) (hk:=hk) m' q):=by
 rw[raw87r];simp only[IM.roundQ,bind,Option.bind_eq_some_iff] at h;obtain⟨t,ht,h⟩:=h
 split at h
 ·rename_i h1
  simp only[Option.some.injEq,Prod.mk.injEq] at h;obtain⟨rfl,rfl⟩:=h;simp[ht,h1,outM]
 ·rename_i h1
  have h1:t.state=1:=Decidable.not_not.1 h1
  split at h
  ·rename_i h2
   simp only[Option.bind_eq_some_iff,Option.some.injEq,Prod.mk.injEq] at h;obtain⟨m1,h3,rfl,rfl⟩:=h;simp[ht,h1,h2,h3,outM]
  ·rename_i h2
   simp only[Option.bind_eq_some_iff] at h;obtain⟨q1,h3,t1,h4,h⟩:=h;have hb1:=hp _ h3
   split at h
   ·rename_i h5
    simp only[Option.bind_eq_some_iff,Option.some.injEq,Prod.mk.injEq] at h;obtain⟨m2,h6,m3,h7,rfl,rfl⟩:=h;simp[ht,h1,h2,h3,hb,h4,h5,h6,h7,outM]
   ·rename_i h5
    split at h
    ·rename_i h6
     simp only[Option.some.injEq,Prod.mk.injEq] at h;obtain⟨rfl,rfl⟩:=h;simp[ht,h1,h2,h3,hb,h4,h5,h6,outM,panV]
    ·rename_i h6
     simp only[Option.bind_eq_some_iff,Option.some.injEq,Prod.mk.injEq] at h;obtain⟨k,hk2,⟨op,a,b',n,z⟩,hs,m2,h7,rfl,rfl⟩:=h;simp only[w64_wrap] at h7;have e:=chanNo_some hk2;have hlt:=get_some hs;have hi:=get_some h4;have e4:=(List.getElem?_eq_some_iff.1 hs).2;have e5:=(List.getElem?_eq_some_iff.1 h4).2;rw[e] at h5
     have h5':¬k=l.length:=fun e=>h5 (by rw[e])
     have h8:(k:Int)<(l.length:Int):=by omega
     simp[ht,h1,h2,h3,hb,hb1,h4,h5,h6,e,e5,hlt,hi,e4,h5',h8,stepRow,h7,zipK]
theorem popT_sm {m:IM}{i:Nat}{l:List _root_.Beat.Step}{q:IM×Bool}(h:m.popT i l=some q):Sm m q.1:=by
 simp only[IM.popT,bind,Option.bind_eq_some_iff] at h;obtain⟨t,_,⟨bs',pc',q'⟩,_,h⟩:=h;simp only[Option.ite_none_right_eq_some,Option.some.injEq] at h;obtain⟨_,rfl⟩:=h;exact⟨rfl,rfl,rfl,rfl⟩
theorem roundQ_sm {m m':IM}{i:Nat}{l:List _root_.Beat.Step}{q:RQ}(h:m.roundQ i l=some (m',q)):Sm m m':=by
 simp only[IM.roundQ,bind,Option.bind_eq_some_iff] at h;obtain⟨t,ht,h⟩:=h
 split at h
 ·simp only[Option.some.injEq,Prod.mk.injEq] at h
  rw[←h.1];exact Sm.refl _
 ·split at h
  ·simp only[Option.bind_eq_some_iff,Option.some.injEq,Prod.mk.injEq] at h
   obtain⟨m1,h3,rfl,_⟩:=h;exact ready_sm h3
  ·simp only[Option.bind_eq_some_iff] at h
   obtain⟨q1,h3,t1,h4,h⟩:=h
   refine (popT_sm h3).trans ?_
   split at h
   ·simp only[Option.bind_eq_some_iff,Option.some.injEq,Prod.mk.injEq] at h
    obtain⟨m2,h6,m3,h7,rfl,_⟩:=h;exact (note_sm h6).trans (finish_sm h7)
   ·split at h
    ·simp only[Option.some.injEq,Prod.mk.injEq] at h
     rw[←h.1];exact Sm.refl _
    ·simp only[Option.bind_eq_some_iff,Option.some.injEq,Prod.mk.injEq] at h
     obtain⟨k,hk2,s,hs,m2,h7,rfl,_⟩:=h;have:=step_sm h7;exact⟨this.1,this.2.1,this.2.2⟩
theorem rounds_iter {i b:Nat}{l:List _root_.Beat.Step}:∀(F:Nat) (m m':IM) (q:RQ),m.p.bodies[b]?=some l→m.roundsQ i l F=some (m',q)→
  q≠.go∧iterM (wb:=wb) (hv:=hv) (hk:=hk) (noOp _) (tabA.at [1,3,4,7,8,10,11,12,13] [6,7,8]) [(99,cNote wb hv hk),(100,cReady wb hv hk),(101,cFinish wb hv hk),(102,cStep wb hv hk)] [lPop wb hv hk] wk0 900 Try.f87 (loopsOf (bd Try.f87)) (lTurn 0 wb hv hk) F [mchV,iV i,tskV i,stV b l.length] m [] []=some (outM (wb:=wb) (hv:=hv) (hk:=hk) m' q)
 |0,m,m',q,hb,h=>by cases h
 |F+1,m,m',q,hb,h=>by
  simp only[IM.roundsQ] at h
  cases hr:m.roundQ i l with
  |none=>rw[hr] at h;cases h
  |some r=>
   obtain⟨m1,q1⟩:=r;rw[hr] at h;have hraw:=round_raw (wb:=wb) (hv:=hv) (hk:=hk) hb (fun q hq=>by rw[(popT_sm hq).1];exact hb) hr
   have hb1:m1.p.bodies[b]?=some l:=by rw[(roundQ_sm hr).1];exact hb
   cases q1 with
   |go=>
    simp only at h hraw
    obtain⟨h1,h2⟩:=rounds_iter F m1 m' q hb1 h;exact⟨h1,(iterM_succ [mchV,iV i,tskV i,stV b l.length] hraw).trans h2⟩
   |out=>
    simp only[Option.some.injEq,Prod.mk.injEq] at h;obtain⟨rfl,rfl⟩:=h;exact⟨by simp,iterM_exit hraw (fun s h=>by cases h)⟩
   |ret=>
    simp only[Option.some.injEq,Prod.mk.injEq] at h;obtain⟨rfl,rfl⟩:=h;exact⟨by simp,iterM_exit hraw (fun s h=>by cases h)⟩
   |pan c=>
    simp only[Option.some.injEq,Prod.mk.injEq] at h;obtain⟨rfl,rfl⟩:=h;exact⟨by simp,iterM_exit hraw (fun s h=>by cases h)⟩
include hN hS hFi
theorem turn_lp {LS:List (Nat×Code)}(F:Nat)(hLS:LS=(loopsOf (bd Try.f87))):LpOk PG (tabA.at [1,3,4,7,8,10,11,12,13] [6,7,8]) (DM wb hv hk) Try.f87.ntmps LS [lTurn F wb hv hk]:=by
 subst hLS
 refine mkLp (tabAOk.at _ _) (mdI_ok _) mixOk noOp_ok (turn_env hN hS hFi) LpOk.nil (wk:=wk0) (N:=900) (pop_lp rfl) (by kernel_rfl) fun vs m L dk κ x h0=>?_
 simp only[lTurn] at h0
 split at h0
 ·obtain⟨i,rfl,h1⟩:=natOf_some h0
  clear h0
  split at h1
  case isFalse=>cases h1
  rename_i hi;subst hi
  split at h1
  ·cases h1
  rename_i l hl
  split at h1
  case isFalse=>cases h1
  rename_i hn;subst hn
  split at h1
  ·cases h1
  rename_i q hq;obtain⟨m',q⟩:=q;obtain⟨h2,h3⟩:=rounds_iter (wb:=wb) (hv:=hv) (hk:=hk) F m m' q hl hq;refine⟨F,_,h3,?_⟩
  cases q with
  |go=>exact absurd rfl h2
  |out=>exact h1
  |ret=>exact h1
  |pan c=>exact h1
 ·cases h0
omit hN hS hFi
theorem roundsQ_ne {i:Nat}{l:List _root_.Beat.Step}:∀{F:Nat} {m m':IM} {q:RQ},m.roundsQ i l F=some (m',q)→q≠.go
 |0,m,m',q,h=>by cases h
 |F+1,m,m',q,h=>by
  simp only[IM.roundsQ] at h
  split at h
  ·cases h
  ·exact roundsQ_ne h
  ·rename_i q1 hn _
   intro e;simp only[Option.some.injEq] at h;subst h;subst e;exact hn _ rfl
theorem turnQ_ne {m m':IM}{i F:Nat}{q:RQ}(h:m.turnQ F i=some (m',q)):q≠.go:=by
 simp only[IM.turnQ,bind,Option.bind_eq_some_iff] at h;obtain⟨t,ht,m1,h1,t1,ht1,b,hb,l,hl,h⟩:=h;simp only[Option.ite_none_right_eq_some] at h;exact roundsQ_ne h.2
theorem turn_raw {m m':IM}{i F:Nat}{q:RQ}(h:m.turnQ F i=some (m',q))(hq:q≠.go):runM (wb:=wb) (hv:=hv) (hk:=hk) (noOp _) (tabA.at [1,3,4,7,8,10,11,12,13] [6,7,8]) [(99,cNote wb hv hk),(100,cReady wb hv hk),(101,cFinish wb hv hk),(102,cStep wb hv hk)] [lTurn F wb hv hk] wk0 900 Try.f87 [mchV,iV i] m=
  some (bif q.isPan then panM (panV q.num) m' else okM (.tup []) m' []):=by
 rw[raw87];simp only[IM.turnQ,bind,Option.bind_eq_some_iff] at h;obtain⟨t,ht,m1,h1,t1,ht1,b,hb,l,hl,h⟩:=h;simp only[Option.ite_none_right_eq_some] at h;obtain⟨hll,h⟩:=h;obtain⟨hi,ht'⟩:=List.getElem?_eq_some_iff.1 ht;obtain⟨hi1,ht1'⟩:=List.getElem?_eq_some_iff.1 ht1;obtain⟨hbl,hl'⟩:=List.getElem?_eq_some_iff.1 hl;have e:=chanNo_some hb
 have hbl':(b:Int)<(m1.p.bodies.length:Int):=by omega
 cases q with
 |go=>exact absurd rfl hq
 |_=>simp[hi,ht',h1,hi1,ht1',e,hbl,hbl',hl',h,RQ.isOut,RQ.isRet,RQ.isPan,RQ.num,panV]
include hN hS hFi
theorem turn_ok (F:Nat):PCtrOk (D:=DM wb hv hk) PG 87 (cTurn F wb hv hk):=mkPCtr tabAOk (mdI_ok _) mixOk noOp_ok (turn_env hN hS hFi) (fn:=Try.f87) (by kernel_rfl) (by kernel_rfl) (by kernel_rfl) [1,3,4,7,8,10,11,12,13] [6,7,8] (by kernel_rfl) (turn_lp hN hS hFi F rfl) fun vs st κ κp x h0=>by
 simp only[cTurn] at h0
 split at h0
 ·obtain⟨i,rfl,h1⟩:=natOf_some h0
  split at h1
  ·cases h1
  ·rename_i q hq
   obtain⟨m',q⟩:=q;have hne:=turnQ_ne hq;have hr:=turn_raw (wb:=wb) (hv:=hv) (hk:=hk) hq hne;refine⟨of_decide_eq_true rfl,bif q.isPan then panM (panV q.num) m' else okM (.tup []) m' [],?_,hr⟩
   cases q with
   |go=>exact absurd rfl hne
   |pan c=>exact h1
   |out=>exact h1
   |ret=>exact h1
 ·cases h0
end Go.Beat
end
section
namespace Go.Beat
open Go _root_.Beat Go.Proofs
attribute [local simp] int_beq int_bne ble_dec
set_option maxRecDepth 100000
variable {wb:Nat} {hv:Value} {hk:Option Int}
theorem raw123a {wb:Nat}{hv:Value}{hk:Option Int}(m:IM)(c i n j:Nat):roundM (wb:=wb) (hv:=hv) (hk:=hk) (noOp _) (tabA.at [12] []) [] [] wk0 300 Try.f123 (loopsOf (bd Try.f123)) (lUnline wb hv hk) [mchV,iV c,iV i,nilV,.l (.sl (.m (.takers c)) 0 1 n),iV n,iV j] m [] []=bif decide ((j:Int)<(n:Int)) then m.chans[c]?.bind fun val=>if 0+n≤val.takers.length∧(0:Int)≤(j:Int)∧(j:Int)<(n:Int) then m.chans[c]?.bind fun val=>(List.map Int.ofNat val.takers)[0+j]?.bind fun val=>bif val !=(i:Int) then some (nrmM [(0,mchV),(1,iV (c:Int)),(2,iV (i:Int)),(7,TV.l (AL.sl (Tg.loc 0) 0 1 1)),(20,TV.l (AL.sl (Tg.m (TI.takers c)) 0 1 n)),(21,iV (n:Int)),(22,iV (IntKind.i64.wrap ((j:Int)+(1:Int))))] m [{ty:=3,sz:=1,fix:=false,o:=some (LO.ints IntKind.i64 [val])}] []) else some (nrmM [(0,mchV),(1,iV (c:Int)),(2,iV (i:Int)),(7,TV.l (AL.v (Value.slice none 0 0))),(20,TV.l (AL.sl (Tg.m (TI.takers c)) 0 1 n)),(21,iV (n:Int)),(22,iV (IntKind.i64.wrap ((j:Int)+(1:Int))))] m [] []) else none else some (exM 0 [(0,mchV),(1,iV (c:Int)),(2,iV (i:Int)),(7,TV.l (AL.v (Value.slice none 0 0)))] m [] []):=by kernel_rfl
theorem raw123b {wb:Nat}{hv:Value}{hk:Option Int}(m:IM)(c i n j q:Nat)(ys:List Int):roundM (wb:=wb) (hv:=hv) (hk:=hk) (noOp _) (tabA.at [12] []) [] [] wk0 300 Try.f123 (loopsOf (bd Try.f123)) (lUnline wb hv hk) [mchV,iV c,iV i,.l (.sl (.loc 0) 0 1 q),.l (.sl (.m (.takers c)) 0 1 n),iV n,iV j] m [obI ys] []=bif decide ((j:Int)<(n:Int)) then m.chans[c]?.bind fun val=>if 0+n≤val.takers.length∧(0:Int)≤(j:Int)∧(j:Int)<(n:Int) then m.chans[c]?.bind fun val=>(List.map Int.ofNat val.takers)[0+j]?.bind fun val=>bif val !=(i:Int) then if 0+q≤ys.length∧(q+1)*8≤140737488355328∧q+1≤9223372036854775807 then bif (List.take q (List.drop 0 ys)++[val]).length.ble 9223372036854775807 then some (nrmM [(0,mchV),(1,iV (c:Int)),(2,iV (i:Int)),(7,TV.l (AL.sl (Tg.loc 0) 0 1 (q+1))),(20,TV.l (AL.sl (Tg.m (TI.takers c)) 0 1 n)),(21,iV (n:Int)),(22,iV (IntKind.i64.wrap ((j:Int)+(1:Int))))] m [{ty:=3,sz:=1,fix:=false,o:=some (LO.ints IntKind.i64 (List.take q (List.drop 0 ys)++[val]))}] []) else none else none else some (nrmM [(0,mchV),(1,iV (c:Int)),(2,iV (i:Int)),(7,TV.l (AL.sl (Tg.loc 0) 0 1 q)),(20,TV.l (AL.sl (Tg.m (TI.takers c)) 0 1 n)),(21,iV (n:Int)),(22,iV (IntKind.i64.wrap ((j:Int)+(1:Int))))] m [{ty:=3,sz:=1,fix:=false,o:=some (LO.ints IntKind.i64 ys)}] []) else none else some (exM 0 [(0,mchV),(1,iV (c:Int)),(2,iV (i:Int)),(7,TV.l (AL.sl (Tg.loc 0) 0 1 q))] m [{ty:=3,sz:=1,fix:=false,o:=some (LO.ints IntKind.i64 ys)}] []):=by kernel_rfl
theorem raw123 {wb:Nat}{hv:Value}{hk:Option Int}(m:IM)(c i:Nat):runM (wb:=wb) (hv:=hv) (hk:=hk) (noOp _) (tabA.at [12] []) [] [lUnline wb hv hk] wk0 300 Try.f123 [mchV,iV c,iV i] m=if 0+m.chans.length≤m.chans.length∧(0:Int)≤(c:Int)∧(c:Int)<(m.chans.length:Int) then if 0+c<m.chans.length then m.chans[0+c]?.bind fun val=>if 0+c=c∧(val.takers.length:Int)=(val.takers.length:Int) then m.chans[c]?.bind fun val_1=>if val.takers.length=val_1.takers.length∧val.takers.length<1000000 then bif (without val_1.takers i).isEmpty then if 0+m.chans.length≤m.chans.length∧(0:Int)≤(c:Int)∧(c:Int)<(m.chans.length:Int) then if 0+(c:Int).toNat<m.chans.length then m.chans[0+(c:Int).toNat]?.bind fun val=>some (okM (TV.tup []) (m.setC (0+(c:Int).toNat) (val.wTakers [])) []) else none else none else if 0+m.chans.length≤m.chans.length∧(0:Int)≤(c:Int)∧(c:Int)<(m.chans.length:Int) then if 0+(c:Int).toNat<m.chans.length then if 0+(without val_1.takers i).length≤(List.map Int.ofNat (without val_1.takers i)).length then m.chans[0+(c:Int).toNat]?.bind fun val=>(toNats (List.take (without val_1.takers i).length (List.drop 0 (List.map Int.ofNat (without val_1.takers i))))).bind fun (val_2:List Nat)=>if IntKind.i64=IntKind.i64∧(without val_1.takers i).length=val_2.length then some (okM (TV.tup []) (m.setC (0+(c:Int).toNat) (val.wTakers val_2)) []) else none else none else none else none else none else none else none else none:=by kernel_rfl
theorem raw103a {wb:Nat}{hv:Value}{hk:Option Int}(m:IM)(i n j:Nat):roundM (wb:=wb) (hv:=hv) (hk:=hk) (noOp _) (tabA.at [8,12] []) [(123,cUnline wb hv hk)] [] wk0 300 Try.f103 (loopsOf (bd Try.f103)) (lLeave wb hv hk) [mchV,iV i,.l (.sl (.m (.tchans i)) 0 1 n),iV n,iV j] m [] []=bif decide ((j:Int)<(n:Int)) then m.tasks[i]?.bind fun val=>if 0+n≤val.chans.length∧(0:Int)≤(j:Int)∧(j:Int)<(n:Int) then m.tasks[i]?.bind fun val=>(List.map Int.ofNat val.chans)[0+j]?.bind fun val=>if (0:Int)≤val then (m.unline val.toNat i).bind fun val=>some (nrmM [(0,mchV),(1,iV (i:Int)),(15,TV.l (AL.sl (Tg.m (TI.tchans i)) 0 1 n)),(16,iV (n:Int)),(17,iV (IntKind.i64.wrap ((j:Int)+(1:Int))))] (bif false then val.wArg m.arg else val) [] []) else none else none else some (exM 0 [(0,mchV),(1,iV (i:Int))] m [] []):=by kernel_rfl
theorem raw103 {wb:Nat}{hv:Value}{hk:Option Int}(m:IM)(i:Nat):runM (wb:=wb) (hv:=hv) (hk:=hk) (noOp _) (tabA.at [8,12] []) [(123,cUnline wb hv hk)] [lLeave wb hv hk] wk0 300 Try.f103 [mchV,iV i] m=if 0+m.tasks.length≤m.tasks.length∧(0:Int)≤(i:Int)∧(i:Int)<(m.tasks.length:Int) then if 0+i<m.tasks.length then m.tasks[0+i]?.bind fun val=>if 0+i=i∧(val.chans.length:Int)=(val.chans.length:Int) then m.tasks[i]?.bind fun val_1=>if val.chans.length=val_1.chans.length∧val.chans.length<1000000 then (IM.leaveLoop i val_1.chans m).bind fun val=>if 0+val.tasks.length≤val.tasks.length∧(0:Int)≤(i:Int)∧(i:Int)<(val.tasks.length:Int) then if 0+(i:Int).toNat<val.tasks.length then val.tasks[0+(i:Int).toNat]?.bind fun val_2=>some (okM (TV.tup []) (val.setT (0+(i:Int).toNat) (val_2.wChans [])) []) else none else none else none else none else none else none:=by kernel_rfl
theorem unline_iter (m:IM)(c i:Nat)(x:IChan)(hx:m.chans[c]?=some x)(hn:x.takers.length<1000000):∀(rest pre:List Nat),x.takers=pre++rest→
  iterM (wb:=wb) (hv:=hv) (hk:=hk) (noOp _) (tabA.at [12] []) [] [] wk0 300 Try.f123 (loopsOf (bd Try.f123)) (lUnline wb hv hk) (rest.length+1) [mchV,iV c,iV i,outV 0 (without pre i),.l (.sl (.m (.takers c)) 0 1 x.takers.length),iV x.takers.length,iV pre.length] m (outL (without pre i)) []
   =some (exM 0 [(0,mchV),(1,iV c),(2,iV i),(7,outV 0 (without x.takers i))] m (outL (without x.takers i)) [])
 |[],pre,h=>by
  simp only[List.append_nil] at h
  refine iterM_exit ?_ (fun s h=>by cases h)
  rw[h];generalize without pre i=ys
  cases ys with
  |nil=>simp only[outV,outL,List.isEmpty_nil,cond_true];rw[raw123a];simp
  |cons y ys=>simp only[outV,outL,List.isEmpty_cons,cond_false];rw[raw123b];simp
 |k::rest,pre,h=>by
  have ih:=unline_iter m c i x hx hn rest (pre++[k]) (by simp[h])
  have hlen:x.takers.length=pre.length+(rest.length+1):=by rw[h];simp
  have hj:pre.length<1000000000:=by omega
  have hlt:(pre.length:Int)<(x.takers.length:Int):=by omega
  have hk:x.takers[pre.length]?=some k:=by rw[h];simp
  rw[←ih];have hys:(without pre i).length≤pre.length:=List.length_filter_le _ _;rw[show without (pre++[k]) i=without pre i++without [k] i from List.filter_append ..];generalize without pre i=ys at hys
  by_cases hki:k=i
  ·have e:without [k] i=[]:=by simp[without,hki]
   rw[e,List.append_nil]
   refine iterM_succ [mchV,iV c,iV i,_,.l (.sl (.m (.takers c)) 0 1 x.takers.length),iV x.takers.length,iV (pre++[k]).length] ?_
   cases ys with
   |nil=>simp only[outV,outL,List.isEmpty_nil,cond_true];rw[raw123a];simp[hx,hk,hlt,wrap_succ hj,hki,lUnline,zipK,nrmM]
   |cons y ys=>simp only[outV,outL,List.isEmpty_cons,cond_false];rw[raw123b];simp[hx,hk,hlt,wrap_succ hj,hki,lUnline,zipK,nrmM]
  ·have e:without [k] i=[k]:=by simp[without,hki]
   rw[e]
   refine iterM_succ [mchV,iV c,iV i,_,.l (.sl (.m (.takers c)) 0 1 x.takers.length),iV x.takers.length,iV (pre++[k]).length] ?_
   have hki':(k:Int)≠i:=by omega
   cases ys with
   |nil=>simp only[outV,outL,List.isEmpty_nil,cond_true];rw[raw123a];simp[hx,hk,hlt,wrap_succ hj,hki',lUnline,zipK,nrmM]
   |cons y ys=>
    simp only[outV,outL,List.isEmpty_cons,cond_false];simp only[List.length_cons] at hys
    have g1:(ys.length+1+1)*8≤140737488355328:=by omega
    have g2:ys.length+1+1≤9223372036854775807:=by omega
    rw[raw123b];simp[hx,hk,hlt,wrap_succ hj,hki',lUnline,zipK,nrmM,g1,g2]
theorem unline_lp {LS:List (Nat×Code)}(hLS:LS=loopsOf (bd Try.f123)):LpOk PG (tabA.at [12] []) (DM wb hv hk) Try.f123.ntmps LS [lUnline wb hv hk]:=by
 subst hLS
 refine mkLp (tabAOk.at _ _) (mdI_ok _) mixOk noOp_ok EnvOk.nil LpOk.nil (wk:=wk0) (N:=300) LpOk.nil (by kernel_rfl) fun vs m L dk κ x h0=>?_
 simp only[lUnline] at h0
 split at h0
 ·obtain⟨c,rfl,h1⟩:=natOf_some h0
  obtain⟨i,rfl,h2⟩:=natOf_some h1;clear h0 h1
  split at h2
  ·rename_i h3
   obtain⟨rfl,rfl⟩:=h3
   split at h2
   ·cases h2
   ·rename_i y hy
    split at h2
    ·rename_i h4
     obtain⟨rfl,h4⟩:=h4;have:=unline_iter (wb:=wb) (hv:=hv) (hk:=hk) m _ i y hy h4 y.takers [] rfl;refine⟨_,_,this,?_⟩
     cases hb:(without y.takers i).isEmpty with
     |true=>rw[hb] at h2;simp only[outV,outL,hb,cond_true];exact h2
     |false=>rw[hb] at h2;simp only[outV,outL,hb,cond_false];exact h2
    ·cases h2
  ·cases h2
 ·cases h0
theorem unline_raw {m m':IM}{c i:Nat}(h:m.unline c i=some m'):runM (wb:=wb) (hv:=hv) (hk:=hk) (noOp _) (tabA.at [12] []) [] [lUnline wb hv hk] wk0 300 Try.f123 [mchV,iV c,iV i] m=some (okM (.tup []) m' []):=by
 rw[raw123];simp only[IM.unline,bind,Option.bind_eq_some_iff] at h;obtain⟨x,hx,u,hg,h⟩:=h;simp only[guardO] at hg
 split at hg
 ·rename_i hn
  simp only[Option.some.injEq] at h;subst h;obtain⟨hi,hx⟩:=List.getElem?_eq_some_iff.1 hx
  cases hb:(without x.takers i).isEmpty with
  |true=>
   have e:=List.isEmpty_iff.1 hb;simp[hi,hx,hn,hb,e]
  |false=>simp[hi,hx,hn,hb]
 ·cases hg
theorem unline_ok:CtrOk (D:=DM wb hv hk) PG 123 (cUnline wb hv hk):=mkCtr tabAOk (mdI_ok _) mixOk noOp_ok EnvOk.nil (fn:=Try.f123) (by kernel_rfl) (by kernel_rfl) (by kernel_rfl) [12] [] (by kernel_rfl) (unline_lp rfl) (I:=fun _=>True) (fun _ _ _ _=>trivial) fun vs st κ x h0=>by
 simp only[cUnline] at h0
 split at h0
 ·obtain⟨c,rfl,h1⟩:=natOf_some h0
  obtain⟨i,rfl,h2⟩:=natOf_some h1
  split at h2
  ·cases h2
  ·rename_i m' hm
   exact⟨of_decide_eq_true rfl,_,_,_,h2,fun _=>unline_raw hm⟩
 ·cases h0
theorem unline_tasks {m m':IM}{c i:Nat}(h:m.unline c i=some m'):m'.tasks=m.tasks:=by
 simp only[IM.unline,bind,Option.bind_eq_some_iff] at h;obtain⟨x,hx,u,hg,h⟩:=h;simp only[Option.some.injEq] at h;subst h;rfl
theorem leave_env:EnvOk PG [(123,cUnline wb hv hk)]:=EnvOk.cons unline_ok EnvOk.nil
theorem leave_iter (i:Nat)(t:ITask)(hn:t.chans.length<1000000):∀(rest pre:List Nat) (m m':IM),m.tasks[i]?=some t→t.chans=pre++rest→IM.leaveLoop i rest m=some m'→
  iterM (wb:=wb) (hv:=hv) (hk:=hk) (noOp _) (tabA.at [8,12] []) [(123,cUnline wb hv hk)] [] wk0 300 Try.f103 (loopsOf (bd Try.f103)) (lLeave wb hv hk) (rest.length+1) [mchV,iV i,.l (.sl (.m (.tchans i)) 0 1 t.chans.length),iV t.chans.length,iV pre.length] m [] []=some (exM 0 [(0,mchV),(1,iV i)] m' [] [])
 |[],pre,m,m',ht,h,hm=>by
  simp only[IM.leaveLoop,Option.some.injEq] at hm;subst hm;simp only[List.append_nil] at h
  refine iterM_exit ?_ (fun s h=>by cases h)
  rw[raw103a];simp[h]
 |c::rest,pre,m,m',ht,h,hm=>by
  simp only[IM.leaveLoop,bind,Option.bind_eq_some_iff] at hm;obtain⟨m1,h1,h2⟩:=hm
  have hlen:t.chans.length=pre.length+(rest.length+1):=by rw[h];simp
  have hlt:(pre.length:Int)<(t.chans.length:Int):=by omega
  have hk:t.chans[pre.length]?=some c:=by rw[h];simp
  rw[←leave_iter i t hn rest (pre++[c]) m1 m' (by rw[unline_tasks h1];exact ht) (by simp[h]) h2]
  refine iterM_succ [mchV,iV i,.l (.sl (.m (.tchans i)) 0 1 t.chans.length),iV t.chans.length,iV (pre++[c]).length] ?_
  rw[raw103a];simp[ht,hk,hlt,h1,wrap_succ (show pre.length<1000000000 by omega),lLeave,zipK,nrmM]
theorem leave_lp {LS:List (Nat×Code)}(hLS:LS=loopsOf (bd Try.f103)):LpOk PG (tabA.at [8,12] []) (DM wb hv hk) Try.f103.ntmps LS [lLeave wb hv hk]:=by
 subst hLS
 refine mkLp (tabAOk.at _ _) (mdI_ok _) mixOk noOp_ok leave_env LpOk.nil (wk:=wk0) (N:=300) LpOk.nil (by kernel_rfl) fun vs m L dk κ x h0=>?_
 simp only[lLeave] at h0
 split at h0
 ·obtain⟨i,rfl,h1⟩:=natOf_some h0
  clear h0
  split at h1
  ·rename_i h3
   obtain⟨rfl,rfl⟩:=h3
   split at h1
   ·cases h1
   ·rename_i t ht
    split at h1
    ·rename_i h4
     obtain⟨rfl,h4⟩:=h4
     split at h1
     ·cases h1
     ·rename_i m' hm
      exact⟨_,_,leave_iter _ t h4 t.chans [] m m' ht rfl hm,h1⟩
    ·cases h1
  ·cases h1
 ·cases h0
theorem leaveLoop_tasks {i:Nat}:∀{l:List Nat} {m m':IM},IM.leaveLoop i l m=some m'→m'.tasks=m.tasks
 |[],m,m',h=>by simp only[IM.leaveLoop,Option.some.injEq] at h;rw[h]
 |c::l,m,m',h=>by
  simp only[IM.leaveLoop,bind,Option.bind_eq_some_iff] at h;obtain⟨m1,h1,h2⟩:=h;rw[leaveLoop_tasks h2,unline_tasks h1]
theorem leave_raw {m m':IM}{i:Nat}(h:m.leave i=some m'):runM (wb:=wb) (hv:=hv) (hk:=hk) (noOp _) (tabA.at [8,12] []) [(123,cUnline wb hv hk)] [lLeave wb hv hk] wk0 300 Try.f103 [mchV,iV i] m=some (okM (.tup []) m' []):=by
 rw[raw103];simp only[IM.leave,bind,Option.bind_eq_some_iff] at h;obtain⟨t,ht,u,hg,m1,hm,t1,ht1,h⟩:=h;simp only[Option.some.injEq] at h;subst h;have e:=leaveLoop_tasks hm;rw[e] at ht1;rw[ht] at ht1;simp only[Option.some.injEq] at ht1;subst ht1;obtain⟨hi,ht⟩:=List.getElem?_eq_some_iff.1 ht;simp only[guardO] at hg
 split at hg
 ·rename_i hn
  simp[hi,ht,hn,hm,e]
 ·cases hg
theorem leave_ok:CtrOk (D:=DM wb hv hk) PG 103 (cLeave wb hv hk):=mkCtr tabAOk (mdI_ok _) mixOk noOp_ok leave_env (fn:=Try.f103) (by kernel_rfl) (by kernel_rfl) (by kernel_rfl) [8,12] [] (by kernel_rfl) (leave_lp rfl) (I:=fun _=>True) (fun _ _ _ _=>trivial) fun vs st κ x h0=>by
 simp only[cLeave] at h0
 split at h0
 ·obtain⟨i,rfl,h1⟩:=natOf_some h0
  split at h1
  ·cases h1
  ·rename_i m' hm
   exact⟨of_decide_eq_true rfl,_,_,_,h1,fun _=>leave_raw hm⟩
 ·cases h0
end Go.Beat
end
section
namespace Go.Beat
open Go _root_.Beat Go.Proofs
attribute [local simp] int_beq int_bne ble_dec
set_option maxRecDepth 100000
variable {wb:Nat} {hv:Value} {hk:Option Int}
theorem raw105 {wb:Nat}{hv:Value}{hk:Option Int}(m:IM)(c:Nat)(n:Int):runM (wb:=wb) (hv:=hv) (hk:=hk) (noOp _) (tabA.at [4,8,10,12] []) [(100,cReady wb hv hk),(103,cLeave wb hv hk),(104,cGets wb hv hk)] [] wk0 300 Try.f105 [mchV,iV c,iV n] m=if 0+m.chans.length≤m.chans.length∧(0:Int)≤(c:Int)∧(c:Int)<(m.chans.length:Int) then if 0+c<m.chans.length then m.chans[0+c]?.bind fun val=>bif decide ((val.takers.length:Int)>(0:Int)) then m.chans[0+c]?.bind fun val=>m.chans[0+c]?.bind fun val_1=>if 0+val.takers.length≤val_1.takers.length∧(0:Int)≤(0:Int)∧(0:Int)<(val.takers.length:Int) then m.chans[0+c]?.bind fun val=>(List.map Int.ofNat val.takers)[0+0]?.bind fun val=>if (0:Int)≤val then (m.leave val.toNat).bind fun val_2=>if (0:Int)≤val then ((bif false then val_2.wArg m.arg else val_2).gets val.toNat c n true).bind fun val_3=>if (0:Int)≤val then ((bif false then val_3.wArg (bif false then val_2.wArg m.arg else val_2).arg else val_3).ready val.toNat).bind fun val=>some (okM (bV true) (bif false then val.wArg (bif false then val_3.wArg (bif false then val_2.wArg m.arg else val_2).arg else val_3).arg else val) []) else none else none else none else none else m.chans[0+c]?.bind fun val_1=>m.chans[0+c]?.bind fun val_2=>bif decide ((val_1.nums.length:Int)<val_2.room) then m.chans[0+c]?.bind fun val_3=>m.chans[0+c]?.bind fun val_4=>if 0+val_3.nums.length≤val_4.nums.length∧(val_3.nums.length+1)*8≤140737488355328∧val_3.nums.length+1≤9223372036854775807 then bif (List.take val_3.nums.length (List.drop 0 val_4.nums)++[n]).length.ble 9223372036854775807 then if 0+(val_3.nums.length+1)≤(List.take val_3.nums.length (List.drop 0 val_4.nums)++[n]).length then if TI.nums (0+c)=TI.nums (0+c) then m.chans[0+c]?.bind fun val=>if IntKind.i64=IntKind.i64∧val_3.nums.length+1=(List.take (val_3.nums.length+1) (List.drop 0 (List.take val_3.nums.length (List.drop 0 val_4.nums)++[n]))).length then some (okM (bV true) (m.setC (0+c) (val.wNums (List.take (val_3.nums.length+1) (List.drop 0 (List.take val_3.nums.length (List.drop 0 val_4.nums)++[n]))))) []) else none else none else none else none else none else some (okM (bV false) m []) else none else none:=by kernel_rfl
theorem raw120 {wb:Nat}{hv:Value}{hk:Option Int}(m:IM)(c:Nat):runM (wb:=wb) (hv:=hv) (hk:=hk) (noOp _) (tabA.at [4,10,11] []) [(100,cReady wb hv hk)] [] wk0 300 Try.f120 [mchV,iV c] m=if 0+m.chans.length≤m.chans.length∧(0:Int)≤(c:Int)∧(c:Int)<(m.chans.length:Int) then if 0+c<m.chans.length then m.chans[0+c]?.bind fun val=>bif decide ((val.nums.length:Int)>(0:Int)) then m.chans[0+c]?.bind fun val_1=>m.chans[0+c]?.bind fun val_2=>if 0+val_1.nums.length≤val_2.nums.length∧(0:Int)≤(0:Int)∧(0:Int)<(val_1.nums.length:Int) then m.chans[0+c]?.bind fun val_3=>val_3.nums[0+0]?.bind fun val_4=>m.chans[0+c]?.bind fun val_5=>m.chans[0+c]?.bind fun val_6=>if val_5.nums.length≤val_6.nums.length∧(0:Int)≤(1:Int)∧(1:Int)≤(val_5.nums.length:Int)∧(val_5.nums.length:Int)≤(val_5.nums.length:Int) then m.chans[0+c]?.bind fun val_7=>if 1+((val_5.nums.length:Int) - (1:Int)).toNat≤val_7.nums.length then if ((val_5.nums.length:Int) - (1:Int)).toNat*8≤140737488355328∧((val_5.nums.length:Int) - (1:Int)).toNat≤9223372036854775807 then bif (List.take ((val_5.nums.length:Int) - (1:Int)).toNat (List.drop (1) val_7.nums)).length.ble 9223372036854775807 then if 0+((val_5.nums.length:Int) - (1:Int)).toNat≤(List.take ((val_5.nums.length:Int) - (1:Int)).toNat (List.drop (1) val_7.nums)).length then m.chans[0+c]?.bind fun val_8=>if IntKind.i64=IntKind.i64∧((val_5.nums.length:Int) - (1:Int)).toNat=(List.take ((val_5.nums.length:Int) - (1:Int)).toNat (List.drop 0 (List.take ((val_5.nums.length:Int) - (1:Int)).toNat (List.drop (1) val_7.nums)))).length then (m.chans.set (0+c) (val_8.wNums (List.take ((val_5.nums.length:Int) - (1:Int)).toNat (List.drop 0 (List.take ((val_5.nums.length:Int) - (1:Int)).toNat (List.drop (1) val_7.nums))))))[0+c]?.bind fun val_9=>bif decide ((val_9.senders.length:Int)>(0:Int)) then (m.chans.set (0+c) (val_8.wNums (List.take ((val_5.nums.length:Int) - (1:Int)).toNat (List.drop 0 (List.take ((val_5.nums.length:Int) - (1:Int)).toNat (List.drop (1) val_7.nums))))))[0+c]?.bind fun val_10=>(m.chans.set (0+c) (val_8.wNums (List.take ((val_5.nums.length:Int) - (1:Int)).toNat (List.drop 0 (List.take ((val_5.nums.length:Int) - (1:Int)).toNat (List.drop (1) val_7.nums))))))[0+c]?.bind fun val_11=>if 0+val_10.senders.length≤val_11.senders.length∧(0:Int)≤(0:Int)∧(0:Int)<(val_10.senders.length:Int) then (m.chans.set (0+c) (val_8.wNums (List.take ((val_5.nums.length:Int) - (1:Int)).toNat (List.drop 0 (List.take ((val_5.nums.length:Int) - (1:Int)).toNat (List.drop (1) val_7.nums))))))[0+c]?.bind fun val_12=>(List.map pairRow val_12.senders)[0+0]?.bind fun (val_13:List Int)=>(m.chans.set (0+c) (val_8.wNums (List.take ((val_5.nums.length:Int) - (1:Int)).toNat (List.drop 0 (List.take ((val_5.nums.length:Int) - (1:Int)).toNat (List.drop (1) val_7.nums))))))[0+c]?.bind fun val_14=>(m.chans.set (0+c) (val_8.wNums (List.take ((val_5.nums.length:Int) - (1:Int)).toNat (List.drop 0 (List.take ((val_5.nums.length:Int) - (1:Int)).toNat (List.drop (1) val_7.nums))))))[0+c]?.bind fun val_15=>if val_14.senders.length≤val_15.senders.length∧(0:Int)≤(1:Int)∧(1:Int)≤(val_14.senders.length:Int)∧(val_14.senders.length:Int)≤(val_14.senders.length:Int) then (m.chans.set (0+c) (val_8.wNums (List.take ((val_5.nums.length:Int) - (1:Int)).toNat (List.drop 0 (List.take ((val_5.nums.length:Int) - (1:Int)).toNat (List.drop (1) val_7.nums))))))[0+c]?.bind fun val_16=>if 1+((val_14.senders.length:Int) - (1:Int)).toNat≤(List.map pairRow val_16.senders).length then if ((val_14.senders.length:Int) - (1:Int)).toNat*16≤140737488355328∧((val_14.senders.length:Int) - (1:Int)).toNat≤9223372036854775807 then bif (List.take ((val_14.senders.length:Int) - (1:Int)).toNat (List.drop (1) (List.map pairRow val_16.senders))).length.ble 9223372036854775807 then if 0+((val_14.senders.length:Int) - (1:Int)).toNat≤(List.take ((val_14.senders.length:Int) - (1:Int)).toNat (List.drop (1) (List.map pairRow val_16.senders))).length then (m.chans.set (0+c) (val_8.wNums (List.take ((val_5.nums.length:Int) - (1:Int)).toNat (List.drop 0 (List.take ((val_5.nums.length:Int) - (1:Int)).toNat (List.drop (1) val_7.nums))))))[0+c]?.bind fun val_17=>(toPairs (List.take ((val_14.senders.length:Int) - (1:Int)).toNat (List.drop 0 (List.take ((val_14.senders.length:Int) - (1:Int)).toNat (List.drop (1) (List.map pairRow val_16.senders)))))).bind fun (val_18:List (Int×Int))=>if k2=k2∧((val_14.senders.length:Int) - (1:Int)).toNat=val_18.length then ((m.chans.set (0+c) (val_8.wNums (List.take ((val_5.nums.length:Int) - (1:Int)).toNat (List.drop 0 (List.take ((val_5.nums.length:Int) - (1:Int)).toNat (List.drop (1) val_7.nums)))))).set (0+c) (val_17.wSenders val_18))[0+c]?.bind fun val_19=>((m.chans.set (0+c) (val_8.wNums (List.take ((val_5.nums.length:Int) - (1:Int)).toNat (List.drop 0 (List.take ((val_5.nums.length:Int) - (1:Int)).toNat (List.drop (1) val_7.nums)))))).set (0+c) (val_17.wSenders val_18))[0+c]?.bind fun val_20=>if 0+val_19.nums.length≤val_20.nums.length∧(val_19.nums.length+1)*8≤140737488355328∧val_19.nums.length+1≤9223372036854775807 then bif (List.take val_19.nums.length (List.drop 0 val_20.nums)++[val_13.getD (0+1) (0:Int)]).length.ble 9223372036854775807 then if 0+(val_19.nums.length+1)≤(List.take val_19.nums.length (List.drop 0 val_20.nums)++[val_13.getD (0+1) (0:Int)]).length then if TI.nums (0+c)=TI.nums (0+c) then ((m.chans.set (0+c) (val_8.wNums (List.take ((val_5.nums.length:Int) - (1:Int)).toNat (List.drop 0 (List.take ((val_5.nums.length:Int) - (1:Int)).toNat (List.drop (1) val_7.nums)))))).set (0+c) (val_17.wSenders val_18))[0+c]?.bind fun val=>if IntKind.i64=IntKind.i64∧val_19.nums.length+1=(List.take (val_19.nums.length+1) (List.drop 0 (List.take val_19.nums.length (List.drop 0 val_20.nums)++[val_13.getD (0+1) (0:Int)]))).length then bif decide (val_13.getD 0 (0:Int)≥(0:Int)) then if (0:Int)≤val_13.getD 0 (0:Int) then ((((m.setC (0+c) (val_8.wNums (List.take ((val_5.nums.length:Int) - (1:Int)).toNat (List.drop 0 (List.take ((val_5.nums.length:Int) - (1:Int)).toNat (List.drop (1) val_7.nums)))))).setC (0+c) (val_17.wSenders val_18)).setC (0+c) (val.wNums (List.take (val_19.nums.length+1) (List.drop 0 (List.take val_19.nums.length (List.drop 0 val_20.nums)++[val_13.getD (0+1) (0:Int)]))))).ready (val_13.getD 0 (0:Int)).toNat).bind fun val=>some (okM (TV.tup [Sum.inl (AL.v (i64 val_4)),Sum.inl (AL.v (Value.bool true))]) (bif false then val.wArg m.arg else val) []) else none else some (okM (TV.tup [Sum.inl (AL.v (i64 val_4)),Sum.inl (AL.v (Value.bool true))]) (((m.setC (0+c) (val_8.wNums (List.take ((val_5.nums.length:Int) - (1:Int)).toNat (List.drop 0 (List.take ((val_5.nums.length:Int) - (1:Int)).toNat (List.drop (1) val_7.nums)))))).setC (0+c) (val_17.wSenders val_18)).setC (0+c) (val.wNums (List.take (val_19.nums.length+1) (List.drop 0 (List.take val_19.nums.length (List.drop 0 val_20.nums)++[val_13.getD (0+1) (0:Int)]))))) []) else none else none else none else none else none else none else none else none else none else none else none else none else some (okM (TV.tup [Sum.inl (AL.v (i64 val_4)),Sum.inl (AL.v (Value.bool true))]) (m.setC (0+c) (val_8.wNums (List.take ((val_5.nums.length:Int) - (1:Int)).toNat (List.drop 0 (List.take ((val_5.nums.length:Int) - (1:Int)).toNat (List.drop (1) val_7.nums)))))) []) else none else none else none else none else none else none else none else m.chans[0+c]?.bind fun val_1=>bif decide ((val_1.senders.length:Int)>(0:Int)) then m.chans[0+c]?.bind fun val_2=>m.chans[0+c]?.bind fun val_3=>if 0+val_2.senders.length≤val_3.senders.length∧(0:Int)≤(0:Int)∧(0:Int)<(val_2.senders.length:Int) then m.chans[0+c]?.bind fun val_4=>(List.map pairRow val_4.senders)[0+0]?.bind fun (val_5:List Int)=>m.chans[0+c]?.bind fun val_6=>m.chans[0+c]?.bind fun val_7=>if val_6.senders.length≤val_7.senders.length∧(0:Int)≤(1:Int)∧(1:Int)≤(val_6.senders.length:Int)∧(val_6.senders.length:Int)≤(val_6.senders.length:Int) then m.chans[0+c]?.bind fun val_8=>if 1+((val_6.senders.length:Int) - (1:Int)).toNat≤(List.map pairRow val_8.senders).length then if ((val_6.senders.length:Int) - (1:Int)).toNat*16≤140737488355328∧((val_6.senders.length:Int) - (1:Int)).toNat≤9223372036854775807 then bif (List.take ((val_6.senders.length:Int) - (1:Int)).toNat (List.drop (1) (List.map pairRow val_8.senders))).length.ble 9223372036854775807 then if 0+((val_6.senders.length:Int) - (1:Int)).toNat≤(List.take ((val_6.senders.length:Int) - (1:Int)).toNat (List.drop (1) (List.map pairRow val_8.senders))).length then m.chans[0+c]?.bind fun val=>(toPairs (List.take ((val_6.senders.length:Int) - (1:Int)).toNat (List.drop 0 (List.take ((val_6.senders.length:Int) - (1:Int)).toNat (List.drop (1) (List.map pairRow val_8.senders)))))).bind fun (val_9:List (Int×Int))=>if k2=k2∧((val_6.senders.length:Int) - (1:Int)).toNat=val_9.length then bif decide (val_5.getD 0 (0:Int)≥(0:Int)) then if (0:Int)≤val_5.getD 0 (0:Int) then ((m.setC (0+c) (val.wSenders val_9)).ready (val_5.getD 0 (0:Int)).toNat).bind fun val=>some (okM (TV.tup [Sum.inl (AL.v (i64 (val_5.getD (0+1) (0:Int)))),Sum.inl (AL.v (Value.bool true))]) (bif false then val.wArg m.arg else val) []) else none else some (okM (TV.tup [Sum.inl (AL.v (i64 (val_5.getD (0+1) (0:Int)))),Sum.inl (AL.v (Value.bool true))]) (m.setC (0+c) (val.wSenders val_9)) []) else none else none else none else none else none else none else none else some (okM (TV.tup [Sum.inl (AL.v (i64 (0:Int))),Sum.inl (AL.v (Value.bool false))]) m []) else none else none:=by kernel_rfl
theorem send_raw {m:IM}{q:IM×Bool}{c:Nat}{n:Int}(h:m.send c n=some q):runM (wb:=wb) (hv:=hv) (hk:=hk) (noOp _) (tabA.at [4,8,10,12] []) [(100,cReady wb hv hk),(103,cLeave wb hv hk),(104,cGets wb hv hk)] [] wk0 300 Try.f105 [mchV,iV c,iV n] m=some (okM (.l (.v (.bool q.2))) q.1 []):=by
 rw[raw105];simp only[IM.send,bind,Option.bind_eq_some_iff] at h;obtain⟨x,hx,h⟩:=h;obtain⟨hi,hx⟩:=List.getElem?_eq_some_iff.1 hx
 cases ht:x.takers with
 |cons k ks=>
  rw[ht] at h;simp only[Option.bind_eq_some_iff,Option.some.injEq] at h;obtain⟨m1,h1,m2,h2,m3,h3,rfl⟩:=h;simp[hi,hx,ht,h1,h2,h3]
 |nil=>
  rw[ht] at h
  simp only at h
  split at h
  ·rename_i hr
   simp only[Option.bind_eq_some_iff,Option.some.injEq] at h;obtain⟨nums,hp,rfl⟩:=h;obtain⟨hp,rfl⟩:=push_some hp
   have g1:(x.nums.length+1)*8≤140737488355328:=by omega
   have g2:x.nums.length+1≤9223372036854775807:=by omega
   have g3:x.nums.length≤9223372036854775806:=by omega
   simp[hi,hx,ht,hr,g1,g2,g3]
  ·rename_i hr
   simp only[Option.some.injEq] at h;subst h;simp[hi,hx,ht,hr]
theorem send_env:EnvOk PG [(100,cReady wb hv hk),(103,cLeave wb hv hk),(104,cGets wb hv hk)]:=EnvOk.cons ready_ok (EnvOk.cons leave_ok (EnvOk.cons gets_ok EnvOk.nil))
theorem send_ok:CtrOk (D:=DM wb hv hk) PG 105 (cSend wb hv hk):=mkCtr tabAOk (mdI_ok _) mixOk noOp_ok send_env (fn:=Try.f105) (by kernel_rfl) (by kernel_rfl) (by kernel_rfl) [4,8,10,12] [] (by kernel_rfl) LpOk.nil (I:=fun _=>True) (fun _ _ _ _=>trivial) fun vs st κ x h0=>by
 simp only[cSend] at h0
 split at h0
 ·obtain⟨c,rfl,h1⟩:=natOf_some h0
  split at h1
  ·cases h1
  ·rename_i m' hm
   exact⟨of_decide_eq_true rfl,_,_,_,h1,fun _=>send_raw hm⟩
 ·cases h0
theorem take_raw {m:IM}{q:IM×Int×Bool}{c:Nat}(h:m.take c=some q):runM (wb:=wb) (hv:=hv) (hk:=hk) (noOp _) (tabA.at [4,10,11] []) [(100,cReady wb hv hk)] [] wk0 300 Try.f120 [mchV,iV c] m=some (okM (.tup [.inl (.v (i64 q.2.1)),.inl (.v (.bool q.2.2))]) q.1 []):=by
 rw[raw120];simp only[IM.take,bind,Option.bind_eq_some_iff,guardO] at h;obtain⟨x,hx,u,hg,h⟩:=h;obtain⟨hi,hx⟩:=List.getElem?_eq_some_iff.1 hx
 split at hg
 ·rename_i hb
  obtain⟨hb1,hb2⟩:=hb
  cases hn:x.nums with
  |nil=>
   cases hs:x.senders with
   |nil=>
    rw[hn,hs] at h;simp only[Option.some.injEq] at h;subst h;simp[hi,hx,hn,hs]
   |cons w ws=>
    rw[hn,hs] at h;simp only[Option.bind_eq_some_iff,Option.some.injEq] at h;obtain⟨m1,h1,rfl⟩:=h;rw[hs] at hb2;simp only[List.length_cons] at hb2
    have g1:ws.length*16≤140737488355328:=by omega
    have g2:ws.length≤9223372036854775807:=by omega
    unfold IM.readyIf at h1
    split at h1
    ·rename_i h0
     simp[hi,hx,hn,hs,g1,g2,h0,h1,pairRow];omega
    ·rename_i h0
     simp only[Option.some.injEq] at h1;subst h1;simp[hi,hx,hn,hs,g1,g2,h0,pairRow];omega
  |cons y ys=>
   rw[hn] at hb1;simp only[List.length_cons] at hb1
   have f1:ys.length*8≤140737488355328:=by omega
   have f2:ys.length≤9223372036854775807:=by omega
   cases hs:x.senders with
   |nil=>
    rw[hn,hs] at h;simp only[Option.some.injEq] at h;subst h;simp[hi,hx,hn,hs,f1,f2];omega
   |cons w ws=>
    rw[hn,hs] at h;simp only[Option.bind_eq_some_iff,Option.some.injEq] at h;obtain⟨nums,hp,m1,h1,rfl⟩:=h;obtain⟨hp,rfl⟩:=push_some hp;rw[hs] at hb2;simp only[List.length_cons] at hb2
    have g1:ws.length*16≤140737488355328:=by omega
    have g2:ws.length≤9223372036854775807:=by omega
    have f3:(ys.length+1)*8≤140737488355328:=by omega
    have f4:ys.length+1≤9223372036854775807:=by omega
    have f5:ys.length≤9223372036854775806:=by omega
    unfold IM.readyIf at h1
    split at h1
    ·rename_i h0
     simp[hi,hx,hn,hs,g1,g2,f1,f2,f3,f4,f5,h0,h1,pairRow];omega
    ·rename_i h0
     simp only[Option.some.injEq] at h1;subst h1;simp[hi,hx,hn,hs,g1,g2,f1,f2,f3,f4,f5,h0,pairRow];omega
 ·cases hg
theorem take_env:EnvOk PG [(100,cReady wb hv hk)]:=EnvOk.cons ready_ok EnvOk.nil
theorem take_ok:CtrOk (D:=DM wb hv hk) PG 120 (cTake wb hv hk):=mkCtr tabAOk (mdI_ok _) mixOk noOp_ok take_env (fn:=Try.f120) (by kernel_rfl) (by kernel_rfl) (by kernel_rfl) [4,10,11] [] (by kernel_rfl) LpOk.nil (I:=fun _=>True) (fun _ _ _ _=>trivial) fun vs st κ x h0=>by
 simp only[cTake] at h0
 split at h0
 ·obtain⟨c,rfl,h1⟩:=natOf_some h0
  split at h1
  ·cases h1
  ·rename_i m' hm
   exact⟨of_decide_eq_true rfl,_,_,_,h1,fun _=>take_raw hm⟩
 ·cases h0
end Go.Beat
end
section
namespace Go.Beat
open Go _root_.Beat Go.Proofs
attribute [local simp] int_beq int_bne ble_dec
set_option maxRecDepth 100000
variable {wb:Nat} {hv:Value} {hk:Option Int}
theorem raw88a {wb:Nat}{hv:Value}{hk:Option Int}(m:IM)(x:Int)(n j:Nat):roundM (wb:=wb) (hv:=hv) (hk:=hk) (noOp _) (tabA.at pkP []) [] [] wk0 600 Try.f88 (loopsOf (bd Try.f88)) (lMin wb hv hk) [mchV,fedV,iV x,tsV n,iV n,iV j] m [] []=bif decide ((j:Int)<(n:Int)) then if 0+n≤m.tasks.length∧(0:Int)≤(j:Int)∧(j:Int)<(n:Int) then if 0+j<m.tasks.length then m.tasks[0+j]?.bind fun val=>bif decide (val.due≥(0:Int)) then bif decide (x<(0:Int)) then m.tasks[0+j]?.bind fun val=>some (nrmM [(0,mchV),(1,TV.l (AL.p (Tg.m TI.fed) 0 1 0)),(4,iV val.due),(17,TV.l (AL.sl (Tg.m TI.tasks) 0 1 n)),(18,iV (n:Int)),(19,iV (IntKind.i64.wrap ((j:Int)+(1:Int))))] m [] []) else m.tasks[0+j]?.bind fun val=>bif decide (val.due<x) then m.tasks[0+j]?.bind fun val=>some (nrmM [(0,mchV),(1,TV.l (AL.p (Tg.m TI.fed) 0 1 0)),(4,iV val.due),(17,TV.l (AL.sl (Tg.m TI.tasks) 0 1 n)),(18,iV (n:Int)),(19,iV (IntKind.i64.wrap ((j:Int)+(1:Int))))] m [] []) else some (nrmM [(0,mchV),(1,TV.l (AL.p (Tg.m TI.fed) 0 1 0)),(4,iV x),(17,TV.l (AL.sl (Tg.m TI.tasks) 0 1 n)),(18,iV (n:Int)),(19,iV (IntKind.i64.wrap ((j:Int)+(1:Int))))] m [] []) else some (nrmM [(0,mchV),(1,TV.l (AL.p (Tg.m TI.fed) 0 1 0)),(4,iV x),(17,TV.l (AL.sl (Tg.m TI.tasks) 0 1 n)),(18,iV (n:Int)),(19,iV (IntKind.i64.wrap ((j:Int)+(1:Int))))] m [] []) else none else none else some (exM 0 [(0,mchV),(1,TV.l (AL.p (Tg.m TI.fed) 0 1 0)),(4,iV x)] m [] []):=by kernel_rfl
theorem raw88b {wb:Nat}{hv:Value}{hk:Option Int}(m:IM)(n j:Nat):roundM (wb:=wb) (hv:=hv) (hk:=hk) (noOp _) (tabA.at pkP []) [] [] wk0 600 Try.f88 (loopsOf (bd Try.f88)) (lAny wb hv hk) [tsV n,iV n,iV j] m [] []=bif decide ((j:Int)<(n:Int)) then if 0+n≤m.tasks.length∧(0:Int)≤(j:Int)∧(j:Int)<(n:Int) then if 0+j<m.tasks.length then m.tasks[0+j]?.bind fun val=>bif val.state==(3:Int) then some (pnM (Value.iface 155 (Value.agg {toList:=[i64 (1:Int)]:Array Value})) [] m [] []) else m.tasks[0+j]?.bind fun val=>bif val.state==(4:Int) then some (pnM (Value.iface 155 (Value.agg {toList:=[i64 (1:Int)]:Array Value})) [] m [] []) else m.tasks[0+j]?.bind fun val=>bif val.state==(5:Int) then some (pnM (Value.iface 155 (Value.agg {toList:=[i64 (1:Int)]:Array Value})) [] m [] []) else some (nrmM [(90,TV.l (AL.sl (Tg.m TI.tasks) 0 1 n)),(91,iV (n:Int)),(92,iV (IntKind.i64.wrap ((j:Int)+(1:Int))))] m [] []) else none else none else some (exM 2 [] m [] []):=by kernel_rfl
theorem raw88c {wb:Nat}{hv:Value}{hk:Option Int}(m:IM)(x:Int)(n j:Nat):roundM (wb:=wb) (hv:=hv) (hk:=hk) (noOp _) (tabA.at pkP []) [] [] wk0 600 Try.f88 (loopsOf (loopC (loopsOf (bd Try.f88)) 4)) (lPickDue wb hv hk) [mchV,fedV,iV x,tsV n,iV n,iV j] m [] []=bif decide ((j:Int)<(n:Int)) then if 0+n≤m.tasks.length∧(0:Int)≤(j:Int)∧(j:Int)<(n:Int) then if 0+j<m.tasks.length then m.tasks[0+j]?.bind fun val=>bif decide (val.due≥(0:Int)) then m.tasks[0+j]?.bind fun val_1=>bif decide (val_1.due≤m.now) then bif decide (x<(0:Int)) then some (nrmM [(0,mchV),(1,TV.l (AL.p (Tg.m TI.fed) 0 1 0)),(9,iV (j:Int)),(154,TV.l (AL.sl (Tg.m TI.tasks) 0 1 n)),(155,iV (n:Int)),(156,iV (IntKind.i64.wrap ((j:Int)+(1:Int))))] m [] []) else m.tasks[0+j]?.bind fun val=>if 0+m.tasks.length≤m.tasks.length∧(0:Int)≤x∧x<(m.tasks.length:Int) then if 0+x.toNat<m.tasks.length then m.tasks[0+x.toNat]?.bind fun val_2=>bif decide (val.asked<val_2.asked) then some (nrmM [(0,mchV),(1,TV.l (AL.p (Tg.m TI.fed) 0 1 0)),(9,iV (j:Int)),(154,TV.l (AL.sl (Tg.m TI.tasks) 0 1 n)),(155,iV (n:Int)),(156,iV (IntKind.i64.wrap ((j:Int)+(1:Int))))] m [] []) else some (nrmM [(0,mchV),(1,TV.l (AL.p (Tg.m TI.fed) 0 1 0)),(9,iV x),(154,TV.l (AL.sl (Tg.m TI.tasks) 0 1 n)),(155,iV (n:Int)),(156,iV (IntKind.i64.wrap ((j:Int)+(1:Int))))] m [] []) else none else none else some (nrmM [(0,mchV),(1,TV.l (AL.p (Tg.m TI.fed) 0 1 0)),(9,iV x),(154,TV.l (AL.sl (Tg.m TI.tasks) 0 1 n)),(155,iV (n:Int)),(156,iV (IntKind.i64.wrap ((j:Int)+(1:Int))))] m [] []) else some (nrmM [(0,mchV),(1,TV.l (AL.p (Tg.m TI.fed) 0 1 0)),(9,iV x),(154,TV.l (AL.sl (Tg.m TI.tasks) 0 1 n)),(155,iV (n:Int)),(156,iV (IntKind.i64.wrap ((j:Int)+(1:Int))))] m [] []) else none else none else some (exM 6 [(0,mchV),(1,TV.l (AL.p (Tg.m TI.fed) 0 1 0)),(9,iV x)] m [] []):=by kernel_rfl
theorem raw88d {wb:Nat}{hv:Value}{hk:Option Int}(m:IM):roundM (wb:=wb) (hv:=hv) (hk:=hk) (noOp _) (tabA.at pkP []) [(100,cReady wb hv hk),(103,cLeave wb hv hk),(104,cGets wb hv hk)] [lPickDue wb hv hk] wk88 900 Try.f88 (loopsOf (bd Try.f88)) (lWake 0 wb hv hk) [mchV,fedV] m [] []=if (m.tasks.length:Int)=(m.tasks.length:Int)∧m.tasks.length=m.tasks.length∧m.tasks.length<1000000 then (pickDue m.now m.tasks m.tasks 0 (-1:Int)).bind fun val=>bif decide (val<(0:Int)) then some (exM 4 [(0,mchV),(1,TV.l (AL.p (Tg.m TI.fed) 0 1 0))] m [] []) else if 0+m.tasks.length≤m.tasks.length∧(0:Int)≤val∧val<(m.tasks.length:Int) then if 0+val.toNat<m.tasks.length then m.tasks[0+val.toNat]?.bind fun val_1=>bif val_1.state==(5:Int) then if 0+m.tasks.length≤m.tasks.length∧(0:Int)≤val∧val<(m.tasks.length:Int) then if 0+val.toNat<m.tasks.length then m.tasks[0+val.toNat]?.bind fun val_2=>m.tasks[0+val.toNat]?.bind fun val_3=>if 0+val_2.chans.length≤val_3.chans.length∧(0:Int)≤(0:Int)∧(0:Int)<(val_2.chans.length:Int) then m.tasks[0+val.toNat]?.bind fun val_4=>(List.map Int.ofNat val_4.chans)[0+0]?.bind fun val_5=>if (0:Int)≤val then (m.leave val.toNat).bind fun val_6=>if (0:Int)≤val then if (0:Int)≤val_5 then (val_6.gets val.toNat val_5.toNat (0:Int) false).bind fun val_7=>if (0:Int)≤val then (val_7.ready val.toNat).bind fun val=>some (nrmM [(0,mchV),(1,TV.l (AL.p (Tg.m TI.fed) 0 1 0))] val [] []) else none else none else none else none else none else none else none else if (0:Int)≤val then (m.ready val.toNat).bind fun val=>some (nrmM [(0,mchV),(1,TV.l (AL.p (Tg.m TI.fed) 0 1 0))] val [] []) else none else none else none else none:=by kernel_rfl
theorem raw88e {wb:Nat}{hv:Value}{hk:Option Int}(m:IM):roundM (wb:=wb) (hv:=hv) (hk:=hk) (noOp _) (tabA.at pkP []) [(99,cNote wb hv hk),(105,cSend wb hv hk)] [] wk88 900 Try.f88 (loopsOf (bd Try.f88)) (lFeed 0 wb hv hk) [mchV,fedV] m [] []=m.fed.bind fun val=>bif decide (val<(m.inp.feed.length:Int)) then m.fed.bind fun val_1=>if 0+m.inp.feed.length≤m.inp.feed.length∧(0:Int)≤val_1∧val_1<(m.inp.feed.length:Int) then (List.map eventRow m.inp.feed)[0+val_1.toNat]?.bind fun (val_2:List Int)=>bif decide (val_2.getD 0 (0:Int)≤m.now) then m.fed.bind fun val_3=>if 0+m.inp.feed.length≤m.inp.feed.length∧(0:Int)≤val_3∧val_3<(m.inp.feed.length:Int) then (List.map eventRow m.inp.feed)[0+val_3.toNat]?.bind fun (val_4:List Int)=>(m.note (6:Int) (-1:Int) (val_4.getD (0+1+1) (0:Int))).bind fun val_5=>val_5.fed.bind fun val_6=>val_5.fed.bind fun val_7=>if 0+val_5.chans.length≤val_5.chans.length∧(0:Int)≤val_4.getD (0+1) (0:Int)∧val_4.getD (0+1) (0:Int)<(val_5.chans.length:Int) then if 0+(val_4.getD (0+1) (0:Int)).toNat<val_5.chans.length then val_5.chans[0+(val_4.getD (0+1) (0:Int)).toNat]?.bind fun val_8=>bif val_8.closed then some (nrmM [(0,mchV),(1,TV.l (AL.p (Tg.m TI.fed) 0 1 0))] (val_5.wFed (some (IntKind.i64.wrap (val_6+(1:Int))))) [] []) else if (0:Int)≤val_4.getD (0+1) (0:Int) then ((val_5.wFed (some (IntKind.i64.wrap (val_6+(1:Int))))).send (val_4.getD (0+1) (0:Int)).toNat (val_4.getD (0+1+1) (0:Int))).bind fun (val_9:IM×Bool)=>bif !val_9.snd then if 0+val_9.fst.chans.length≤val_9.fst.chans.length∧(0:Int)≤val_4.getD (0+1) (0:Int)∧val_4.getD (0+1) (0:Int)<(val_9.fst.chans.length:Int) then if 0+(val_4.getD (0+1) (0:Int)).toNat<val_9.fst.chans.length then if 0+val_9.fst.chans.length≤val_9.fst.chans.length∧(0:Int)≤val_4.getD (0+1) (0:Int)∧val_4.getD (0+1) (0:Int)<(val_9.fst.chans.length:Int) then if 0+(val_4.getD (0+1) (0:Int)).toNat<val_9.fst.chans.length then val_9.fst.chans[0+(val_4.getD (0+1) (0:Int)).toNat]?.bind fun val_10=>val_9.fst.chans[0+(val_4.getD (0+1) (0:Int)).toNat]?.bind fun val_11=>if 0+val_10.senders.length≤(List.map pairRow val_11.senders).length∧(val_10.senders.length+1)*16≤140737488355328∧val_10.senders.length+1≤9223372036854775807 then bif (List.take val_10.senders.length (List.drop 0 (List.map pairRow val_11.senders))++[[(-1:Int),val_4.getD (0+1+1) (0:Int)]]).length.ble 9223372036854775807 then if 0+(val_10.senders.length+1)≤(List.take val_10.senders.length (List.drop 0 (List.map pairRow val_11.senders))++[[(-1:Int),val_4.getD (0+1+1) (0:Int)]]).length then if TI.senders (0+(val_4.getD (0+1) (0:Int)).toNat)=TI.senders (0+(val_4.getD (0+1) (0:Int)).toNat) then val_9.fst.chans[0+(val_4.getD (0+1) (0:Int)).toNat]?.bind fun val=>(toPairs (List.take (val_10.senders.length+1) (List.drop 0 (List.take val_10.senders.length (List.drop 0 (List.map pairRow val_11.senders))++[[(-1:Int),val_4.getD (0+1+1) (0:Int)]])))).bind fun (val_12:List (Int×Int))=>if k2=k2∧val_10.senders.length+1=val_12.length then some (nrmM [(0,mchV),(1,TV.l (AL.p (Tg.m TI.fed) 0 1 0))] (val_9.fst.setC (0+(val_4.getD (0+1) (0:Int)).toNat) (val.wSenders val_12)) [] []) else none else none else none else none else none else none else none else none else none else some (nrmM [(0,mchV),(1,TV.l (AL.p (Tg.m TI.fed) 0 1 0))] val_9.fst [] []) else none else none else none else none else some (exM 8 [] m [] []) else none else some (exM 8 [] m [] []):=by kernel_rfl
theorem raw88 {wb:Nat}{hv:Value}{hk:Option Int}(m:IM)(F:Nat):runM (wb:=wb) (hv:=hv) (hk:=hk) (noOp _) (tabA.at pkP []) [(99,cNote wb hv hk)] [lMin wb hv hk,lAny wb hv hk,lWake F wb hv hk,lFeed F wb hv hk] wk88 900 Try.f88 [mchV,fedV] m=if (m.tasks.length:Int)=(m.tasks.length:Int)∧m.tasks.length=m.tasks.length∧m.tasks.length<1000000 then m.fed.bind fun val=>bif decide (val<(m.inp.feed.length:Int)) then bif decide (minDue m.tasks (-1:Int)<(0:Int)) then m.fed.bind fun val_1=>if 0+m.inp.feed.length≤m.inp.feed.length∧(0:Int)≤val_1∧val_1<(m.inp.feed.length:Int) then (List.map eventRow m.inp.feed)[0+val_1.toNat]?.bind fun (val_2:List Int)=>bif decide (val_2.getD 0 (0:Int)<(0:Int)) then if (m.tasks.length:Int)=(m.tasks.length:Int)∧m.tasks.length=m.tasks.length∧m.tasks.length<1000000 then bif m.anyW then some (panM (Value.iface 155 (Value.agg {toList:=[i64 (1:Int)]:Array Value})) m) else some (panM (Value.iface 155 (Value.agg {toList:=[i64 (0:Int)]:Array Value})) m) else none else bif decide (val_2.getD 0 (0:Int)<m.now) then bif decide (m.now>m.inp.until_) then some (panM (Value.iface 155 (Value.agg {toList:=[i64 (4:Int)]:Array Value})) m) else bif decide (m.now>m.now) then ((m.wNow m.now).note (5:Int) (-1:Int) (0:Int)).bind fun val=>(IM.wakeQ F val).bind fun val=>(IM.feedQ F val).bind fun val=>some (okM (TV.tup []) val []) else (IM.wakeQ F m).bind fun val=>(IM.feedQ F val).bind fun val=>some (okM (TV.tup []) val []) else bif decide (val_2.getD 0 (0:Int)>m.inp.until_) then some (panM (Value.iface 155 (Value.agg {toList:=[i64 (4:Int)]:Array Value})) m) else bif decide (val_2.getD 0 (0:Int)>m.now) then ((m.wNow (val_2.getD 0 (0:Int))).note (5:Int) (-1:Int) (0:Int)).bind fun val=>(IM.wakeQ F val).bind fun val=>(IM.feedQ F val).bind fun val=>some (okM (TV.tup []) val []) else (IM.wakeQ F m).bind fun val=>(IM.feedQ F val).bind fun val=>some (okM (TV.tup []) val []) else none else m.fed.bind fun val_1=>if 0+m.inp.feed.length≤m.inp.feed.length∧(0:Int)≤val_1∧val_1<(m.inp.feed.length:Int) then (List.map eventRow m.inp.feed)[0+val_1.toNat]?.bind fun (val_2:List Int)=>bif decide (val_2.getD 0 (0:Int)<minDue m.tasks (-1:Int)) then m.fed.bind fun val_3=>if 0+m.inp.feed.length≤m.inp.feed.length∧(0:Int)≤val_3∧val_3<(m.inp.feed.length:Int) then (List.map eventRow m.inp.feed)[0+val_3.toNat]?.bind fun (val_4:List Int)=>bif decide (val_4.getD 0 (0:Int)<(0:Int)) then if (m.tasks.length:Int)=(m.tasks.length:Int)∧m.tasks.length=m.tasks.length∧m.tasks.length<1000000 then bif m.anyW then some (panM (Value.iface 155 (Value.agg {toList:=[i64 (1:Int)]:Array Value})) m) else some (panM (Value.iface 155 (Value.agg {toList:=[i64 (0:Int)]:Array Value})) m) else none else bif decide (val_4.getD 0 (0:Int)<m.now) then bif decide (m.now>m.inp.until_) then some (panM (Value.iface 155 (Value.agg {toList:=[i64 (4:Int)]:Array Value})) m) else bif decide (m.now>m.now) then ((m.wNow m.now).note (5:Int) (-1:Int) (0:Int)).bind fun val=>(IM.wakeQ F val).bind fun val=>(IM.feedQ F val).bind fun val=>some (okM (TV.tup []) val []) else (IM.wakeQ F m).bind fun val=>(IM.feedQ F val).bind fun val=>some (okM (TV.tup []) val []) else bif decide (val_4.getD 0 (0:Int)>m.inp.until_) then some (panM (Value.iface 155 (Value.agg {toList:=[i64 (4:Int)]:Array Value})) m) else bif decide (val_4.getD 0 (0:Int)>m.now) then ((m.wNow (val_4.getD 0 (0:Int))).note (5:Int) (-1:Int) (0:Int)).bind fun val=>(IM.wakeQ F val).bind fun val=>(IM.feedQ F val).bind fun val=>some (okM (TV.tup []) val []) else (IM.wakeQ F m).bind fun val=>(IM.feedQ F val).bind fun val=>some (okM (TV.tup []) val []) else none else bif decide (minDue m.tasks (-1:Int)<(0:Int)) then if (m.tasks.length:Int)=(m.tasks.length:Int)∧m.tasks.length=m.tasks.length∧m.tasks.length<1000000 then bif m.anyW then some (panM (Value.iface 155 (Value.agg {toList:=[i64 (1:Int)]:Array Value})) m) else some (panM (Value.iface 155 (Value.agg {toList:=[i64 (0:Int)]:Array Value})) m) else none else bif decide (minDue m.tasks (-1:Int)<m.now) then bif decide (m.now>m.inp.until_) then some (panM (Value.iface 155 (Value.agg {toList:=[i64 (4:Int)]:Array Value})) m) else bif decide (m.now>m.now) then ((m.wNow m.now).note (5:Int) (-1:Int) (0:Int)).bind fun val=>(IM.wakeQ F val).bind fun val=>(IM.feedQ F val).bind fun val=>some (okM (TV.tup []) val []) else (IM.wakeQ F m).bind fun val=>(IM.feedQ F val).bind fun val=>some (okM (TV.tup []) val []) else bif decide (minDue m.tasks (-1:Int)>m.inp.until_) then some (panM (Value.iface 155 (Value.agg {toList:=[i64 (4:Int)]:Array Value})) m) else bif decide (minDue m.tasks (-1:Int)>m.now) then ((m.wNow (minDue m.tasks (-1:Int))).note (5:Int) (-1:Int) (0:Int)).bind fun val=>(IM.wakeQ F val).bind fun val=>(IM.feedQ F val).bind fun val=>some (okM (TV.tup []) val []) else (IM.wakeQ F m).bind fun val=>(IM.feedQ F val).bind fun val=>some (okM (TV.tup []) val []) else none else bif decide (minDue m.tasks (-1:Int)<(0:Int)) then if (m.tasks.length:Int)=(m.tasks.length:Int)∧m.tasks.length=m.tasks.length∧m.tasks.length<1000000 then bif m.anyW then some (panM (Value.iface 155 (Value.agg {toList:=[i64 (1:Int)]:Array Value})) m) else some (panM (Value.iface 155 (Value.agg {toList:=[i64 (0:Int)]:Array Value})) m) else none else bif decide (minDue m.tasks (-1:Int)<m.now) then bif decide (m.now>m.inp.until_) then some (panM (Value.iface 155 (Value.agg {toList:=[i64 (4:Int)]:Array Value})) m) else bif decide (m.now>m.now) then ((m.wNow m.now).note (5:Int) (-1:Int) (0:Int)).bind fun val=>(IM.wakeQ F val).bind fun val=>(IM.feedQ F val).bind fun val=>some (okM (TV.tup []) val []) else (IM.wakeQ F m).bind fun val=>(IM.feedQ F val).bind fun val=>some (okM (TV.tup []) val []) else bif decide (minDue m.tasks (-1:Int)>m.inp.until_) then some (panM (Value.iface 155 (Value.agg {toList:=[i64 (4:Int)]:Array Value})) m) else bif decide (minDue m.tasks (-1:Int)>m.now) then ((m.wNow (minDue m.tasks (-1:Int))).note (5:Int) (-1:Int) (0:Int)).bind fun val=>(IM.wakeQ F val).bind fun val=>(IM.feedQ F val).bind fun val=>some (okM (TV.tup []) val []) else (IM.wakeQ F m).bind fun val=>(IM.feedQ F val).bind fun val=>some (okM (TV.tup []) val []) else none:=by kernel_rfl
theorem mid_get {α:Type}{xs pre rest:List α}{t:α}(h:xs=pre++t::rest):xs[pre.length]?=some t∧pre.length<xs.length:=by subst h;simp
theorem min_iter (m:IM)(hn:m.tasks.length<1000000):∀(rest pre:List ITask) (x:Int),m.tasks=pre++rest→
  iterM (wb:=wb) (hv:=hv) (hk:=hk) (noOp _) (tabA.at pkP []) [] [] wk0 600 Try.f88 (loopsOf (bd Try.f88)) (lMin wb hv hk) (rest.length+1) [mchV,fedV,iV x,tsV m.tasks.length,iV m.tasks.length,iV pre.length] m [] []=some (exM 0 [(0,mchV),(1,fedV),(4,iV (minDue rest x))] m [] [])
 |[],pre,x,h=>by
  refine iterM_exit ?_ (fun s h=>by cases h)
  rw[raw88a];simp only[List.append_nil] at h;simp[h,minDue]
 |t::rest,pre,x,h=>by
  have ih:=min_iter m hn rest (pre++[t]) (if t.due≥0∧(x<0∨t.due<x) then t.due else x) (by simp[h]);obtain⟨hg,hlt⟩:=mid_get h
  have hlt':(pre.length:Int)<(m.tasks.length:Int):=by omega
  have ht:=(List.getElem?_eq_some_iff.1 hg).2;have hw:=wrap_succ (j:=pre.length) (by omega);rw[show minDue (t::rest) x=minDue rest (if t.due≥0∧(x<0∨t.due<x) then t.due else x) from rfl,←ih]
  refine iterM_succ [mchV,fedV,_,tsV m.tasks.length,iV m.tasks.length,iV (pre++[t]).length] ?_
  rw[raw88a]
  by_cases h1:0≤t.due
  ·by_cases h2:x<0
   ·simp[hlt,hlt',ht,hw,h1,h2,lMin,zipK]
   ·by_cases h3:t.due<x
    ·simp[hlt,hlt',ht,hw,h1,h2,h3,lMin,zipK]
    ·simp[hlt,hlt',ht,hw,h1,h2,h3,lMin,zipK]
  ·simp[hlt,hlt',ht,hw,h1,lMin,zipK]
theorem min_lp {LS:List (Nat×Code)}{ld:List (LoopD (DM wb hv hk))}(hld:LpOk PG (tabA.at pkP []) (DM wb hv hk) Try.f88.ntmps LS ld)(hLS:LS=(loopsOf (bd Try.f88))):LpOk PG (tabA.at pkP []) (DM wb hv hk) Try.f88.ntmps LS (lMin wb hv hk::ld):=by
 subst hLS
 refine mkLp (tabAOk.at _ _) (mdI_ok _) mixOk noOp_ok EnvOk.nil hld (wk:=wk0) (N:=600) LpOk.nil (by kernel_rfl) fun vs m L dk κ x h0=>?_
 simp only[lMin] at h0
 split at h0
 ·obtain⟨⟨rfl,rfl,hn⟩,h1⟩:=ite_none h0
  exact⟨_,_,min_iter m hn m.tasks [] _ rfl,h1⟩
 ·cases h0
theorem any_iter (m:IM)(hn:m.tasks.length<1000000):∀(rest pre:List ITask),m.tasks=pre++rest→
  iterM (wb:=wb) (hv:=hv) (hk:=hk) (noOp _) (tabA.at pkP []) [] [] wk0 600 Try.f88 (loopsOf (bd Try.f88)) (lAny wb hv hk) (rest.length+1) [tsV m.tasks.length,iV m.tasks.length,iV pre.length] m [] []=some (bif rest.any (fun t=>_root_.Beat.waiting t.state) then pnM (panV 1) [] m [] [] else exM 2 [] m [] [])
 |[],pre,h=>by
  refine iterM_exit ?_ (fun s h=>by cases h)
  rw[raw88b];simp only[List.append_nil] at h;simp[h]
 |t::rest,pre,h=>by
  have ih:=any_iter m hn rest (pre++[t]) (by simp[h]);obtain⟨hg,hlt⟩:=mid_get h
  have hlt':(pre.length:Int)<(m.tasks.length:Int):=by omega
  have ht:=(List.getElem?_eq_some_iff.1 hg).2;have hw:=wrap_succ (j:=pre.length) (by omega)
  cases hb:_root_.Beat.waiting t.state with
  |true=>
   have e:(t::rest).any (fun t=>_root_.Beat.waiting t.state)=true:=by simp[hb]
   rw[e]
   refine iterM_exit ?_ (fun s h=>by cases h)
   rw[raw88b];simp only[_root_.Beat.waiting,decide_eq_true_eq] at hb
   by_cases h3:t.state=3
   ·simp[hlt,hlt',ht,h3,panV]
   ·by_cases h4:t.state=4
    ·simp[hlt,hlt',ht,h4,panV]
    ·have h5:t.state=5:=by omega
     simp[hlt,hlt',ht,h5,panV]
  |false=>
   have e:(t::rest).any (fun t=>_root_.Beat.waiting t.state)=rest.any (fun t=>_root_.Beat.waiting t.state):=by simp[hb]
   rw[e,←ih];simp only[_root_.Beat.waiting,decide_eq_false_iff_not,not_or] at hb
   refine iterM_succ [tsV m.tasks.length,iV m.tasks.length,iV (pre++[t]).length] ?_
   rw[raw88b];simp[hlt,hlt',ht,hw,hb.1,hb.2.1,hb.2.2,lAny,zipK]
theorem any_lp {LS:List (Nat×Code)}{ld:List (LoopD (DM wb hv hk))}(hld:LpOk PG (tabA.at pkP []) (DM wb hv hk) Try.f88.ntmps LS ld)(hLS:LS=(loopsOf (bd Try.f88))):LpOk PG (tabA.at pkP []) (DM wb hv hk) Try.f88.ntmps LS (lAny wb hv hk::ld):=by
 subst hLS
 refine mkLp (tabAOk.at _ _) (mdI_ok _) mixOk noOp_ok EnvOk.nil hld (wk:=wk0) (N:=600) LpOk.nil (by kernel_rfl) fun vs m L dk κ x h0=>?_
 simp only[lAny] at h0
 split at h0
 ·obtain⟨⟨rfl,rfl,hn⟩,h1⟩:=ite_none h0
  refine⟨_,_,any_iter m hn m.tasks [] rfl,?_⟩;have e:m.tasks.any (fun t=>_root_.Beat.waiting t.state)=m.anyW:=rfl;rw[e]
  cases hb:m.anyW with
  |true=>rw[hb] at h1;exact h1
  |false=>rw[hb] at h1;exact h1
 ·cases h0
theorem pickd_iter (m:IM)(hn:m.tasks.length<1000000):∀(rest pre:List ITask) (x k:Int),m.tasks=pre++rest→pickDue m.now m.tasks rest pre.length x=some k→
  iterM (wb:=wb) (hv:=hv) (hk:=hk) (noOp _) (tabA.at pkP []) [] [] wk0 600 Try.f88 (loopsOf (loopC (loopsOf (bd Try.f88)) 4)) (lPickDue wb hv hk) (rest.length+1) [mchV,fedV,iV x,tsV m.tasks.length,iV m.tasks.length,iV pre.length] m [] []=some (exM 6 [(0,mchV),(1,fedV),(9,iV k)] m [] [])
 |[],pre,x,k,h,hp=>by
  refine iterM_exit ?_ (fun s h=>by cases h)
  simp only[pickDue,Option.some.injEq] at hp;subst hp;rw[raw88c];simp only[List.append_nil] at h;simp[h]
 |t::rest,pre,x,k,h,hp=>by
  have ih:=fun x hp=>pickd_iter m hn rest (pre++[t]) x k (by simp[h]) (by simpa using hp)
  obtain⟨hg,hlt⟩:=mid_get h
  have hlt':(pre.length:Int)<(m.tasks.length:Int):=by omega
  have ht:=(List.getElem?_eq_some_iff.1 hg).2;have hw:=wrap_succ (j:=pre.length) (by omega);simp only[pickDue] at hp
  by_cases h1:t.due≥0∧t.due≤m.now
  ·rw[if_pos h1] at hp
   obtain⟨h1,h2⟩:=h1
   by_cases h3:x<0
   ·rw[if_pos h3] at hp
    refine (iterM_succ [mchV,fedV,iV pre.length,tsV m.tasks.length,iV m.tasks.length,iV (pre++[t]).length] ?_).trans (ih _ hp)
    rw[raw88c];simp[hlt,hlt',ht,hw,h1,h2,h3,lPickDue,zipK]
   ·rw[if_neg h3] at hp
    split at hp
    ·cases hp
    ·rename_i u hu
     obtain⟨hxl,hu'⟩:=List.getElem?_eq_some_iff.1 hu
     have h4:0≤x:=by omega
     have h5:x<(m.tasks.length:Int):=by omega
     by_cases h6:t.asked<u.asked
     ·rw[if_pos h6] at hp
      refine (iterM_succ [mchV,fedV,iV pre.length,tsV m.tasks.length,iV m.tasks.length,iV (pre++[t]).length] ?_).trans (ih _ hp)
      rw[raw88c];simp[hlt,hlt',ht,hw,h1,h2,h3,h4,h5,h6,hxl,hu',lPickDue,zipK]
     ·rw[if_neg h6] at hp
      refine (iterM_succ [mchV,fedV,iV x,tsV m.tasks.length,iV m.tasks.length,iV (pre++[t]).length] ?_).trans (ih _ hp)
      rw[raw88c];simp[hlt,hlt',ht,hw,h1,h2,h3,h4,h5,h6,hxl,hu',lPickDue,zipK]
  ·rw[if_neg h1] at hp
   refine (iterM_succ [mchV,fedV,iV x,tsV m.tasks.length,iV m.tasks.length,iV (pre++[t]).length] ?_).trans (ih _ hp)
   rw[raw88c]
   by_cases h2:0≤t.due
   ·have h3:¬t.due≤m.now:=fun h=>h1 ⟨h2,h⟩
    simp[hlt,hlt',ht,hw,h2,h3,lPickDue,zipK]
   ·simp[hlt,hlt',ht,hw,h2,lPickDue,zipK]
theorem pickd_lp {LS:List (Nat×Code)}(hLS:LS=(loopsOf (loopC (loopsOf (bd Try.f88)) 4))):LpOk PG (tabA.at pkP []) (DM wb hv hk) Try.f88.ntmps LS [lPickDue wb hv hk]:=by
 subst hLS
 refine mkLp (tabAOk.at _ _) (mdI_ok _) mixOk noOp_ok EnvOk.nil LpOk.nil (wk:=wk0) (N:=600) LpOk.nil (by kernel_rfl) fun vs m L dk κ x h0=>?_
 simp only[lPickDue] at h0
 split at h0
 ·obtain⟨⟨rfl,rfl,hn⟩,h1⟩:=ite_none h0
  split at h1
  ·cases h1
  ·rename_i k hk
   exact⟨_,_,pickd_iter m hn m.tasks [] _ k rfl hk,h1⟩
 ·cases h0
theorem wakeR_raw {m m':IM}{g:Bool}(hn:m.tasks.length<1000000)(h:m.wakeR=some (m',g)):roundM (wb:=wb) (hv:=hv) (hk:=hk) (noOp _) (tabA.at pkP []) [(100,cReady wb hv hk),(103,cLeave wb hv hk),(104,cGets wb hv hk)] [lPickDue wb hv hk] wk88 900 Try.f88 (loopsOf (bd Try.f88)) (lWake 0 wb hv hk) [mchV,fedV] m [] []=
  some (bif g then nrmM (zipK [0,1] [mchV,fedV]) m' [] [] else exM 4 [(0,mchV),(1,fedV)] m' [] []):=by
 rw[raw88d];simp only[IM.wakeR,bind,Option.bind_eq_some_iff] at h;obtain⟨k,hk,h⟩:=h
 by_cases h1:k<0
 ·rw[if_pos h1] at h
  simp only[Option.some.injEq,Prod.mk.injEq] at h;obtain⟨rfl,rfl⟩:=h;simp[hn,hk,h1]
 ·rw[if_neg h1] at h
  simp only[Option.bind_eq_some_iff] at h;obtain⟨t,ht,h⟩:=h;obtain⟨hi,ht'⟩:=List.getElem?_eq_some_iff.1 ht
  have h2:0≤k:=by omega
  have h3:k<(m.tasks.length:Int):=by omega
  by_cases h4:t.state=5
  ·rw[if_pos h4] at h
   simp only[Option.bind_eq_some_iff,Option.some.injEq,Prod.mk.injEq] at h;obtain⟨c,hc,m1,e1,m2,e2,m3,e3,rfl,rfl⟩:=h
   cases hch:t.chans with
   |nil=>rw[hch] at hc;cases hc
   |cons c0 cs=>
    rw[hch] at hc;simp only[List.head?_cons,Option.some.injEq] at hc;subst hc
    have hpos:(0:Int)<(cs.length:Int)+1:=by omega
    simp[hn,hk,h1,h2,h3,hi,ht',h4,hch,e1,e2,e3,zipK]
  ·rw[if_neg h4] at h
   simp only[Option.bind_eq_some_iff,Option.some.injEq,Prod.mk.injEq] at h;obtain⟨m3,e3,rfl,rfl⟩:=h;simp[hn,hk,h1,h2,h3,hi,ht',h4,e3,zipK]
theorem wake_iter:∀(F:Nat) (m m':IM),m.wakeQ F=some m'→iterM (wb:=wb) (hv:=hv) (hk:=hk) (noOp _) (tabA.at pkP []) [(100,cReady wb hv hk),(103,cLeave wb hv hk),(104,cGets wb hv hk)] [lPickDue wb hv hk] wk88 900 Try.f88 (loopsOf (bd Try.f88)) (lWake 0 wb hv hk) F [mchV,fedV] m [] []=some (exM 4 [(0,mchV),(1,fedV)] m' [] [])
 |0,m,m',h=>by cases h
 |F+1,m,m',h=>by
  simp only[IM.wakeQ,bind,Option.bind_eq_some_iff,guardO] at h;obtain⟨_,hg,⟨m1,g⟩,h1,h⟩:=h;obtain⟨hn,_⟩:=ite_none hg;have hr:=wakeR_raw (wb:=wb) (hv:=hv) (hk:=hk) hn h1
  cases g with
  |true=>exact (iterM_succ [mchV,fedV] hr).trans (wake_iter F m1 m' (by simpa using h))
  |false=>
   simp only[Bool.false_eq_true,if_false,Option.some.injEq] at h;subst h;exact iterM_exit hr (fun s h=>by cases h)
theorem wake_env:EnvOk PG [(100,cReady wb hv hk),(103,cLeave wb hv hk),(104,cGets wb hv hk)]:=EnvOk.cons ready_ok (EnvOk.cons leave_ok (EnvOk.cons gets_ok EnvOk.nil))
theorem wake_lp {LS:List (Nat×Code)}{ld:List (LoopD (DM wb hv hk))}(F:Nat)(hld:LpOk PG (tabA.at pkP []) (DM wb hv hk) Try.f88.ntmps LS ld)(hLS:LS=(loopsOf (bd Try.f88))):LpOk PG (tabA.at pkP []) (DM wb hv hk) Try.f88.ntmps LS (lWake F wb hv hk::ld):=by
 subst hLS
 refine mkLp (tabAOk.at _ _) (mdI_ok _) mixOk noOp_ok wake_env hld (wk:=wk88) (N:=900) (pickd_lp rfl) (by kernel_rfl) fun vs m L dk κ x h0=>?_
 simp only[lWake] at h0
 split at h0
 ·split at h0
  ·cases h0
  ·rename_i m' hm
   exact⟨_,_,wake_iter F m m' hm,h0⟩
 ·cases h0
theorem feedR_raw {m m':IM}{g:Bool}(h:m.feedR=some (m',g)):roundM (wb:=wb) (hv:=hv) (hk:=hk) (noOp _) (tabA.at pkP []) [(99,cNote wb hv hk),(105,cSend wb hv hk)] [] wk88 900 Try.f88 (loopsOf (bd Try.f88)) (lFeed 0 wb hv hk) [mchV,fedV] m [] []=
  some (bif g then nrmM (zipK [0,1] [mchV,fedV]) m' [] [] else exM 8 [] m' [] []):=by
 rw[raw88e];simp only[IM.feedR,bind,Option.bind_eq_some_iff,guardO] at h;obtain⟨fi,hf,f,hc,_,hg,h⟩:=h;have e:=chanNo_some hc;subst e;obtain⟨hn,_⟩:=ite_none hg
 split at h
 ·rename_i hno
  obtain⟨h1,h2⟩:=ite_none h;simp only[Option.some.injEq,Prod.mk.injEq] at h2;obtain⟨rfl,rfl⟩:=h2;simp[hf,h1]
 ·rename_i e he
  obtain⟨hlt,he'⟩:=List.getElem?_eq_some_iff.1 he
  have hlt':(f:Int)<(m.inp.feed.length:Int):=by omega
  have hw:=wrap_succ (j:=f) (by omega)
  by_cases h1:e.time≤m.now
  ·rw[if_pos h1] at h
   simp only[Option.bind_eq_some_iff] at h;obtain⟨m1,h2,c,hcc,x,hx,h⟩:=h;have ec:=chanNo_some hcc;have s1:=note_sm h2
   have hf1:m1.fed=some (f:Int):=by rw[s1.2.2.2];exact hf
   have hx1:m1.chans[c]?=some x:=hx;obtain⟨hxl,hx'⟩:=List.getElem?_eq_some_iff.1 hx1
   cases hcl:x.closed with
   |true=>
    simp only[hcl,if_true,Option.some.injEq,Prod.mk.injEq] at h;obtain⟨rfl,rfl⟩:=h;simp[hf,hlt,hlt',he',hw,h1,h2,hf1,ec,hxl,hx',hcl,eventRow,zipK]
   |false=>
    simp only[hcl,Bool.false_eq_true,if_false,Option.bind_eq_some_iff] at h;obtain⟨⟨m2,ok⟩,h3,h⟩:=h
    cases ok with
    |true=>
     simp only[if_true,Option.some.injEq,Prod.mk.injEq] at h;obtain⟨rfl,rfl⟩:=h;simp[hf,hlt,hlt',he',hw,h1,h2,hf1,ec,hxl,hx',hcl,h3,eventRow,zipK]
    |false=>
     simp only[Bool.false_eq_true,if_false,Option.bind_eq_some_iff,Option.some.injEq,Prod.mk.injEq] at h;obtain⟨x2,hx2,l,hp,rfl,rfl⟩:=h;obtain⟨hx2l,hx2'⟩:=List.getElem?_eq_some_iff.1 hx2;obtain⟨hp,rfl⟩:=push_some hp
     have g1:(x2.senders.length+1)*16≤140737488355328:=by omega
     have g2:x2.senders.length≤9223372036854775806:=by omega
     simp[hf,hlt,hlt',he',hw,h1,h2,hf1,ec,hxl,hx',hcl,h3,hx2l,hx2',g1,g2,eventRow,zipK]
  ·rw[if_neg h1] at h
   simp only[Option.some.injEq,Prod.mk.injEq] at h;obtain⟨rfl,rfl⟩:=h;simp[hf,hlt,hlt',he',h1,eventRow]
theorem feed_iter:∀(F:Nat) (m m':IM),m.feedQ F=some m'→iterM (wb:=wb) (hv:=hv) (hk:=hk) (noOp _) (tabA.at pkP []) [(99,cNote wb hv hk),(105,cSend wb hv hk)] [] wk88 900 Try.f88 (loopsOf (bd Try.f88)) (lFeed 0 wb hv hk) F [mchV,fedV] m [] []=some (exM 8 [] m' [] [])
 |0,m,m',h=>by cases h
 |F+1,m,m',h=>by
  simp only[IM.feedQ,bind,Option.bind_eq_some_iff] at h;obtain⟨⟨m1,g⟩,h1,h⟩:=h;have hr:=feedR_raw (wb:=wb) (hv:=hv) (hk:=hk) h1
  cases g with
  |true=>exact (iterM_succ [mchV,fedV] hr).trans (feed_iter F m1 m' (by simpa using h))
  |false=>
   simp only[Bool.false_eq_true,if_false,Option.some.injEq] at h;subst h;exact iterM_exit hr (fun s h=>by cases h)
variable (hN:CtrOk (D:=DM wb hv hk) PG 99 (cNote wb hv hk))
include hN
theorem feed_env:EnvOk PG [(99,cNote wb hv hk),(105,cSend wb hv hk)]:=EnvOk.cons hN (EnvOk.cons send_ok EnvOk.nil)
theorem feed_lp {LS:List (Nat×Code)}{ld:List (LoopD (DM wb hv hk))}(F:Nat)(hld:LpOk PG (tabA.at pkP []) (DM wb hv hk) Try.f88.ntmps LS ld)(hLS:LS=(loopsOf (bd Try.f88))):LpOk PG (tabA.at pkP []) (DM wb hv hk) Try.f88.ntmps LS (lFeed F wb hv hk::ld):=by
 subst hLS
 refine mkLp (tabAOk.at _ _) (mdI_ok _) mixOk noOp_ok (feed_env hN) hld (wk:=wk88) (N:=900) LpOk.nil (by kernel_rfl) fun vs m L dk κ x h0=>?_
 simp only[lFeed] at h0
 split at h0
 ·split at h0
  ·cases h0
  ·rename_i m' hm
   exact⟨_,_,feed_iter F m m' hm,h0⟩
 ·cases h0
omit hN
theorem pass_raw {m m':IM}{F:Nat}{q:RQ}(h:m.passQ F=some (m',q)):runM (wb:=wb) (hv:=hv) (hk:=hk) (noOp _) (tabA.at pkP []) [(99,cNote wb hv hk)] [lMin wb hv hk,lAny wb hv hk,lWake F wb hv hk,lFeed F wb hv hk] wk88 900 Try.f88 [mchV,fedV] m=
  some (bif q.isPan then panM (panV q.num) m' else okM (.tup []) m' []):=by
 rw[raw88];simp only[IM.passQ,bind,Option.bind_eq_some_iff,guardO] at h;obtain⟨fi,hf,f,hc,_,hg,next1,hnx,h⟩:=h;have e:=chanNo_some hc;subst e;obtain⟨⟨hn,hfl⟩,_⟩:=ite_none hg;generalize hD:minDue m.tasks (-1)=D at hnx
 by_cases hl:(f:Int)<m.inp.feed.length
 ·have hl':f<m.inp.feed.length:=by omega
  rw[if_pos hl,List.getElem?_eq_getElem hl'] at hnx;generalize he:m.inp.feed[f]=e at hnx;simp only[Option.some.injEq] at hnx
  by_cases hd:D<0
  ·rw[if_pos (.inl hd)] at hnx
   generalize hN:e.time=N at hnx;subst hnx
   by_cases n0:N<0
   ·rw[if_pos n0] at h
    simp only[Option.some.injEq,Prod.mk.injEq] at h;obtain⟨rfl,rfl⟩:=h
    cases hw:m.anyW<;>simp [hn,hf,hD,hl,hl',he,hd,eventRow,hN,n0,hw,RQ.isPan,RQ.num,panV]
   ·rw[if_neg n0] at h
    by_cases n1:N<m.now
    ·simp only[n1,if_true] at h
     by_cases n2:m.now>m.inp.until_
     ·rw[if_pos n2] at h
      simp only[Option.some.injEq,Prod.mk.injEq] at h;obtain⟨rfl,rfl⟩:=h;simp[hn,hf,hD,hl,hl',he,hd,eventRow,hN,n0,n1,n2,RQ.isPan,RQ.num,panV]
     ·rw[if_neg n2] at h
      have n3:¬m.now>m.now:=by omega
      simp only[n3,if_false,Option.bind_eq_some_iff,Option.some.injEq,Prod.mk.injEq] at h;obtain⟨m1,rfl,m2,e2,m3,e3,rfl,rfl⟩:=h;simp[hn,hf,hD,hl,hl',he,hd,eventRow,hN,n0,n1,n2,n3,e2,e3,RQ.isPan]
    ·simp only[n1,if_false] at h
     by_cases n2:N>m.inp.until_
     ·rw[if_pos n2] at h
      simp only[Option.some.injEq,Prod.mk.injEq] at h;obtain⟨rfl,rfl⟩:=h;simp[hn,hf,hD,hl,hl',he,hd,eventRow,hN,n0,n1,n2,RQ.isPan,RQ.num,panV]
     ·rw[if_neg n2] at h
      by_cases n3:N>m.now
      ·simp only[n3,if_true,Option.bind_eq_some_iff,Option.some.injEq,Prod.mk.injEq] at h
       obtain⟨m1,e1,m2,e2,m3,e3,rfl,rfl⟩:=h;simp[hn,hf,hD,hl,hl',he,hd,eventRow,hN,n0,n1,n2,n3,e1,e2,e3,RQ.isPan]
      ·simp only[n3,if_false,Option.bind_eq_some_iff,Option.some.injEq,Prod.mk.injEq] at h
       obtain⟨m1,rfl,m2,e2,m3,e3,rfl,rfl⟩:=h;simp[hn,hf,hD,hl,hl',he,hd,eventRow,hN,n0,n1,n2,n3,e2,e3,RQ.isPan]
  ·by_cases he2:e.time<D
   ·rw[if_pos (.inr he2)] at hnx
    generalize hN:e.time=N at hnx he2;subst hnx
    by_cases n0:N<0
    ·rw[if_pos n0] at h
     simp only[Option.some.injEq,Prod.mk.injEq] at h;obtain⟨rfl,rfl⟩:=h
     cases hw:m.anyW<;>simp [hn,hf,hD,hl,hl',he,hd,he2,eventRow,hN,n0,hw,RQ.isPan,RQ.num,panV]
    ·rw[if_neg n0] at h
     by_cases n1:N<m.now
     ·simp only[n1,if_true] at h
      by_cases n2:m.now>m.inp.until_
      ·rw[if_pos n2] at h
       simp only[Option.some.injEq,Prod.mk.injEq] at h;obtain⟨rfl,rfl⟩:=h;simp[hn,hf,hD,hl,hl',he,hd,he2,eventRow,hN,n0,n1,n2,RQ.isPan,RQ.num,panV]
      ·rw[if_neg n2] at h
       have n3:¬m.now>m.now:=by omega
       simp only[n3,if_false,Option.bind_eq_some_iff,Option.some.injEq,Prod.mk.injEq] at h;obtain⟨m1,rfl,m2,e2,m3,e3,rfl,rfl⟩:=h;simp[hn,hf,hD,hl,hl',he,hd,he2,eventRow,hN,n0,n1,n2,n3,e2,e3,RQ.isPan]
     ·simp only[n1,if_false] at h
      by_cases n2:N>m.inp.until_
      ·rw[if_pos n2] at h
       simp only[Option.some.injEq,Prod.mk.injEq] at h;obtain⟨rfl,rfl⟩:=h;simp[hn,hf,hD,hl,hl',he,hd,he2,eventRow,hN,n0,n1,n2,RQ.isPan,RQ.num,panV]
      ·rw[if_neg n2] at h
       by_cases n3:N>m.now
       ·simp only[n3,if_true,Option.bind_eq_some_iff,Option.some.injEq,Prod.mk.injEq] at h
        obtain⟨m1,e1,m2,e2,m3,e3,rfl,rfl⟩:=h;simp[hn,hf,hD,hl,hl',he,hd,he2,eventRow,hN,n0,n1,n2,n3,e1,e2,e3,RQ.isPan]
       ·simp only[n3,if_false,Option.bind_eq_some_iff,Option.some.injEq,Prod.mk.injEq] at h
        obtain⟨m1,rfl,m2,e2,m3,e3,rfl,rfl⟩:=h;simp[hn,hf,hD,hl,hl',he,hd,he2,eventRow,hN,n0,n1,n2,n3,e2,e3,RQ.isPan]
   ·rw[if_neg (by omega)] at hnx
    generalize hN:D=N at hnx hd he2 hD;subst hnx
    by_cases n0:N<0
    ·rw[if_pos n0] at h
     simp only[Option.some.injEq,Prod.mk.injEq] at h;obtain⟨rfl,rfl⟩:=h;exact absurd n0 hd
    ·rw[if_neg n0] at h
     by_cases n1:N<m.now
     ·simp only[n1,if_true] at h
      by_cases n2:m.now>m.inp.until_
      ·rw[if_pos n2] at h
       simp only[Option.some.injEq,Prod.mk.injEq] at h;obtain⟨rfl,rfl⟩:=h;simp[hn,hf,hD,hl,hl',he,hd,he2,eventRow,n0,n1,n2,RQ.isPan,RQ.num,panV]
      ·rw[if_neg n2] at h
       have n3:¬m.now>m.now:=by omega
       simp only[n3,if_false,Option.bind_eq_some_iff,Option.some.injEq,Prod.mk.injEq] at h;obtain⟨m1,rfl,m2,e2,m3,e3,rfl,rfl⟩:=h;simp[hn,hf,hD,hl,hl',he,hd,he2,eventRow,n0,n1,n2,n3,e2,e3,RQ.isPan]
     ·simp only[n1,if_false] at h
      by_cases n2:N>m.inp.until_
      ·rw[if_pos n2] at h
       simp only[Option.some.injEq,Prod.mk.injEq] at h;obtain⟨rfl,rfl⟩:=h;simp[hn,hf,hD,hl,hl',he,hd,he2,eventRow,n0,n1,n2,RQ.isPan,RQ.num,panV]
      ·rw[if_neg n2] at h
       by_cases n3:N>m.now
       ·simp only[n3,if_true,Option.bind_eq_some_iff,Option.some.injEq,Prod.mk.injEq] at h
        obtain⟨m1,e1,m2,e2,m3,e3,rfl,rfl⟩:=h;simp[hn,hf,hD,hl,hl',he,hd,he2,eventRow,n0,n1,n2,n3,e1,e2,e3,RQ.isPan]
       ·simp only[n3,if_false,Option.bind_eq_some_iff,Option.some.injEq,Prod.mk.injEq] at h
        obtain⟨m1,rfl,m2,e2,m3,e3,rfl,rfl⟩:=h;simp[hn,hf,hD,hl,hl',he,hd,he2,eventRow,n0,n1,n2,n3,e2,e3,RQ.isPan]
 ·rw[if_neg hl] at hnx
  simp only[Option.some.injEq] at hnx;generalize hN:D=N at hnx hD;subst hnx
  by_cases n0:N<0
  ·rw[if_pos n0] at h
   simp only[Option.some.injEq,Prod.mk.injEq] at h;obtain⟨rfl,rfl⟩:=h
   cases hw:m.anyW<;>simp [hn,hf,hD,hl,n0,hw,RQ.isPan,RQ.num,panV]
  ·rw[if_neg n0] at h
   by_cases n1:N<m.now
   ·simp only[n1,if_true] at h
    by_cases n2:m.now>m.inp.until_
    ·rw[if_pos n2] at h
     simp only[Option.some.injEq,Prod.mk.injEq] at h;obtain⟨rfl,rfl⟩:=h;simp[hn,hf,hD,hl,n0,n1,n2,RQ.isPan,RQ.num,panV]
    ·rw[if_neg n2] at h
     have n3:¬m.now>m.now:=by omega
     simp only[n3,if_false,Option.bind_eq_some_iff,Option.some.injEq,Prod.mk.injEq] at h;obtain⟨m1,rfl,m2,e2,m3,e3,rfl,rfl⟩:=h;simp[hn,hf,hD,hl,n0,n1,n2,n3,e2,e3,RQ.isPan]
   ·simp only[n1,if_false] at h
    by_cases n2:N>m.inp.until_
    ·rw[if_pos n2] at h
     simp only[Option.some.injEq,Prod.mk.injEq] at h;obtain⟨rfl,rfl⟩:=h;simp[hn,hf,hD,hl,n0,n1,n2,RQ.isPan,RQ.num,panV]
    ·rw[if_neg n2] at h
     by_cases n3:N>m.now
     ·simp only[n3,if_true,Option.bind_eq_some_iff,Option.some.injEq,Prod.mk.injEq] at h
      obtain⟨m1,e1,m2,e2,m3,e3,rfl,rfl⟩:=h;simp[hn,hf,hD,hl,n0,n1,n2,n3,e1,e2,e3,RQ.isPan]
     ·simp only[n3,if_false,Option.bind_eq_some_iff,Option.some.injEq,Prod.mk.injEq] at h
      obtain⟨m1,rfl,m2,e2,m3,e3,rfl,rfl⟩:=h;simp[hn,hf,hD,hl,n0,n1,n2,n3,e2,e3,RQ.isPan]
include hN
theorem pass_env:EnvOk PG [(99,cNote wb hv hk)]:=EnvOk.cons hN EnvOk.nil
theorem pass_ok (F:Nat):PCtrOk (D:=DM wb hv hk) PG 88 (cPass F wb hv hk):=mkPCtr tabAOk (mdI_ok _) mixOk noOp_ok (pass_env hN) (fn:=Try.f88) (by kernel_rfl) (by kernel_rfl) (by kernel_rfl) pkP [] (by kernel_rfl)
  (min_lp (any_lp (wake_lp F (feed_lp hN F LpOk.nil rfl) rfl) rfl) rfl) (wk:=wk88) (N:=900) fun vs st κ κp x h0=>by
 simp only[cPass] at h0
 split at h0
 ·split at h0
  ·cases h0
  ·rename_i q hq
   obtain⟨m',q⟩:=q;have hr:=pass_raw (wb:=wb) (hv:=hv) (hk:=hk) hq;refine⟨of_decide_eq_true rfl,bif q.isPan then panM (panV q.num) m' else okM (.tup []) m' [],?_,hr⟩
   cases hb:q.isPan with
   |true=>rw[hb] at h0;exact h0
   |false=>rw[hb] at h0;exact h0
 ·cases h0
end Go.Beat
end
