/-
  Texts joined by a program (shake.py), without what the claim does not use; printed walks among them (print.sh), and own ones.
-/
import Derived.Test.YtejjedooecephaaSleep19
section
namespace Go.Beat
open Go _root_.Beat Go.Proofs
attribute [local simp] int_beq int_bne ble_dec
set_option maxRecDepth 100000
variable {wb:Nat} {hv:Value} {hk:Option Int}
theorem raw20a {wb:Nat}{hv:Value}{hk:Option Int}(m:IM)(nb nr n j:Nat)(sl t u x:Int):roundM (wb:=wb) (hv:=hv) (hk:=hk) (noOp _) (tabA.at [] []) [] [] wk0 600 Try.f20 (loopsOf (bd Try.f20)) (lInput wb hv hk) [lcV 0,lcV 1,iV x,.l (.sl (.m .feed) 0 3 n),iV n,iV j] m [obPl nb nr sl,obIn n t u] []=bif decide ((j:Int)<(n:Int)) then if 0+n≤m.inp.feed.length∧(0:Int)≤(j:Int)∧(j:Int)<(n:Int) then (List.map eventRow m.inp.feed)[0+j]?.bind fun (val:List Int)=>bif decide (val.getD 0 (0:Int)<x) then some (retM [(4,bV false)] m [] []) else bif decide (val.getD 0 (0:Int)>(1000000:Int)) then some (retM [(4,bV false)] m [] []) else bif decide (val.getD (0+1) (0:Int)<(0:Int)) then some (retM [(4,bV false)] m [] []) else bif decide (val.getD (0+1) (0:Int)≥(nr:Int)) then some (retM [(4,bV false)] m [] []) else some (nrmM [(2,TV.l (AL.p (Tg.loc 0) 0 1 0)),(3,TV.l (AL.p (Tg.loc 1) 0 1 0)),(5,iV (val.getD 0 (0:Int))),(33,TV.l (AL.sl (Tg.m TI.feed) 0 3 n)),(34,iV (n:Int)),(35,iV (IntKind.i64.wrap ((j:Int)+(1:Int))))] m [⟨35,1,true,some (LO.cells [AL.sl (Tg.m TI.bodies) 0 1 nb,AL.sl (Tg.m TI.rooms) 0 1 nr,AL.v (i64 sl)])⟩,⟨39,1,true,some (LO.cells [AL.sl (Tg.m TI.feed) 0 3 n,AL.v (i64 t),AL.v (i64 u)])⟩] []) else none else some (exM 0 [] m [] []):=by kernel_rfl
theorem raw20 {wb:Nat}{hv:Value}{hk:Option Int}(m:IM)(nb nr n:Nat)(sl t u:Int):runM (wb:=wb) (hv:=hv) (hk:=hk) (noOp _) (tabA.at [] []) [] [lInput wb hv hk] wk0 600 Try.f20 [plnV nb nr sl,inpV n t u] m=bif decide ((n:Int)>(100:Int)) then some (okM (bV false) m []) else bif decide (t<(0:Int)) then some (okM (bV false) m []) else bif decide (t>(5000:Int)) then some (okM (bV false) m []) else bif decide (u<(0:Int)) then some (okM (bV false) m []) else bif decide (u>(1000000:Int)) then some (okM (bV false) m []) else if (n:Int)=(n:Int)∧n=n∧n=m.inp.feed.length∧n<1000000 then bif feedOkI nr m.inp.feed (0:Int) then some (okM (bV true) m []) else some (okM (bV false) m []) else none:=by kernel_rfl
theorem mid_get' {α:Type}{xs pre rest:List α}{t:α}(h:xs=pre++t::rest):xs[pre.length]?=some t∧pre.length<xs.length:=by subst h;simp
theorem input_iter (m:IM)(hn:m.inp.feed.length<1000000)(nb nr:Nat)(sl t u:Int):∀(rest pre:List _root_.Beat.Event) (x:Int),m.inp.feed=pre++rest→
  iterM (wb:=wb) (hv:=hv) (hk:=hk) (noOp _) (tabA.at [] []) [] [] wk0 600 Try.f20 (loopsOf (bd Try.f20)) (lInput wb hv hk) (rest.length+1) [lcV 0,lcV 1,iV x,.l (.sl (.m .feed) 0 3 m.inp.feed.length),iV m.inp.feed.length,iV pre.length] m [obPl nb nr sl,obIn m.inp.feed.length t u] []=
   some (bif feedOkI nr rest x then exM 0 [] m [] [] else retM [(4,bV false)] m [] [])
 |[],pre,x,h=>by
  refine iterM_exit ?_ (fun s h=>by cases h)
  rw[raw20a];simp only[List.append_nil] at h;simp[h,feedOkI]
 |e::rest,pre,x,h=>by
  have ih:=input_iter m hn nb nr sl t u rest (pre++[e]) e.time (by simp[h]);obtain⟨hg,hlt⟩:=mid_get' h
  have hlt':(pre.length:Int)<(m.inp.feed.length:Int):=by omega
  have he:=(List.getElem?_eq_some_iff.1 hg).2;have hw:=wrap_succ (j:=pre.length) (by omega)
  by_cases hc:e.time<x∨e.time>1000000∨e.chan<0∨e.chan≥(nr:Int)
  ·have e1:feedOkI nr (e::rest) x=false:=by simp only[feedOkI,if_pos hc]
   rw[e1]
   refine iterM_exit ?_ (fun s h=>by cases h)
   rw[raw20a]
   by_cases c1:e.time<x
   ·simp[hlt,hlt',he,eventRow,c1]
   ·by_cases c2:e.time>1000000
    ·simp[hlt,hlt',he,eventRow,c1,c2]
    ·by_cases c3:e.chan<0
     ·simp[hlt,hlt',he,eventRow,c1,c2,c3]
     ·have c4:(nr:Int)≤e.chan:=by omega
      simp[hlt,hlt',he,eventRow,c1,c2,c3,c4]
  ·have e1:feedOkI nr (e::rest) x=feedOkI nr rest e.time:=by simp only[feedOkI,if_neg hc]
   rw[e1,←ih]
   have c1:¬e.time<x:=by omega
   have c2:¬e.time>1000000:=by omega
   have c3:¬e.chan<0:=by omega
   have c4:¬(nr:Int)≤e.chan:=by omega
   refine iterM_succ [lcV 0,lcV 1,iV e.time,.l (.sl (.m .feed) 0 3 m.inp.feed.length),iV m.inp.feed.length,iV (pre++[e]).length] ?_
   rw[raw20a];simp[hlt,hlt',he,eventRow,hw,c1,c2,c3,c4,lInput,zipK]
theorem input_lp {LS:List (Nat×Code)}(hLS:LS=(loopsOf (bd Try.f20))):LpOk PG (tabA.at [] []) (DM wb hv hk) Try.f20.ntmps LS [lInput wb hv hk]:=by
 subst hLS
 refine mkLp (tabAOk.at _ _) (mdI_ok _) mixOk noOp_ok EnvOk.nil LpOk.nil (wk:=wk0) (N:=600) LpOk.nil (by kernel_rfl) fun vs m L dk κ x h0=>?_
 simp only[lInput] at h0
 split at h0
 ·split at h0
  case isFalse=>cases h0
  rename_i last n n' nb nr sl n2 t u hc;obtain⟨rfl,rfl,rfl,hn⟩:=hc;refine⟨_,_,input_iter m hn nb nr sl t u m.inp.feed [] last rfl,?_⟩
  cases hb:feedOkI nr m.inp.feed last with
  |true=>rw[hb] at h0;exact h0
  |false=>rw[hb] at h0;exact h0
 ·cases h0
theorem input_raw (m:IM)(nb:Nat)(sl:Int):runM (wb:=wb) (hv:=hv) (hk:=hk) (noOp _) (tabA.at [] []) [] [lInput wb hv hk] wk0 600 Try.f20 [plnV nb m.p.rooms.length sl,inpV m.inp.feed.length m.inp.ticks m.inp.until_] m=
  some (okM (.l (.v (.bool (inputOkI m.p m.inp)))) m []):=by
 rw[raw20];unfold inputOkI
 by_cases c1:(m.inp.feed.length:Int)>100
 ·have c1':m.inp.feed.length>100:=by omega
  simp[c1,c1']
 ·have c1':¬m.inp.feed.length>100:=by omega
  by_cases c2:m.inp.ticks<0
  ·simp[c1,c1',c2]
  ·by_cases c3:m.inp.ticks>5000
   ·simp[c1,c1',c2,c3]
   ·by_cases c4:m.inp.until_<0
    ·simp[c1,c1',c2,c3,c4]
    ·by_cases c5:m.inp.until_>1000000
     ·simp[c1,c1',c2,c3,c4,c5]
     ·have hh:¬(m.inp.feed.length>100∨m.inp.ticks<0∨m.inp.ticks>5000∨m.inp.until_<0∨m.inp.until_>1000000):=by omega
      rw[if_neg hh]
      have hn:m.inp.feed.length<1000000:=by omega
      cases hb:feedOkI m.p.rooms.length m.inp.feed 0<;>simp [c1,c2,c3,c4,c5,hn,hb]
theorem input_ok:CtrOk (D:=DM wb hv hk) PG 20 (cInputOk wb hv hk):=mkCtr tabAOk (mdI_ok _) mixOk noOp_ok EnvOk.nil (fn:=Try.f20) (by kernel_rfl) (by kernel_rfl) (by kernel_rfl) [] [] (by kernel_rfl) (input_lp rfl) (I:=fun _=>True) (fun _ _ _ _=>trivial) (wk:=wk0) (N:=600) fun vs st κ x h0=>by
 simp only[cInputOk] at h0
 split at h0
 ·split at h0
  case isFalse=>cases h0
  rename_i hc;obtain⟨rfl,rfl,rfl,rfl⟩:=hc;exact⟨of_decide_eq_true rfl,_,_,_,h0,fun _=>input_raw st _ _⟩
 ·cases h0
end Go.Beat
end
section
namespace Go.Beat
open Go _root_.Beat Go.Proofs
attribute [local simp] int_beq int_bne ble_dec
abbrev bdV (n:Nat):TV TI:=.l (.sl (.m .bodies) 0 1 n)
abbrev sfV (b n:Nat):TV TI:=.l (.sl (.m (.steps b)) 0 5 n)
abbrev obE1 (x:Int):LObj TI:=⟨3,1,false,some (.cells [.v (i64 x)])⟩
abbrev obE (ys:List Int):LObj TI:=⟨3,1,false,some (.ints .i64 ys)⟩
def two {X:Type}(L:List (LObj TI))(κ:Nat→Nat→Int→Option X):Option X:=match L with
 |[⟨35,1,true,some (.cells [.sl (.m .bodies) 0 1 nb,.sl (.m .rooms) 0 1 nr,.v (.int .i64 sl)])⟩,⟨45,1,true,some (.cells [.v (.int .i64 0),.v (.int .i64 0),.v (.int .i64 0)])⟩]=>κ nb nr sl
 |_=>none
abbrev fr12:AFr TI:=[(1,lcV 0),(2,lcV 1)]
def lP0 (wb:Nat)(hv:Value)(hk:Option Int):LoopD (DM wb hv hk):=⟨0,[1,2,43,44,45],[1,2],2,2,none,fun vs m L dk κ=>match vs,dk with
 |[.l (.p (.loc 0) 0 1 0),.l (.p (.loc 1) 0 1 0),.l (.sl (.m .rooms) 0 1 n),.l (.v (.int .i64 n')),.l (.v (.int .i64 0))],[]=>two L fun nb nr sl=>
  if n'=n∧n=(IM.p m).rooms.length∧n<1000000 then
   (bif roomsOkI (IM.p m).rooms then κ (.exit 0 ⟨fr12,m,[obPl nb nr sl,obFa 0 0 0],[]⟩) else κ (.ret ⟨fr12,m,[obPl nb nr sl,obFa 2 0 0],[]⟩)) else none
 |_,_=>none⟩
def lP2 (wb:Nat)(hv:Value)(hk:Option Int):LoopD (DM wb hv hk):=⟨2,[1,2,58,59,60],[1,2],2,2,none,fun vs m L dk κ=>match vs,dk with
 |[.l (.p (.loc 0) 0 1 0),.l (.p (.loc 1) 0 1 0),.l (.sl (.m .bodies) 0 1 n),.l (.v (.int .i64 n')),.l (.v (.int .i64 0))],[]=>two L fun nb nr sl=>
  if n'=n∧n=(IM.p m).bodies.length∧n<1000000 then (match longI (IM.p m).bodies 0 with
   |none=>κ (.exit 2 ⟨fr12,m,[obPl nb nr sl,obFa 0 0 0],[]⟩)
   |some i=>κ (.ret ⟨fr12,m,[obPl nb nr sl,obFa 3 i 0],[]⟩)) else none
 |_,_=>none⟩
def lP6 (wb:Nat)(hv:Value)(hk:Option Int):LoopD (DM wb hv hk):=⟨6,[1,2,7,73,74,75,81,82,83],[1,2,73,74,75],2,2,none,fun vs m L dk κ=>match vs,dk with
 |[.l (.p (.loc 0) 0 1 0),.l (.p (.loc 1) 0 1 0),.l (.v (.int .i64 i)),.l (.sl (.m .bodies) 0 1 n),.l (.v (.int .i64 n')),.l (.v (.int .i64 j)),.l (.sl (.m (.steps b)) 0 5 l),.l (.v (.int .i64 l')),.l (.v (.int .i64 0))],[]=>two L fun nb nr sl=>
  match (IM.p m).bodies[b]? with
  |none=>none
  |some st=>if nb=(IM.p m).bodies.length∧nr=(IM.p m).rooms.length∧l'=l∧l=st.length∧l<1000000 then (match badIn (IM.p m) st 0 with
   |none=>κ (.exit 6 ⟨[(1,lcV 0),(2,lcV 1),(73,bdV n),(74,iV n'),(75,iV j)],m,[obPl nb nr sl,obFa 0 0 0],[]⟩)
   |some k=>κ (.ret ⟨[(1,lcV 0),(2,lcV 1),(73,bdV n),(74,iV n'),(75,iV j)],m,[obPl nb nr sl,obFa 4 i k],[]⟩)) else none
 |_,_=>none⟩
def lP4 (wb:Nat)(hv:Value)(hk:Option Int):LoopD (DM wb hv hk):=⟨4,[1,2,73,74,75],[1,2],2,2,none,fun vs m L dk κ=>match vs,dk with
 |[.l (.p (.loc 0) 0 1 0),.l (.p (.loc 1) 0 1 0),.l (.sl (.m .bodies) 0 1 n),.l (.v (.int .i64 n')),.l (.v (.int .i64 0))],[]=>two L fun nb nr sl=>
  if n'=n∧n=(IM.p m).bodies.length∧n<1000000∧nb=n∧nr=(IM.p m).rooms.length∧(∀l∈(IM.p m).bodies,l.length<1000000) then (match badI (IM.p m) (IM.p m).bodies 0 with
   |none=>κ (.exit 4 ⟨fr12,m,[obPl nb nr sl,obFa 0 0 0],[]⟩)
   |some q=>κ (.ret ⟨fr12,m,[obPl nb nr sl,obFa 4 q.1 q.2],[]⟩)) else none
 |_,_=>none⟩
def popN (k:Int)(ys:List Int):Nat→Nat
 |q+2=>if ys.getD (q+1) 0≤k then popN k ys (q+1) else q+2
 |q=>q
abbrev ksE:List Nat:=[1,2,11,13,14,15,98,99,100,110,111,112]
abbrev obS5 (a b c d e:Int):LObj TI:=⟨100,1,true,some (.cells [.v (i64 a),.v (i64 b),.v (i64 c),.v (i64 d),.v (i64 e)])⟩
abbrev evE (i:Int)(q:Nat)(k:Int)(n:Nat)(n' j:Int)(b l:Nat)(l' k':Int):List (TV TI):=[lcV 0,lcV 1,iV i,.l (.sl (.loc 2) 0 1 q),iV k,lcV 3,bdV n,iV n',iV j,sfV b l,iV l',iV k']
def lP12 (wb:Nat)(hv:Value)(hk:Option Int):LoopD (DM wb hv hk):=⟨12,ksE,ksE,4,4,none,fun vs m L dk κ=>match vs,L,dk with
 |[.l (.p (.loc 0) 0 1 0),.l (.p (.loc 1) 0 1 0),.l (.v (.int .i64 i)),.l (.sl (.loc 2) 0 1 q),.l (.v (.int .i64 k)),.l (.p (.loc 3) 0 1 0),.l (.sl (.m .bodies) 0 1 n),.l (.v (.int .i64 n')),.l (.v (.int .i64 j)),.l (.sl (.m (.steps b)) 0 5 l),.l (.v (.int .i64 l')),.l (.v (.int .i64 k'))],[p0,p1,⟨3,1,false,some o2⟩,⟨100,1,true,some (.cells [.v (.int .i64 s0),.v (.int .i64 s1),.v (.int .i64 s2),.v (.int .i64 s3),.v (.int .i64 s4)])⟩],[]=>two [p0,p1] fun nb nr sl=>(match o2 with
  |.cells [.v (.int .i64 x)]=>if q=1 then κ (.exit 12 ⟨zipK ksE (evE i 1 k n n' j b l l' k'),m,[obPl nb nr sl,obFa 0 0 0,obE1 x,obS5 s0 s1 s2 s3 s4],[]⟩) else none
  |.ints .i64 ys=>if q≤ys.length∧ys.length<1000000 then κ (.exit 12 ⟨zipK ksE (evE i (popN k ys q) k n n' j b l l' k'),m,[obPl nb nr sl,obFa 0 0 0,obE ys,obS5 s0 s1 s2 s3 s4],[]⟩) else none
  |_=>none)
 |_,_,_=>none⟩
abbrev ksN:List Nat:=[1,2,11,13,98,99,100,110,111,112]
def lP10 (wb:Nat)(hv:Value)(hk:Option Int):LoopD (DM wb hv hk):=⟨10,ksN,[1,2,98,99,100],2,2,some 13,fun vs m L dk κ=>match vs,L,dk with
 |[.l (.p (.loc 0) 0 1 0),.l (.p (.loc 1) 0 1 0),.l (.v (.int .i64 i)),.l (.sl (.loc 2) 0 1 1),.l (.sl (.m .bodies) 0 1 n),.l (.v (.int .i64 n')),.l (.v (.int .i64 j)),.l (.sl (.m (.steps b)) 0 5 l),.l (.v (.int .i64 l')),.l (.v (.int .i64 0))],[p0,p1,⟨3,1,false,some (.cells [.v (.int .i64 x)])⟩],[]=>two [p0,p1] fun nb nr sl=>
  match (IM.p m).bodies[b]? with
  |none=>none
  |some st=>if l'=l∧l=st.length∧x=l∧l<1000000 then (match nestIn st 0 [x] with
   |none=>κ (.exit 10 ⟨[(1,lcV 0),(2,lcV 1),(98,bdV n),(99,iV n'),(100,iV j)],m,[obPl nb nr sl,obFa 0 0 0],[]⟩)
   |some k=>κ (.ret ⟨[(1,lcV 0),(2,lcV 1),(98,bdV n),(99,iV n'),(100,iV j)],m,[obPl nb nr sl,obFa k.1 i k.2],[]⟩)) else none
 |_,_,_=>none⟩
def lP8 (wb:Nat)(hv:Value)(hk:Option Int):LoopD (DM wb hv hk):=⟨8,[1,2,98,99,100],[1,2],2,2,none,fun vs m L dk κ=>match vs,dk with
 |[.l (.p (.loc 0) 0 1 0),.l (.p (.loc 1) 0 1 0),.l (.sl (.m .bodies) 0 1 n),.l (.v (.int .i64 n')),.l (.v (.int .i64 0))],[]=>two L fun nb nr sl=>
  if n'=n∧n=(IM.p m).bodies.length∧n<1000000∧(∀l∈(IM.p m).bodies,l.length<1000000) then (match nestI (IM.p m).bodies 0 with
   |none=>κ (.exit 8 ⟨fr12,m,[obPl nb nr sl,obFa 0 0 0],[]⟩)
   |some q=>κ (.ret ⟨fr12,m,[obPl nb nr sl,obFa q.1 q.2.1 q.2.2],[]⟩)) else none
 |_,_=>none⟩
def cPlanOk (wb:Nat)(hv:Value)(hk:Option Int):CM wb hv hk:=⟨fun vs m κ=>match vs with
 |[.agg [.sl (.m .bodies) 0 1 nb,.sl (.m .rooms) 0 1 nr,.v (.int .i64 sl)]]=>
  if nb=(IM.p m).bodies.length∧nr=(IM.p m).rooms.length∧sl=(IM.p m).slice then
   κ (.agg [.v (i64 (planOkI (IM.p m)).code),.v (i64 (planOkI (IM.p m)).body),.v (i64 (planOkI (IM.p m)).step)]) [] m [] [] else none
 |_=>none⟩
end Go.Beat
end
