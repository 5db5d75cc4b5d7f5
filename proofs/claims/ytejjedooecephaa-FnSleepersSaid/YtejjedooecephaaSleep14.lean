/-
  Texts joined by a program (shake.py), without what the claim does not use; printed walks among them (print.sh), and own ones.
-/
import Derived.Test.YtejjedooecephaaSleep12
import Derived.Test.YtejjedooecephaaSleep13
section
namespace Go.Beat
open Go _root_.Beat
abbrev i64 (n:Int):Value:=.int .i64 n
inductive TI where
  |mach|recs|states|tasks|row|chans
  |task (i:Nat)|tblocks (i:Nat)|tchans (i:Nat)
  |chan (c:Nat)|nums (c:Nat)|senders (c:Nat)|takers (c:Nat)
  |waitL (k:Nat)|bodies|steps (b:Nat)|rooms|feed|wmap|arg|fed|cell
deriving DecidableEq
def TI.num:TI→Nat
 |.mach=>0|.recs=>1|.states=>2|.tasks=>3|.row=>4|.chans=>5|.task _=>6|.tblocks _=>7|.tchans _=>8|.chan _=>9|.nums _=>10|.senders _=>11|.takers _=>12
 |.waitL _=>13|.bodies=>14|.steps _=>15|.rooms=>16|.feed=>17|.wmap=>18|.arg=>19|.fed=>20|.cell=>21
structure TyI where
  mach:Nat
  task:Nat
  taskP:Nat
  chan:Nat
  chanP:Nat
  int:Nat
  int64:Nat
  rec_:Nat
  block:Nat
  waiter:Nat
  machP:Nat
def MI (Y:TyI):Meta TI where
 ty
  |.mach=>Y.mach|.recs=>Y.rec_|.states=>Y.int|.tasks=>Y.taskP|.row=>Y.int|.chans=>Y.chanP
  |.task _=>Y.task|.tblocks _=>Y.block|.tchans _=>Y.int
  |.chan _=>Y.chan|.nums _=>Y.int64|.senders _=>Y.waiter|.takers _=>Y.int|.waitL _=>Y.int|.fed=>Y.int|.cell=>Y.machP|_=>0
 sz
  |.recs=>4|.tblocks _=>2|.senders _=>2|.steps _=>5|.feed=>3|_=>1
 fix
  |.mach=>true|.task _=>true|.chan _=>true|.fed=>true|.cell=>true|_=>false
structure GI where
  Y:TyI
  wb:Nat
  hv:Value
  hk:Option Int
abbrev k4:List IntKind:=[.i64,.i64,.i64,.i64]
abbrev k2:List IntKind:=[.i64,.i64]
abbrev k5:List IntKind:=[.i64,.i64,.i64,.i64,.i64]
abbrev k3:List IntKind:=[.i64,.i64,.i64]
def recRow (r:Rec):List Int:=[r.kind,r.time,r.task,r.num]
def pairRow (p:Int×Int):List Int:=[p.1,p.2]
def stepRow (s:_root_.Beat.Step):List Int:=[s.op,s.a,s.b,s.n,s.size]
def eventRow (e:_root_.Beat.Event):List Int:=[e.time,e.chan,e.num]
def natsL (xs:List Nat):LO TI:=.ints .i64 (xs.map Int.ofNat)
def machCells (G:GI)(m:IM):List (AL TI):=
 [.sl (.m .bodies) 0 1 m.p.bodies.length,.sl (.m .rooms) 0 1 m.p.rooms.length,.v (i64 m.p.slice),.sl (.m .feed) 0 3 m.inp.feed.length,.v (i64 m.inp.ticks),.v (i64 m.inp.until_),
  .v (i64 m.code),.sl (.m .recs) 0 4 m.recs.length,.v (i64 m.time),.v (i64 m.ticks),.sl (.m .states) 0 1 m.states.length,
  .sl (.m .tasks) 0 1 m.tasks.length,.sl (.m .row) 0 1 m.row.length,.sl (.m .chans) 0 1 m.chans.length,.v (i64 m.now),.v (i64 m.asks),.v (.map (some G.wb)),.v (i64 m.used),.v G.hv]
def taskCells (i:Nat)(t:ITask):List (AL TI):=
 [.v (i64 t.body),.v (i64 t.pc),.sl (.m (.tblocks i)) 0 2 t.blocks.length,.v (i64 (t.regs.getD 0 0)),.v (i64 (t.regs.getD 1 0)),.v (i64 (t.regs.getD 2 0)),.v (i64 (t.regs.getD 3 0)),
  .v (i64 t.state),.v (i64 t.a),.v (i64 t.op),.v (i64 t.num),.v (i64 t.due),.v (i64 t.asked),.v (i64 t.target),.sl (.m (.tchans i)) 0 1 t.chans.length,.v (i64 t.pick0),.v (i64 t.pick1)]
def chanCells (c:Nat)(x:IChan):List (AL TI):=
 [.v (i64 x.room),.v (.bool x.closed),.sl (.m (.nums c)) 0 1 x.nums.length,.sl (.m (.senders c)) 0 2 x.senders.length,.sl (.m (.takers c)) 0 1 x.takers.length]
def ptrsL (f:Nat→TI)(n:Nat):List (AL TI):=(List.range n).map fun i=>.p (.m (f i)) 0 1 0
def cI (G:GI)(m:IM):TI→Option (List (AL TI))
 |.mach=>some (machCells G m)
 |.recs=>some (LO.rows k4 (m.recs.map recRow)).flat
 |.states=>some (LO.ints .i64 m.states).flat
 |.tasks=>some (ptrsL .task m.tasks.length)
 |.row=>some (natsL m.row).flat
 |.chans=>some (ptrsL .chan m.chans.length)
 |.task i=>(m.tasks[i]?).map (taskCells i)
 |.tblocks i=>(m.tasks[i]?).map fun t=>(LO.rows k2 (t.blocks.reverse.map pairRow)).flat
 |.tchans i=>(m.tasks[i]?).map fun t=>(natsL t.chans).flat
 |.chan c=>(m.chans[c]?).map (chanCells c)
 |.nums c=>(m.chans[c]?).map fun x=>(LO.ints .i64 x.nums).flat
 |.senders c=>(m.chans[c]?).map fun x=>(LO.rows k2 (x.senders.map pairRow)).flat
 |.takers c=>(m.chans[c]?).map fun x=>(natsL x.takers).flat
 |.waitL k=>some (natsL (m.wait k)).flat
 |.fed=>m.fed.map fun x=>[.v (i64 x)]
 |.cell=>some [.p (.m .mach) 0 1 0]
 |_=>none
def roI (m:IM):TI→Option (List (AL TI))
 |.bodies=>some (m.p.bodies.zipIdx.map fun q=>.sl (.m (.steps q.2)) 0 5 q.1.length)
 |.steps b=>(m.p.bodies[b]?).map fun l=>(LO.rows k5 (l.map stepRow)).flat
 |.rooms=>some (LO.ints .i64 m.p.rooms).flat
 |.feed=>some (LO.rows k3 (m.inp.feed.map eventRow)).flat
 |.arg=>some (natsL m.arg).flat
 |_=>none
def Entries (S:Sto (Tg TI))(wait:Nat→List Nat)(es:Array MapEntry):Prop:=
 (∀e∈es.toList,∃k:Nat,e.key=i64 k∧e.val=(S.loc (.m (.waitL k))).val (wait k).length)∧
 (∀k:Nat,(∀e∈es.toList,e.key≠i64 k)→wait k=[]∧(S.loc (.m (.waitL k))).nil=true∧(S.loc (.m (.waitL k))).cap=0∧(S.loc (.m (.waitL k))).wrd=none)∧
 es.toList.Pairwise fun a b=>a.key≠b.key
def exI (G:GI)(m:IM)(S:Sto (Tg TI))(w:World):Prop:=∃es cl,w.heap[G.wb]?=some (Obj.map es cl)∧((S.loc (.m .wmap)).b=G.wb∧S.own G.wb≠none)∧m.hook=G.hk∧Entries S m.wait es
section
variable {R:Type}
def cells1 (cs:List (AL TI))(k f n:Nat)(κ:List (AL TI)→Option R):Option R:=bif Nat.beq k 0&&Nat.ble (f+n) cs.length then κ ((cs.drop f).take n) else none
def gtI (m:IM)(t:TI)(κ:LO TI→Option R):Option R:=
 match t with
 |.recs=>κ (.rows k4 (m.recs.map recRow))
 |.states=>κ (.ints .i64 m.states)
 |.row=>κ (natsL m.row)
 |.tasks=>κ (.cells (ptrsL .task m.tasks.length))
 |.chans=>κ (.cells (ptrsL .chan m.chans.length))
 |.tblocks i=>match m.tasks[i]? with|none=>none|some t=>κ (.rows k2 (t.blocks.reverse.map pairRow))
 |.tchans i=>match m.tasks[i]? with|none=>none|some t=>κ (natsL t.chans)
 |.nums c=>match m.chans[c]? with|none=>none|some x=>κ (.ints .i64 x.nums)
 |.senders c=>match m.chans[c]? with|none=>none|some x=>κ (.rows k2 (x.senders.map pairRow))
 |.takers c=>match m.chans[c]? with|none=>none|some x=>κ (natsL x.takers)
 |.waitL k=>κ (natsL (m.wait k))
 |.steps b=>match m.p.bodies[b]? with|none=>none|some l=>κ (.rows k5 (l.map stepRow))
 |.rooms=>κ (.ints .i64 m.p.rooms)
 |.feed=>κ (.rows k3 (m.inp.feed.map eventRow))
 |.arg=>κ (natsL m.arg)
 |_=>none
def rdI (G:GI)(m:IM)(t:TI)(k f n:Nat)(κ:List (AL TI)→Option R):Option R:=
 match t with
 |.mach=>cells1 (machCells G m) k f n κ
 |.task i=>match m.tasks[i]? with
  |none=>none
  |some t=>bif Nat.beq f 3&&Nat.beq n 1 then (if k<4 then (match t.regs[k]? with|none=>none|some v=>κ [.v (i64 v)]) else none) else cells1 (taskCells i t) k f n κ
 |.chan c=>match m.chans[c]? with
  |none=>none
  |some x=>cells1 (chanCells c x) k f n κ
 |.tasks=>bif Nat.beq f 0&&Nat.beq n 1 then (if k<m.tasks.length then κ [.p (.m (.task k)) 0 1 0] else none) else none
 |.chans=>bif Nat.beq f 0&&Nat.beq n 1 then (if k<m.chans.length then κ [.p (.m (.chan k)) 0 1 0] else none) else none
 |.bodies=>bif Nat.beq f 0&&Nat.beq n 1 then (match m.p.bodies[k]? with|none=>none|some l=>κ [.sl (.m (.steps k)) 0 5 l.length]) else none
 |.fed=>match m.fed with|none=>none|some x=>cells1 [.v (i64 x)] k f n κ
 |.cell=>cells1 [.p (.m .mach) 0 1 0] k f n κ
 |t=>gtI m t fun o=>o.rd ((MI G.Y).sz t) k f n κ
def lnI (m:IM)(t:TI)(κ:Nat→Option R):Option R:=
 match t with
 |.tasks=>κ m.tasks.length
 |.chans=>κ m.chans.length
 |.bodies=>κ m.p.bodies.length
 |.recs=>κ m.recs.length
 |.states=>κ m.states.length
 |.row=>κ m.row.length
 |.tblocks i=>match m.tasks[i]? with|none=>none|some t=>κ t.blocks.length
 |.tchans i=>match m.tasks[i]? with|none=>none|some t=>κ t.chans.length
 |.nums c=>match m.chans[c]? with|none=>none|some x=>κ x.nums.length
 |.senders c=>match m.chans[c]? with|none=>none|some x=>κ x.senders.length
 |.takers c=>match m.chans[c]? with|none=>none|some x=>κ x.takers.length
 |.waitL k=>κ (m.wait k).length
 |.steps b=>match m.p.bodies[b]? with|none=>none|some l=>κ l.length
 |.rooms=>κ m.p.rooms.length
 |.feed=>κ m.inp.feed.length
 |.arg=>κ m.arg.length
 |_=>none
def setTask (t:ITask)(k f:Nat)(as:List (AL TI)):Option ITask:=
 match f,as with
 |0,[.v (.int .i64 x)]=>some (t.wBody x)
 |1,[.v (.int .i64 x)]=>some (t.wPc x)
 |7,[.v (.int .i64 x)]=>some (t.wState x)
 |8,[.v (.int .i64 x)]=>some (t.wA x)
 |9,[.v (.int .i64 x)]=>some (t.wOp x)
 |10,[.v (.int .i64 x)]=>some (t.wNum x)
 |11,[.v (.int .i64 x)]=>some (t.wDue x)
 |12,[.v (.int .i64 x)]=>some (t.wAsked x)
 |13,[.v (.int .i64 x)]=>some (t.wTarget x)
 |15,[.v (.int .i64 x),.v (.int .i64 y)]=>some (t.wPick x y)
 |_,_=>none
def setMach (m:IM)(f:Nat)(as:List (AL TI)):Option IM:=
 match f,as with
 |6,[.v (.int .i64 x)]=>some (m.wCode x)
 |8,[.v (.int .i64 x)]=>some (m.wTime x)
 |9,[.v (.int .i64 x)]=>some (m.wTicks x)
 |14,[.v (.int .i64 x)]=>some (m.wNow x)
 |15,[.v (.int .i64 x)]=>some (m.wAsks x)
 |17,[.v (.int .i64 x)]=>some (m.wUsed x)
 |_,_=>none
def wrI (m:IM)(t:TI)(k f:Nat)(as:List (AL TI))(κ:IM→Option R):Option R:=
 match t with
 |.mach=>bif Nat.beq k 0 then (match setMach m f as with|none=>none|some m'=>κ m') else none
 |.task i=>match m.tasks[i]? with
  |none=>none
  |some t=>bif Nat.beq f 3 then (match as with
    |[.v (.int .i64 x)]=>if k<4∧k<t.regs.length then κ (m.setT i (t.wRegs (t.regs.set k x))) else none
    |_=>none)
   else bif Nat.beq k 0 then (match setTask t k f as with|none=>none|some t'=>κ (m.setT i t')) else none
 |.chan c=>match m.chans[c]? with
  |none=>none
  |some x=>(match k,f,as with
   |0,1,[.v (.bool b)]=>κ (m.setC c (x.wClosed b))
   |_,_,_=>none)
 |.fed=>match m.fed with
  |none=>none
  |some _=>bif Nat.beq k 0&&Nat.beq f 0 then (match as with|[.v (.int .i64 x)]=>κ (m.wFed (some x))|_=>none) else none
 |_=>none
def hmI:TI→Nat→Option TI
 |.mach,7=>some .recs
 |.mach,10=>some .states
 |.mach,11=>some .tasks
 |.mach,12=>some .row
 |.mach,13=>some .chans
 |.task i,2=>some (.tblocks i)
 |.task i,14=>some (.tchans i)
 |.chan c,2=>some (.nums c)
 |.chan c,3=>some (.senders c)
 |.chan c,4=>some (.takers c)
 |_,_=>none
def toNats:List Int→Option (List Nat)
 |[]=>some []
 |x::xs=>if 0≤x then (match toNats xs with|some r=>some (x.toNat::r)|none=>none) else none
def toPairs:List (List Int)→Option (List (Int×Int))
 |[]=>some []
 |[a,b]::xs=>(match toPairs xs with|some r=>some ((a,b)::r)|none=>none)
 |_::_=>none
def toRecs:List (List Int)→Option (List Rec)
 |[]=>some []
 |[a,b,c,d]::xs=>(match toRecs xs with|some r=>some (⟨a,b,c,d⟩::r)|none=>none)
 |_::_=>none
def hsI (m:IM)(t:TI)(f:Nat)(z:TI)(o:LO TI)(n:Nat)(κ:IM→Option R):Option R:=
 match z,o with
 |.recs,.rows ks xs=>match toRecs xs with|some l=>if ks=k4∧n=l.length then κ (m.wRecs l) else none|none=>none
 |.states,.ints kd xs=>if kd=.i64∧n=xs.length then κ (m.wStates xs) else none
 |.row,.ints kd xs=>match toNats xs with|some l=>if kd=.i64∧n=l.length then κ (m.wRow l) else none|none=>none
 |.tblocks i,.rows ks xs=>match m.tasks[i]? with
  |none=>none
  |some t=>match toPairs xs with|some l=>if ks=k2∧n=l.length then κ (m.setT i (t.wBlocks l.reverse)) else none|none=>none
 |.tchans i,.ints kd xs=>match m.tasks[i]? with
  |none=>none
  |some t=>match toNats xs with|some l=>if kd=.i64∧n=l.length then κ (m.setT i (t.wChans l)) else none|none=>none
 |.nums c,.ints kd xs=>match m.chans[c]? with
  |none=>none
  |some x=>if kd=.i64∧n=xs.length then κ (m.setC c (x.wNums xs)) else none
 |.senders c,.rows ks xs=>match m.chans[c]? with
  |none=>none
  |some x=>match toPairs xs with|some l=>if ks=k2∧n=l.length then κ (m.setC c (x.wSenders l)) else none|none=>none
 |.takers c,.ints kd xs=>match m.chans[c]? with
  |none=>none
  |some x=>match toNats xs with|some l=>if kd=.i64∧n=l.length then κ (m.setC c (x.wTakers l)) else none|none=>none
 |_,_=>none
end
def lsI {R:Type}(m:IM)(o:LO TI)(κ:IM→Option R):Option R:=match o with
 |.ints .i64 xs=>(match toNats xs with|some l=>κ (m.wArg l)|none=>none)
 |_=>none
def emI:TI→LO TI
 |.recs=>.rows k4 []
 |.tblocks _=>.rows k2 []
 |.senders _=>.rows k2 []
 |_=>.ints .i64 []
def mdI (G:GI):Md where
 σ:=IM
 τ:=TI
 M:=MI G.Y
 kind:=TI.num
 isro|.bodies|.steps _|.rooms|.feed|.arg=>true|_=>false
 exk|.waitL _|.wmap=>true|_=>false
 c:=cI G
 ro:=roI
 ex:=exI G
 rd:=rdI G
 ln:=lnI
 gt:=gtI
 wr:=wrI
 hm:=hmI
 hs:=hsI
 em:=emI
 deq:=inferInstance
 mp:=.wmap
 larg:=.arg
 ls:=lsI
 lu a b:=b.wArg a.arg
 lk m v i κ:=match v with
  |.map (some b)=>if b=G.wb∧0≤i then κ (.sl (.m (.waitL i.toNat)) 0 1 (m.wait i.toNat).length) else none
  |_=>none
 live m|.task i=>decide (i<m.tasks.length)|_=>false
end Go.Beat
end
section
namespace Go.Beat
open Go _root_.Beat
section
variable {G:GI} {m:IM} {R:Type}
theorem cells1_ok {cs:List (AL TI)}{k f n:Nat}{κ:List (AL TI)→Option R}{x:R}(h:cells1 cs k f n κ=some x):k=0∧∃as,as.length=n∧(∀(j:Nat) (a:AL TI),as[j]?=some a→cs[f+j]?=some a)∧κ as=some x:=by
 unfold cells1 at h
 cases hb:(Nat.beq k 0&&Nat.ble (f+n) cs.length) with
 |false=>rw[hb] at h;cases h
 |true=>
  rw[hb] at h;simp only[cond_true] at h;simp only[Bool.and_eq_true,Nat.beq_eq] at hb;have:=Nat.le_of_ble_eq_true hb.2;refine⟨hb.1,_,by simp;omega,fun j a ha=>?_,h⟩
  have hj:j<n:=by
   have:=(List.getElem?_eq_some_iff.1 ha).1
   simp at this
   omega
  rw[List.getElem?_take_of_lt hj,List.getElem?_drop] at ha;exact ha
theorem gtI_ok (Y : TyI) {t : TI} {κ : LO TI → Option R} {x : R} (h : gtI m t κ = some x) : ∃ o, (cI G m t = some o.flat ∨ roI m t = some o.flat) ∧ o.fits ((MI Y).sz t) = true ∧ κ o = some x := by
  cases t <;> simp only [gtI] at h <;> first
  | (exact ⟨_, .inl rfl, rfl, h⟩)
  | (exact ⟨_, .inr rfl, rfl, h⟩)
  | (exact ⟨_, .inl rfl, by simp [LO.fits, MI, ptrsL, Nat.mod_one], h⟩)
  | (split at h
     · cases h
     · rename_i t ht
       first
       | (refine ⟨_, .inl ?_, rfl, h⟩; simp only [cI, ht]; rfl)
       | (refine ⟨_, .inr ?_, rfl, h⟩; simp only [roI, ht]; rfl))
  | (cases h)

theorem ptrs_get (f:Nat→TI){k n:Nat}(h:k<n):(ptrsL f n)[k]?=some (.p (.m (f k)) 0 1 0):=by simp[ptrsL,h]
theorem rdI_ok {t:TI}{k f n:Nat}{κ:List (AL TI)→Option R}{x:R}(h:rdI G m t k f n κ=some x):
  ∃cs as,(cI G m t=some cs∨roI m t=some cs)∧as.length=n∧(∀(j:Nat) (a:AL TI),as[j]?=some a→cs[k*(MI G.Y).sz t+f+j]?=some a)∧κ as=some x:=by
 have one:∀{c:AL TI} {cs:List (AL TI)} {i:Nat},cs[i]?=some c→∀(j:Nat) (a:AL TI),[c][j]?=some a→cs[i+j]?=some a:=fun {c cs i} hc j a ha=>by
  match j,ha with
  |0,ha=>simp at ha;subst ha;exact hc
  |j+1,ha=>simp at ha
 have gen:∀{t:TI},(gtI m t fun o=>o.rd ((MI G.Y).sz t) k f n κ)=some x→∃cs as,(cI G m t=some cs∨roI m t=some cs)∧as.length=n∧(∀(j:Nat) (a:AL TI),as[j]?=some a→cs[k*(MI G.Y).sz t+f+j]?=some a)∧κ as=some x:=fun {t} h=>by
  obtain⟨o,h1,h2,h3⟩:=gtI_ok (G:=G) G.Y h;obtain⟨as,h4,h5,h6⟩:=LO.rd_ok h2 h3;exact⟨_,as,h1,h5,h6,h4⟩
 cases t<;>simp only[rdI] at h
 case mach=>
  obtain⟨rfl,as,h1,h2,h3⟩:=cells1_ok h;exact⟨_,as,.inl rfl,h1,by simpa using h2,h3⟩
 case chan c=>
  split at h
  ·cases h
  ·rename_i t ht
   obtain⟨rfl,as,h1,h2,h3⟩:=cells1_ok h;exact⟨_,as,.inl (by simp only[cI,ht];rfl),h1,by simpa using h2,h3⟩
 case cell=>
  obtain⟨rfl,as,h1,h2,h3⟩:=cells1_ok h;exact⟨_,as,.inl rfl,h1,by simpa using h2,h3⟩
 case fed=>
  split at h
  ·cases h
  ·rename_i t ht
   obtain⟨rfl,as,h1,h2,h3⟩:=cells1_ok h;exact⟨_,as,.inl (by simp only[cI,ht];rfl),h1,by simpa using h2,h3⟩
 case task i=>
  split at h
  ·cases h
  ·rename_i t ht
   cases hb:(Nat.beq f 3&&Nat.beq n 1) with
   |true=>
    rw[hb] at h;simp only[cond_true] at h;simp only[Bool.and_eq_true,Nat.beq_eq] at hb;obtain⟨rfl,rfl⟩:=hb
    split at h
    ·rename_i hk
     split at h
     ·cases h
     ·rename_i v hv
      refine⟨_,_,.inl (by simp only[cI,ht];rfl),rfl,one ?_,h⟩
      show (taskCells i t)[k*1+3]?=_
      match k,hk,hv with
      |0,_,hv=>simp[taskCells,hv]
      |1,_,hv=>simp[taskCells,hv]
      |2,_,hv=>simp[taskCells,hv]
      |3,_,hv=>simp[taskCells,hv]
    ·cases h
   |false=>
    rw[hb] at h;simp only[cond_false] at h;obtain⟨rfl,as,h1,h2,h3⟩:=cells1_ok h;exact⟨_,as,.inl (by simp only[cI,ht];rfl),h1,by simpa using h2,h3⟩
 case tasks=>
  cases hb:(Nat.beq f 0&&Nat.beq n 1) with
  |false=>rw[hb] at h;cases h
  |true=>
   rw[hb] at h;simp only[cond_true] at h;simp only[Bool.and_eq_true,Nat.beq_eq] at hb;obtain⟨rfl,rfl⟩:=hb
   split at h
   ·rename_i hk
    exact⟨_,_,.inl rfl,rfl,one (by simpa [MI] using ptrs_get .task hk),h⟩
   ·cases h
 case chans=>
  cases hb:(Nat.beq f 0&&Nat.beq n 1) with
  |false=>rw[hb] at h;cases h
  |true=>
   rw[hb] at h;simp only[cond_true] at h;simp only[Bool.and_eq_true,Nat.beq_eq] at hb;obtain⟨rfl,rfl⟩:=hb
   split at h
   ·rename_i hk
    exact⟨_,_,.inl rfl,rfl,one (by simpa [MI] using ptrs_get .chan hk),h⟩
   ·cases h
 case bodies=>
  cases hb:(Nat.beq f 0&&Nat.beq n 1) with
  |false=>rw[hb] at h;cases h
  |true=>
   rw[hb] at h;simp only[cond_true] at h;simp only[Bool.and_eq_true,Nat.beq_eq] at hb;obtain⟨rfl,rfl⟩:=hb
   split at h
   ·cases h
   ·rename_i l hl
    exact⟨_,_,.inr rfl,rfl,one (by simp[MI,hl]),h⟩
 all_goals exact gen h
theorem lnI_ok {t : TI} {κ : Nat → Option R} {x : R} (h : lnI m t κ = some x) : ∃ cs n, (cI G m t = some cs ∨ roI m t = some cs) ∧ cs.length = n * (MI G.Y).sz t ∧ κ n = some x := by
  have fl : ∀ (ks : List IntKind) (xs : List (List Int)), (LO.rows ks xs : LO TI).flat.length = xs.length * ks.length := fun ks xs => flatMap_len _ _ (fun a => by simp) xs
  cases t <;> simp only [lnI] at h <;> first
  | (refine ⟨_, _, .inl rfl, ?_, h⟩; simp [fl, MI, LO.flat, natsL, ptrsL]; done)
  | (refine ⟨_, _, .inl rfl, ?_, h⟩; rw [fl]; simp [MI]; done)
  | (refine ⟨_, _, .inr rfl, ?_, h⟩; simp [MI, LO.flat, natsL]; done)
  | (refine ⟨_, _, .inr rfl, ?_, h⟩; rw [fl]; simp [MI]; done)
  | (split at h
     · cases h
     · rename_i t ht
       first
       | (refine ⟨_, _, .inl (by simp only [cI, ht]; rfl), ?_, h⟩; simp [MI, LO.flat, natsL]; done)
       | (refine ⟨_, _, .inl (by simp only [cI, ht]; rfl), ?_, h⟩; rw [fl]; simp [MI]; done)
       | (refine ⟨_, _, .inr (by simp only [roI, ht]; rfl), ?_, h⟩; rw [fl]; simp [MI]; done))
  | (cases h)

theorem toNats_eq:∀{xs:List Int} {l:List Nat},toNats xs=some l→xs=l.map Int.ofNat
 |[],l,h=>by simp[toNats] at h;subst h;rfl
 |x::xs,l,h=>by
  simp only[toNats] at h
  split at h
  ·rename_i hx
   split at h
   ·rename_i r hr
    simp only[Option.some.injEq] at h;subst h;simp[←toNats_eq hr,hx];omega
   ·cases h
  ·cases h
theorem toPairs_eq:∀{xs:List (List Int)} {l:List (Int×Int)},toPairs xs=some l→xs=l.map pairRow
 |[],l,h=>by simp[toPairs] at h;subst h;rfl
 |[]::xs,l,h=>by simp[toPairs] at h
 |[a]::xs,l,h=>by simp[toPairs] at h
 |[a,b]::xs,l,h=>by
  simp only[toPairs] at h
  split at h
  ·rename_i r hr
   simp only[Option.some.injEq] at h;subst h;simp[←toPairs_eq hr,pairRow]
  ·cases h
 |(a::b::c::r)::xs,l,h=>by simp[toPairs] at h
theorem toRecs_eq:∀{xs:List (List Int)} {l:List Rec},toRecs xs=some l→xs=l.map recRow
 |[],l,h=>by simp[toRecs] at h;subst h;rfl
 |[a,b,c,d]::xs,l,h=>by
  simp only[toRecs] at h
  split at h
  ·rename_i r hr
   simp only[Option.some.injEq] at h;subst h;simp[←toRecs_eq hr,recRow]
  ·cases h
 |[]::xs,l,h=>by simp[toRecs] at h
 |[a]::xs,l,h=>by simp[toRecs] at h
 |[a,b]::xs,l,h=>by simp[toRecs] at h
 |[a,b,c]::xs,l,h=>by simp[toRecs] at h
 |(a::b::c::d::e::r)::xs,l,h=>by simp[toRecs] at h
theorem map_setT {α β:Type}{xs:List α}{i:Nat}{t t':α}(h:xs[i]?=some t)(f:α→β)(k:Nat):((xs.set i t')[k]?).map f=if k=i then some (f t') else (xs[k]?).map f:=by
 have hi:i<xs.length:=(List.getElem?_eq_some_iff.1 h).1
 by_cases hk:k=i
 ·subst hk
  simp[hi]
 ·rw[if_neg hk,List.getElem?_set_ne (Ne.symm hk)]
theorem map_setI {α β:Type}{xs:List α}{i:Nat}{t t':α}(h:xs[i]?=some t)(f:α→β)(he:f t'=f t)(k:Nat):((xs.set i t')[k]?).map f=(xs[k]?).map f:=by
 rw[map_setT h]
 split
 ·rename_i hk
  subst hk;rw[h,he];rfl
 ·rfl
theorem cI_setT {i:Nat}{t t':ITask}(ht:m.tasks[i]?=some t)(hb:t'.blocks=t.blocks)(hc:t'.chans=t.chans)(u:TI):cI G (m.setT i t') u=if u=.task i then some (taskCells i t') else cI G m u:=by
 cases u<;>simp only[cI,IM.setT,List.length_set]<;>try rfl
 case mach=>simp[machCells]
 case task k=>
  have hi:i<m.tasks.length:=(List.getElem?_eq_some_iff.1 ht).1
  by_cases hk:k=i
  ·subst hk
   simp[hi]
  ·rw[List.getElem?_set_ne (Ne.symm hk)]
   simp[hk]
 case tblocks k=>rw[map_setI ht (fun t=>(LO.rows k2 (t.blocks.reverse.map pairRow)).flat) (by simp only[hb])];simp
 case tchans k=>rw[map_setI ht (fun t=>(natsL t.chans).flat) (by simp only[hc])];simp
theorem cI_setC {c:Nat}{x x':IChan}(hx:m.chans[c]?=some x)(h1:x'.nums=x.nums)(h2:x'.senders=x.senders)(h3:x'.takers=x.takers)(u:TI):cI G (m.setC c x') u=if u=.chan c then some (chanCells c x') else cI G m u:=by
 cases u<;>simp only[cI,IM.setC,List.length_set]<;>try rfl
 case mach=>simp[machCells]
 case chan k=>
  have hi:c<m.chans.length:=(List.getElem?_eq_some_iff.1 hx).1
  by_cases hk:k=c
  ·subst hk
   simp[hi]
  ·rw[List.getElem?_set_ne (Ne.symm hk)]
   simp[hk]
 case nums k=>rw[map_setI hx (fun x=>(LO.ints .i64 x.nums).flat) (by simp only[h1])];simp
 case senders k=>rw[map_setI hx (fun x=>(LO.rows k2 (x.senders.map pairRow)).flat) (by simp only[h2])];simp
 case takers k=>rw[map_setI hx (fun x=>(natsL x.takers).flat) (by simp only[h3])];simp
theorem setTask_ok {i:Nat}{t t':ITask}{f:Nat}{as:List (AL TI)}(h:setTask t 0 f as=some t'):t'.blocks=t.blocks∧t'.chans=t.chans∧as.all isV=true∧f+as.length≤(taskCells i t).length∧taskCells i t'=setN (taskCells i t) f as:=by
 unfold setTask at h
 split at h<;>first
 |(simp only[Option.some.injEq] at h;subst h;exact⟨rfl,rfl,rfl,of_decide_eq_true rfl,rfl⟩)
 |(cases h)
theorem setMach_ok {m':IM}{f:Nat}{as:List (AL TI)}(h:setMach m f as=some m'):(∀u,cI G m' u=if u=.mach then some (setN (machCells G m) f as) else cI G m u)∧m'.p=m.p∧(m'.inp=m.inp∧m'.arg=m.arg)∧(m'.wait=m.wait∧m'.hook=m.hook)∧as.all isV=true∧f+as.length≤(machCells G m).length:=by
 unfold setMach at h
 split at h<;>first
 |(simp only[Option.some.injEq] at h;subst h;refine⟨fun u=>?_,rfl,⟨rfl,rfl⟩,⟨rfl,rfl⟩,rfl,of_decide_eq_true rfl⟩;cases u<;>simp [cI,machCells,setN,IM.wCode,IM.wTime,IM.wTicks,IM.wNow,IM.wAsks,IM.wUsed];done)
 |(cases h)
theorem exI_wait {m m':IM}(h:m'.wait=m.wait)(hk:m'.hook=m.hook)(S:Sto (Tg TI))(w:World)(e:exI G m S w):exI G m' S w:=by
 obtain⟨es,cl,h1,h2,h4,h3⟩:=e;exact⟨es,cl,h1,h2,hk.trans h4,by rw[h];exact h3⟩
open Classical in
theorem wrI_ok {t:TI} {k f:Nat} {as:List (AL TI)} {κ:IM→Option R} {x:R} (h:wrI m t k f as κ=some x):
  ∃m' cs,cI G m t=some cs∧κ m'=some x∧as.all isV=true∧k*(MI G.Y).sz t+f+as.length≤cs.length∧(∀u,cI G m' u=if u=t then some (setN cs (k*(MI G.Y).sz t+f) as) else cI G m u)∧roI m'=roI m∧∀S w,exI G m S w→exI G m' S w:=by
 have ro:∀{m':IM},m'.p=m.p→(m'.inp=m.inp∧m'.arg=m.arg)→roI m'=roI m:=fun {m'} h1 h2=>by
  funext u
  cases u<;>simp [roI,h1,h2.1,h2.2]
 have dec:∀(p:Prop) (d1:Decidable p) (a b:Option (List (AL TI))),(@ite _ p d1 a b)=@ite _ p (Classical.propDecidable p) a b:=fun p d1 a b=>by
  by_cases h:p<;>simp [h]
 cases t<;>simp only[wrI] at h
 case mach=>
  cases hk:Nat.beq k 0 with
  |false=>rw[hk] at h;cases h
  |true=>
   rw[hk] at h;simp only[cond_true] at h;simp only[Nat.beq_eq] at hk;subst hk
   split at h
   ·cases h
   ·rename_i m' hm
    obtain⟨h1,h2,h3,h4,h5,h6⟩:=setMach_ok (G:=G) hm;refine⟨m',_,rfl,h,h5,by simpa using h6,fun u=>?_,ro h2 h3,fun S w=>exI_wait h4.1 h4.2 S w⟩;rw[h1,Nat.zero_mul,Nat.zero_add,dec]
 case task i=>
  split at h
  ·cases h
  ·rename_i t ht
   have hct:cI G m (.task i)=some (taskCells i t):=by simp only[cI,ht];rfl
   cases hf:Nat.beq f 3 with
   |true=>
    rw[hf] at h;simp only[cond_true] at h;simp only[Nat.beq_eq] at hf;subst hf
    split at h
    ·rename_i v
     split at h
     ·rename_i hk
      refine⟨_,_,hct,h,rfl,by simp only[MI,taskCells,List.length_cons,List.length_nil];omega,fun u=>?_,ro rfl ⟨rfl,rfl⟩,fun S w=>exI_wait rfl rfl S w⟩;rw[cI_setT (t':=t.wRegs (t.regs.set k v)) ht rfl rfl,dec]
      congr 2
      show taskCells i _=setN (taskCells i t) (k*1+3) _
      have hlen:=hk.2
      match k,hk.1,hlen with
      |0,_,hl=>simp[taskCells,ITask.wRegs,setN,List.getElem?_set,hl]
      |1,_,hl=>simp[taskCells,ITask.wRegs,setN,List.getElem?_set,hl]
      |2,_,hl=>simp[taskCells,ITask.wRegs,setN,List.getElem?_set,hl]
      |3,_,hl=>simp[taskCells,ITask.wRegs,setN,List.getElem?_set,hl]
     ·cases h
    ·cases h
   |false=>
    rw[hf] at h;simp only[cond_false] at h
    cases hk:Nat.beq k 0 with
    |false=>rw[hk] at h;cases h
    |true=>
     rw[hk] at h;simp only[cond_true] at h;simp only[Nat.beq_eq] at hk;subst hk
     split at h
     ·cases h
     ·rename_i t' ht'
      obtain⟨h1,h2,h3,h4,h5⟩:=setTask_ok (i:=i) ht';refine⟨_,_,hct,h,h3,by simpa using h4,fun u=>?_,ro rfl ⟨rfl,rfl⟩,fun S w=>exI_wait rfl rfl S w⟩;rw[cI_setT ht h1 h2,h5,Nat.zero_mul,Nat.zero_add,dec]
 case chan c=>
  split at h
  ·cases h
  ·rename_i x0 hx
   split at h
   ·rename_i b
    refine⟨_,_,(by simp only[cI,hx];rfl),h,rfl,of_decide_eq_true rfl,fun u=>?_,ro rfl ⟨rfl,rfl⟩,fun S w=>exI_wait rfl rfl S w⟩;rw[cI_setC (x':=x0.wClosed b) hx rfl rfl rfl]
    by_cases hu:u=TI.chan c
    ·rw[if_pos hu,if_pos hu];rfl
    ·rw[if_neg hu,if_neg hu]
   ·cases h
 case fed=>
  split at h
  ·cases h
  ·rename_i y hy
   cases hk:(Nat.beq k 0&&Nat.beq f 0) with
   |false=>rw[hk] at h;cases h
   |true=>
    rw[hk] at h;simp only[cond_true] at h;simp only[Bool.and_eq_true,Nat.beq_eq] at hk;obtain⟨rfl,rfl⟩:=hk
    split at h
    ·rename_i x0
     refine⟨_,_,(by simp only[cI,hy];rfl),h,rfl,of_decide_eq_true rfl,fun u=>?_,ro rfl ⟨rfl,rfl⟩,fun S w=>exI_wait rfl rfl S w⟩
     by_cases hu:u=TI.fed
     ·subst hu;rw[if_pos rfl];rfl
     ·rw[if_neg hu]
      cases u<;>first|rfl|exact absurd rfl hu
    ·cases h
 all_goals cases h
theorem hmI_spec {t z:TI}{i:Nat}(h:hmI t i=some z):(t=.mach∧((i=7∧z=.recs)∨(i=10∧z=.states)∨(i=11∧z=.tasks)∨(i=12∧z=.row)∨(i=13∧z=.chans)))∨
  (∃k,t=.task k∧((i=2∧z=.tblocks k)∨(i=14∧z=.tchans k)))∨(∃k,t=.chan k∧((i=2∧z=.nums k)∨(i=3∧z=.senders k)∨(i=4∧z=.takers k))):=by
 unfold hmI at h
 split at h<;>simp_all
theorem cI_upd {m':IM}{t z:TI}{cz:List (AL TI)}{ct:List (AL TI)}(hz:cI G m' z=some cz)(ht:cI G m' t=some ct)(ho:∀u,u≠z→u≠t→cI G m' u=cI G m u)(d1:∀u,Decidable (u=z))(d2:∀u,Decidable (u=t))(u:TI):
  cI G m' u=@ite _ (u=z) (d1 u) (some cz) (@ite _ (u=t) (d2 u) (some ct) (cI G m u)):=by
 by_cases h1:u=z
 ·subst h1
  simp[hz]
 ·by_cases h2:u=t
  ·subst h2
   simp[h1,ht]
  ·simp[h1,h2,ho u h1 h2]
theorem cI_setT2 {i:Nat}{t t':ITask}(ht:m.tasks[i]?=some t){u:TI}(h1:u≠.task i)(h2:u=.tblocks i→t'.blocks=t.blocks)(h3:u=.tchans i→t'.chans=t.chans):cI G (m.setT i t') u=cI G m u:=by
 cases u<;>simp only[cI,IM.setT,List.length_set]<;>try rfl
 case mach=>simp[machCells]
 case task k=>
  have hk:k≠i:=fun e=>h1 (by rw[e])
  rw[List.getElem?_set_ne (Ne.symm hk)]
 case tblocks k=>
  by_cases hk:k=i
  ·subst hk
   rw[map_setI ht (fun t=>(LO.rows k2 (t.blocks.reverse.map pairRow)).flat) (by simp only[h2 rfl])]
  ·rw[List.getElem?_set_ne (Ne.symm hk)]
 case tchans k=>
  by_cases hk:k=i
  ·subst hk
   rw[map_setI ht (fun t=>(natsL t.chans).flat) (by simp only[h3 rfl])]
  ·rw[List.getElem?_set_ne (Ne.symm hk)]
theorem cI_setC2 {c:Nat}{x x':IChan}(hx:m.chans[c]?=some x){u:TI}(h0:u≠.chan c)(h1:u=.nums c→x'.nums=x.nums)(h2:u=.senders c→x'.senders=x.senders)(h3:u=.takers c→x'.takers=x.takers):cI G (m.setC c x') u=cI G m u:=by
 cases u<;>simp only[cI,IM.setC,List.length_set]<;>try rfl
 case mach=>simp[machCells]
 case chan k=>
  have hk:k≠c:=fun e=>h0 (by rw[e])
  rw[List.getElem?_set_ne (Ne.symm hk)]
 case nums k=>
  by_cases hk:k=c
  ·subst hk
   rw[map_setI hx (fun x=>(LO.ints .i64 x.nums).flat) (by simp only[h1 rfl])]
  ·rw[List.getElem?_set_ne (Ne.symm hk)]
 case senders k=>
  by_cases hk:k=c
  ·subst hk
   rw[map_setI hx (fun x=>(LO.rows k2 (x.senders.map pairRow)).flat) (by simp only[h2 rfl])]
  ·rw[List.getElem?_set_ne (Ne.symm hk)]
 case takers k=>
  by_cases hk:k=c
  ·subst hk
   rw[map_setI hx (fun x=>(natsL x.takers).flat) (by simp only[h3 rfl])]
  ·rw[List.getElem?_set_ne (Ne.symm hk)]
theorem setT_at {i:Nat}{t t':ITask}(ht:m.tasks[i]?=some t):(m.setT i t').tasks[i]?=some t':=by
 have hi:i<m.tasks.length:=(List.getElem?_eq_some_iff.1 ht).1;simp[IM.setT,hi]
theorem setC_at {c:Nat}{x x':IChan}(hx:m.chans[c]?=some x):(m.setC c x').chans[c]?=some x':=by
 have hi:c<m.chans.length:=(List.getElem?_eq_some_iff.1 hx).1;simp[IM.setC,hi]
open Classical in
theorem hsI_ok {t z:TI} {i n:Nat} {o:LO TI} {κ:IM→Option R} {x:R} (h:hsI m t i z o n κ=some x) (hz:hmI t i=some z):
  ∃m' cs,cI G m t=some cs∧κ m'=some x∧i<cs.length∧(∀u,cI G m' u=if u=z then some o.flat else if u=t then some (cs.set i (.sl (.m z) 0 ((MI G.Y).sz z) n)) else cI G m u)∧roI m'=roI m∧∀S w,exI G m S w→exI G m' S w:=by
 have ro:∀{m':IM},m'.p=m.p→(m'.inp=m.inp∧m'.arg=m.arg)→roI m'=roI m:=fun {m'} h1 h2=>by
  funext u
  cases u<;>simp [roI,h1,h2.1,h2.2]
 rcases hmI_spec hz with ⟨rfl,hq⟩|⟨k,rfl,hq⟩|⟨k,rfl,hq⟩
 ·rcases hq with ⟨rfl,rfl⟩|⟨rfl,rfl⟩|⟨rfl,rfl⟩|⟨rfl,rfl⟩|⟨rfl,rfl⟩
  ·cases o<;>simp only[hsI] at h<;>try (cases h;done)
   split at h
   ·rename_i l hl
    split at h
    ·rename_i hc
     obtain⟨rfl,rfl⟩:=hc;refine⟨_,_,rfl,h,of_decide_eq_true rfl,fun u=>?_,ro rfl ⟨rfl,rfl⟩,fun S w=>exI_wait rfl rfl S w⟩
     refine cI_upd ?_ ?_ (fun u h1 h2=>?_) _ _ u
     ·rw[toRecs_eq hl];rfl
     ·rfl
     ·cases u<;>first|rfl|exact absurd rfl h1|exact absurd rfl h2
    ·cases h
   ·cases h
  ·cases o<;>simp only[hsI] at h<;>try (cases h;done)
   split at h
   ·rename_i hc
    obtain⟨rfl,rfl⟩:=hc;refine⟨_,_,rfl,h,of_decide_eq_true rfl,fun u=>?_,ro rfl ⟨rfl,rfl⟩,fun S w=>exI_wait rfl rfl S w⟩
    refine cI_upd ?_ ?_ (fun u h1 h2=>?_) _ _ u
    ·rfl
    ·rfl
    ·cases u<;>first|rfl|exact absurd rfl h1|exact absurd rfl h2
   ·cases h
  ·cases o<;>simp only[hsI] at h<;>cases h
  ·cases o<;>simp only[hsI] at h<;>try (cases h;done)
   split at h
   ·rename_i l hl
    split at h
    ·rename_i hc
     obtain⟨rfl,rfl⟩:=hc;refine⟨_,_,rfl,h,of_decide_eq_true rfl,fun u=>?_,ro rfl ⟨rfl,rfl⟩,fun S w=>exI_wait rfl rfl S w⟩
     refine cI_upd ?_ ?_ (fun u h1 h2=>?_) _ _ u
     ·rw[toNats_eq hl];rfl
     ·rfl
     ·cases u<;>first|rfl|exact absurd rfl h1|exact absurd rfl h2
    ·cases h
   ·cases h
  ·cases o<;>simp only[hsI] at h<;>cases h
 ·rcases hq with ⟨rfl,rfl⟩|⟨rfl,rfl⟩
  ·cases o<;>simp only[hsI] at h<;>try (cases h;done)
   split at h
   ·cases h
   ·rename_i t ht
    split at h
    ·rename_i l hl
     split at h
     ·rename_i hc
      obtain⟨rfl,rfl⟩:=hc;refine⟨_,_,(by simp only[cI,ht];rfl),h,of_decide_eq_true rfl,fun u=>?_,ro rfl ⟨rfl,rfl⟩,fun S w=>exI_wait rfl rfl S w⟩
      refine cI_upd ?_ ?_ (fun u h1 h2=>?_) _ _ u
      ·simp only[cI,setT_at ht];rw[toPairs_eq hl];simp[ITask.wBlocks]
      ·simp only[cI,setT_at ht];simp[taskCells,MI,ITask.wBlocks,ITask.wChans]
      ·exact cI_setT2 ht h2 (fun e=>absurd e h1) (fun _=>rfl)
     ·cases h
    ·cases h
  ·cases o<;>simp only[hsI] at h<;>try (cases h;done)
   split at h
   ·cases h
   ·rename_i t ht
    split at h
    ·rename_i l hl
     split at h
     ·rename_i hc
      obtain⟨rfl,rfl⟩:=hc;refine⟨_,_,(by simp only[cI,ht];rfl),h,of_decide_eq_true rfl,fun u=>?_,ro rfl ⟨rfl,rfl⟩,fun S w=>exI_wait rfl rfl S w⟩
      refine cI_upd ?_ ?_ (fun u h1 h2=>?_) _ _ u
      ·simp only[cI,setT_at ht];rw[toNats_eq hl];rfl
      ·simp only[cI,setT_at ht];simp[taskCells,MI,ITask.wBlocks,ITask.wChans]
      ·exact cI_setT2 ht h2 (fun _=>rfl) (fun e=>absurd e h1)
     ·cases h
    ·cases h
 ·rcases hq with ⟨rfl,rfl⟩|⟨rfl,rfl⟩|⟨rfl,rfl⟩
  ·cases o<;>simp only[hsI] at h<;>try (cases h;done)
   split at h
   ·cases h
   ·rename_i c hx
    split at h
    ·rename_i hc
     obtain⟨rfl,rfl⟩:=hc;refine⟨_,_,(by simp only[cI,hx];rfl),h,of_decide_eq_true rfl,fun u=>?_,ro rfl ⟨rfl,rfl⟩,fun S w=>exI_wait rfl rfl S w⟩
     refine cI_upd ?_ ?_ (fun u h1 h2=>?_) _ _ u
     ·simp only[cI,setC_at hx];rfl
     ·simp only[cI,setC_at hx];simp[chanCells,MI,IChan.wNums,IChan.wSenders,IChan.wTakers]
     ·exact cI_setC2 hx h2 (fun e=>absurd e h1) (fun _=>rfl) (fun _=>rfl)
    ·cases h
  ·cases o<;>simp only[hsI] at h<;>try (cases h;done)
   split at h
   ·cases h
   ·rename_i c hx
    split at h
    ·rename_i l hl
     split at h
     ·rename_i hc
      obtain⟨rfl,rfl⟩:=hc;refine⟨_,_,(by simp only[cI,hx];rfl),h,of_decide_eq_true rfl,fun u=>?_,ro rfl ⟨rfl,rfl⟩,fun S w=>exI_wait rfl rfl S w⟩
      refine cI_upd ?_ ?_ (fun u h1 h2=>?_) _ _ u
      ·simp only[cI,setC_at hx];rw[toPairs_eq hl];rfl
      ·simp only[cI,setC_at hx];simp[chanCells,MI,IChan.wNums,IChan.wSenders,IChan.wTakers]
      ·exact cI_setC2 hx h2 (fun _=>rfl) (fun e=>absurd e h1) (fun _=>rfl)
     ·cases h
    ·cases h
  ·cases o<;>simp only[hsI] at h<;>try (cases h;done)
   split at h
   ·cases h
   ·rename_i c hx
    split at h
    ·rename_i l hl
     split at h
     ·rename_i hc
      obtain⟨rfl,rfl⟩:=hc;refine⟨_,_,(by simp only[cI,hx];rfl),h,of_decide_eq_true rfl,fun u=>?_,ro rfl ⟨rfl,rfl⟩,fun S w=>exI_wait rfl rfl S w⟩
      refine cI_upd ?_ ?_ (fun u h1 h2=>?_) _ _ u
      ·simp only[cI,setC_at hx];rw[toNats_eq hl];rfl
      ·simp only[cI,setC_at hx];simp[chanCells,MI,IChan.wNums,IChan.wSenders,IChan.wTakers]
      ·exact cI_setC2 hx h2 (fun _=>rfl) (fun _=>rfl) (fun e=>absurd e h1)
     ·cases h
    ·cases h
theorem flat_v {o:LO TI}(ho:(∃k xs,o=.ints k xs)∨∃ks xs,o=.rows ks xs){a:AL TI}(ha:a∈o.flat):∃v,a=.v v:=by
 rcases ho with ⟨k,xs,rfl⟩|⟨ks,xs,rfl⟩
 ·simp only[LO.flat,List.mem_map] at ha
  obtain⟨x,_,rfl⟩:=ha;exact⟨_,rfl⟩
 ·simp only[LO.flat,List.mem_flatMap,rowCells,List.mem_map] at ha
  obtain⟨r,_,q,_,rfl⟩:=ha;exact⟨_,rfl⟩
theorem cI_cells {t:TI}{cs:List (AL TI)}(h:cI G m t=some cs){i:Nat}{a:AL TI}(ha:cs[i]?=some a):
  (∃v,a=.v v)∨(∃z,a=.p (.m z) 0 1 0∧(MI G.Y).fix z=true)∨(∃z s n,a=.sl (.m z) 0 s n∧(hmI t i=some z∨z=.bodies∨z=.rooms∨z=.feed)):=by
 have lst:∀{cs:List (AL TI)} {p:Nat→AL TI→Prop},(∀i (hi:i<cs.length),p i cs[i])→cs[i]?=some a→p i a:=fun {cs p} hp hc=>by
  obtain⟨hi,he⟩:=List.getElem?_eq_some_iff.1 hc;rw[←he];exact hp i hi
 have fl:∀{o:LO TI},((∃k xs,o=.ints k xs)∨∃ks xs,o=.rows ks xs)→o.flat[i]?=some a→(∃v,a=.v v):=fun ho hc=>flat_v ho (List.mem_of_getElem? hc)
 cases t<;>simp only[cI,Option.some.injEq,Option.map_eq_some_iff,reduceCtorEq] at h
 case mach=>
  subst h;have hi:=(List.getElem?_eq_some_iff.1 ha).1;simp only[machCells,List.length_cons,List.length_nil] at hi
  match i,hi,ha with
  |0,_,ha=>simp[machCells] at ha;subst ha;exact .inr (.inr ⟨_,_,_,rfl,.inr (.inl rfl)⟩)
  |1,_,ha=>simp[machCells] at ha;subst ha;exact .inr (.inr ⟨_,_,_,rfl,.inr (.inr (.inl rfl))⟩)
  |2,_,ha=>simp[machCells] at ha;subst ha;exact .inl ⟨_,rfl⟩
  |3,_,ha=>simp[machCells] at ha;subst ha;exact .inr (.inr ⟨_,_,_,rfl,.inr (.inr (.inr rfl))⟩)
  |4,_,ha=>simp[machCells] at ha;subst ha;exact .inl ⟨_,rfl⟩
  |5,_,ha=>simp[machCells] at ha;subst ha;exact .inl ⟨_,rfl⟩
  |6,_,ha=>simp[machCells] at ha;subst ha;exact .inl ⟨_,rfl⟩
  |7,_,ha=>simp[machCells] at ha;subst ha;exact .inr (.inr ⟨_,_,_,rfl,.inl rfl⟩)
  |8,_,ha=>simp[machCells] at ha;subst ha;exact .inl ⟨_,rfl⟩
  |9,_,ha=>simp[machCells] at ha;subst ha;exact .inl ⟨_,rfl⟩
  |10,_,ha=>simp[machCells] at ha;subst ha;exact .inr (.inr ⟨_,_,_,rfl,.inl rfl⟩)
  |11,_,ha=>simp[machCells] at ha;subst ha;exact .inr (.inr ⟨_,_,_,rfl,.inl rfl⟩)
  |12,_,ha=>simp[machCells] at ha;subst ha;exact .inr (.inr ⟨_,_,_,rfl,.inl rfl⟩)
  |13,_,ha=>simp[machCells] at ha;subst ha;exact .inr (.inr ⟨_,_,_,rfl,.inl rfl⟩)
  |14,_,ha=>simp[machCells] at ha;subst ha;exact .inl ⟨_,rfl⟩
  |15,_,ha=>simp[machCells] at ha;subst ha;exact .inl ⟨_,rfl⟩
  |16,_,ha=>simp[machCells] at ha;subst ha;exact .inl ⟨_,rfl⟩
  |17,_,ha=>simp[machCells] at ha;subst ha;exact .inl ⟨_,rfl⟩
  |18,_,ha=>simp[machCells] at ha;subst ha;exact .inl ⟨_,rfl⟩
  |n+19,hi,_=>omega
 case task k=>
  obtain⟨t,_,rfl⟩:=h;have hi:=(List.getElem?_eq_some_iff.1 ha).1;simp only[taskCells,List.length_cons,List.length_nil] at hi
  match i,hi,ha with
  |0,_,ha=>simp[taskCells] at ha;subst ha;exact .inl ⟨_,rfl⟩
  |1,_,ha=>simp[taskCells] at ha;subst ha;exact .inl ⟨_,rfl⟩
  |2,_,ha=>simp[taskCells] at ha;subst ha;exact .inr (.inr ⟨_,_,_,rfl,.inl rfl⟩)
  |3,_,ha=>simp[taskCells] at ha;subst ha;exact .inl ⟨_,rfl⟩
  |4,_,ha=>simp[taskCells] at ha;subst ha;exact .inl ⟨_,rfl⟩
  |5,_,ha=>simp[taskCells] at ha;subst ha;exact .inl ⟨_,rfl⟩
  |6,_,ha=>simp[taskCells] at ha;subst ha;exact .inl ⟨_,rfl⟩
  |7,_,ha=>simp[taskCells] at ha;subst ha;exact .inl ⟨_,rfl⟩
  |8,_,ha=>simp[taskCells] at ha;subst ha;exact .inl ⟨_,rfl⟩
  |9,_,ha=>simp[taskCells] at ha;subst ha;exact .inl ⟨_,rfl⟩
  |10,_,ha=>simp[taskCells] at ha;subst ha;exact .inl ⟨_,rfl⟩
  |11,_,ha=>simp[taskCells] at ha;subst ha;exact .inl ⟨_,rfl⟩
  |12,_,ha=>simp[taskCells] at ha;subst ha;exact .inl ⟨_,rfl⟩
  |13,_,ha=>simp[taskCells] at ha;subst ha;exact .inl ⟨_,rfl⟩
  |14,_,ha=>simp[taskCells] at ha;subst ha;exact .inr (.inr ⟨_,_,_,rfl,.inl rfl⟩)
  |15,_,ha=>simp[taskCells] at ha;subst ha;exact .inl ⟨_,rfl⟩
  |16,_,ha=>simp[taskCells] at ha;subst ha;exact .inl ⟨_,rfl⟩
  |n+17,hi,_=>omega
 case chan k=>
  obtain⟨t,_,rfl⟩:=h;have hi:=(List.getElem?_eq_some_iff.1 ha).1;simp only[chanCells,List.length_cons,List.length_nil] at hi
  match i,hi,ha with
  |0,_,ha=>simp[chanCells] at ha;subst ha;exact .inl ⟨_,rfl⟩
  |1,_,ha=>simp[chanCells] at ha;subst ha;exact .inl ⟨_,rfl⟩
  |2,_,ha=>simp[chanCells] at ha;subst ha;exact .inr (.inr ⟨_,_,_,rfl,.inl rfl⟩)
  |3,_,ha=>simp[chanCells] at ha;subst ha;exact .inr (.inr ⟨_,_,_,rfl,.inl rfl⟩)
  |4,_,ha=>simp[chanCells] at ha;subst ha;exact .inr (.inr ⟨_,_,_,rfl,.inl rfl⟩)
  |n+5,hi,_=>omega
 case tasks=>
  subst h;have:=List.mem_of_getElem? ha;simp only[ptrsL,List.mem_map] at this;obtain⟨k,_,rfl⟩:=this;exact .inr (.inl ⟨_,rfl,rfl⟩)
 case chans=>
  subst h;have:=List.mem_of_getElem? ha;simp only[ptrsL,List.mem_map] at this;obtain⟨k,_,rfl⟩:=this;exact .inr (.inl ⟨_,rfl,rfl⟩)
 case cell=>
  subst h;have:=List.mem_of_getElem? ha;simp only[List.mem_cons,List.not_mem_nil,or_false] at this;exact .inr (.inl ⟨_,this,rfl⟩)
 case fed=>
  obtain⟨x,_,rfl⟩:=h;have:=List.mem_of_getElem? ha;simp only[List.mem_cons,List.not_mem_nil,or_false] at this;subst this;exact .inl ⟨_,rfl⟩
 all_goals first
 |(subst h;exact .inl (fl (.inl ⟨_,_,rfl⟩) ha))
 |(subst h;exact .inl (fl (.inr ⟨_,_,rfl⟩) ha))
 |(obtain⟨t,_,rfl⟩:=h;first|exact .inl (fl (.inl ⟨_,_,rfl⟩) ha)|exact .inl (fl (.inr ⟨_,_,rfl⟩) ha))
theorem roI_cells {t:TI}{cs:List (AL TI)}(h:roI m t=some cs){a:AL TI}(ha:a∈cs):(∃v,a=.v v)∨∃b s n,a=.sl (.m (.steps b)) 0 s n:=by
 cases t<;>simp only[roI,Option.some.injEq,Option.map_eq_some_iff,reduceCtorEq] at h
 case bodies=>
  subst h;simp only[List.mem_map] at ha;obtain⟨q,_,rfl⟩:=ha;exact .inr ⟨_,_,_,rfl⟩
 all_goals first
 |(subst h;first|exact .inl (flat_v (.inl ⟨_,_,rfl⟩) ha)|exact .inl (flat_v (.inr ⟨_,_,rfl⟩) ha))
 |(obtain⟨t,_,rfl⟩:=h;first|exact .inl (flat_v (.inl ⟨_,_,rfl⟩) ha)|exact .inl (flat_v (.inr ⟨_,_,rfl⟩) ha))
theorem hmI_inj {t t' z:TI}{i i':Nat}(h:hmI t i=some z)(h':hmI t' i'=some z):t=t'∧i=i':=by
 have h1:=hmI_spec h;have h2:=hmI_spec h';clear h h'
 rcases h1 with ⟨rfl,h⟩|⟨k,rfl,h⟩|⟨k,rfl,h⟩
 ·rcases h with ⟨rfl,rfl⟩|⟨rfl,rfl⟩|⟨rfl,rfl⟩|⟨rfl,rfl⟩|⟨rfl,rfl⟩<;>simp_all
 ·rcases h with ⟨rfl,rfl⟩|⟨rfl,rfl⟩<;>simp_all<;>omega
 ·rcases h with ⟨rfl,rfl⟩|⟨rfl,rfl⟩|⟨rfl,rfl⟩<;>simp_all<;>omega
theorem hmI_kinds (Y:TyI){t z:TI}{i:Nat}(h:hmI t i=some z):(MI Y).fix t=true∧(MI Y).fix z=false∧z≠t∧0<(MI Y).sz z∧(MI Y).sz t=1∧(emI z).flat=[]∧(emI z).fits ((MI Y).sz z)=true:=by
 have h1:=hmI_spec h;clear h
 rcases h1 with ⟨rfl,h⟩|⟨k,rfl,h⟩|⟨k,rfl,h⟩
 ·rcases h with ⟨rfl,rfl⟩|⟨rfl,rfl⟩|⟨rfl,rfl⟩|⟨rfl,rfl⟩|⟨rfl,rfl⟩<;>exact ⟨rfl,rfl,(by simp),of_decide_eq_true rfl,rfl,rfl,rfl⟩
 ·rcases h with ⟨rfl,rfl⟩|⟨rfl,rfl⟩<;>exact ⟨rfl,rfl,(by simp),of_decide_eq_true rfl,rfl,rfl,rfl⟩
 ·rcases h with ⟨rfl,rfl⟩|⟨rfl,rfl⟩|⟨rfl,rfl⟩<;>exact ⟨rfl,rfl,(by simp),of_decide_eq_true rfl,rfl,rfl,rfl⟩
theorem exI_keep {S S':Sto (Tg TI)}{w w':World}(h:exI G m S w)(h1:∀es cl,w.heap[G.wb]?=some (Obj.map es cl)→w'.heap[G.wb]?=some (Obj.map es cl)∧(S'.own G.wb=none→S.own G.wb=none))(hl:∀k,S'.loc (.m (.waitL k))=S.loc (.m (.waitL k)))(hw0:S'.loc (.m .wmap)=S.loc (.m .wmap)):exI G m S' w':=by
 have hw:(S'.loc (.m .wmap)).b=(S.loc (.m .wmap)).b:=by rw[hw0]
 obtain⟨es,cl,h2,h3,hhk,h4⟩:=h;obtain⟨h5,h6⟩:=h1 es cl h2;exact⟨es,cl,h5,⟨hw.trans h3.1,fun h=>h3.2 (h6 h)⟩,hhk,fun e he=>by obtain⟨q,h7,h8⟩:=h4.1 e he;exact⟨q,h7,by rw[h8,hl q]⟩,fun q hq=>by rw[hl q];exact h4.2.1 q hq,h4.2.2⟩
theorem lsI_some {o:LO TI}{κ:IM→Option R}{x:R}(h:lsI m o κ=some x):∃l,o=.ints .i64 (l.map Int.ofNat)∧κ (m.wArg l)=some x:=by
 unfold lsI at h
 split at h
 ·split at h
  ·rename_i l hl
   exact⟨l,by rw[toNats_eq hl],h⟩
  ·cases h
 ·cases h
theorem cI_noarg {t:TI}{cs:List (AL TI)}(h:cI G m t=some cs){k s n:Nat}(hm:AL.sl (.m TI.arg) k s n∈cs):False:=by
 cases t<;>simp only[cI,Option.map_eq_some_iff,Option.some.injEq,reduceCtorEq] at h
 all_goals first
 |(subst h;simp[machCells,ptrsL,LO.flat,natsL,rowCells] at hm;done)
 |(obtain⟨y,_,rfl⟩:=h;simp[taskCells,chanCells,LO.flat,natsL,rowCells] at hm;done)
theorem roI_noarg {t:TI}{cs:List (AL TI)}(h:roI m t=some cs){k s n:Nat}(hm:AL.sl (.m TI.arg) k s n∈cs):False:=by
 cases t<;>simp only[roI,Option.map_eq_some_iff,Option.some.injEq,reduceCtorEq] at h
 all_goals first
 |(subst h;simp[LO.flat,natsL,rowCells] at hm;done)
 |(obtain⟨y,_,rfl⟩:=h;simp[LO.flat,rowCells] at hm;done)
theorem enc_sl0' (S:Sto (Tg TI))(z:TI)(sz n:Nat):encL S (.sl (.m z) 0 sz n)=(S.loc (.m z)).val n:=by simp[encL,later_zero]
theorem ite_inst2 {α:Sort _}(p q:Prop)(d1 d2:Decidable p)(e1 e2:Decidable q)(a b c:α):@ite α p d1 a (@ite α q e1 b c)=@ite α p d2 a (@ite α q e2 b c):=by congr
theorem ite_inst {α:Sort _}(p:Prop)(d1 d2:Decidable p)(a b:α):@ite α p d1 a b=@ite α p d2 a b:=by congr
theorem mdI_ok (G:GI):MdOk (mdI G) where
 cell:=fun st t cs h a ha=>by
  obtain⟨i,hi⟩:=List.getElem?_of_mem ha
  rcases cI_cells (G:=G) (m:=st) h hi with ⟨v,rfl⟩|⟨z,rfl,hz⟩|⟨z,s,n,rfl,_⟩
  ·trivial
  ·exact hz
  ·trivial
 home:=fun st t cs i k s n z h hi hz=>by
  rcases cI_cells (G:=G) (m:=st) h hi with ⟨v,hv⟩|⟨z',hv,_⟩|⟨z',s',n',hv,h1⟩
  ·cases hv
  ·cases hv
  ·cases hv
   rcases h1 with h1|rfl|rfl|rfl
   ·exact h1
   ·cases hz
   ·cases hz
   ·cases hz
 inj:=fun t i t' i' z h h'=>hmI_inj h h'
 rocell:=fun st t cs h a ha=>by
  rcases roI_cells (m:=st) h ha with ⟨v,rfl⟩|⟨b,s,n,rfl⟩
  ·trivial
  ·rfl
 rois:=fun st t cs h=>by
  cases t<;>first
  |rfl
  |(exact absurd h (by simp[mdI,roI]))
 cis:=fun st t cs h=>by
  cases t<;>first
  |rfl
  |(exact absurd h (by simp[mdI,cI]))
 rd:=fun st t k f n κ x h=>rdI_ok h
 ln:=fun st t κ x h=>lnI_ok h
 gt:=fun st t κ x h=>gtI_ok G.Y h
 wr:=fun st t k f as κ x h=>by
  obtain⟨m',cs,h1,h2,h3,h4,h5,h6,h7⟩:=wrI_ok (G:=G) h;exact⟨m',cs,h1,h2,h3,h4,fun u=>(h5 u).trans (ite_inst _ _ _ _ _),h6,h7⟩
 hs:=fun st t i z o n κ x h hz=>by
  obtain⟨m',cs,h1,h2,h3,h5,h6,h7⟩:=hsI_ok (G:=G) h hz;exact⟨m',cs,h1,h2,h3,fun u=>(h5 u).trans (ite_inst2 _ _ _ _ _ _ _ _ _),h6,h7⟩
 hmk:=fun t i z h=>by
  obtain⟨h1,h2,h3,h4,h5,_⟩:=hmI_kinds G.Y h;refine⟨h1,h2,?_,?_,h3,h4,h5⟩
  ·have h6:=hmI_spec h
   clear h
   rcases h6 with ⟨rfl,h⟩|⟨k,rfl,h⟩|⟨k,rfl,h⟩
   ·rcases h with ⟨_,rfl⟩|⟨_,rfl⟩|⟨_,rfl⟩|⟨_,rfl⟩|⟨_,rfl⟩<;>rfl
   ·rcases h with ⟨_,rfl⟩|⟨_,rfl⟩<;>rfl
   ·rcases h with ⟨_,rfl⟩|⟨_,rfl⟩|⟨_,rfl⟩<;>rfl
  ·have h6:=hmI_spec h
   clear h
   rcases h6 with ⟨rfl,h⟩|⟨k,rfl,h⟩|⟨k,rfl,h⟩
   ·rcases h with ⟨_,rfl⟩|⟨_,rfl⟩|⟨_,rfl⟩|⟨_,rfl⟩|⟨_,rfl⟩<;>rfl
   ·rcases h with ⟨_,rfl⟩|⟨_,rfl⟩<;>rfl
   ·rcases h with ⟨_,rfl⟩|⟨_,rfl⟩|⟨_,rfl⟩<;>rfl
 live:=fun st t h=>by
  cases t
  case task i=>
   have hi:i<List.length st.tasks:=of_decide_eq_true h;exact⟨rfl,by show (cI G st (.task i)).isSome=true;simp[cI,hi]⟩
  all_goals cases h
 larg:=⟨rfl,rfl,rfl,fun st t cs h k s n hm=>cI_noarg (m:=st) h hm,fun st t cs h k s n hm=>roI_noarg (m:=st) h hm⟩
 ls:=fun {R} st o κ x h0=>by
  obtain⟨l,rfl,h⟩:=lsI_some h0;refine⟨_,h,?_,fun u=>?_,fun S w hex=>exI_wait (m:=st) rfl rfl S w hex,fun t=>?_⟩
  ·funext u
   show cI G (IM.wArg st l) u=cI G st u
   cases u<;>rfl
  ·show roI (IM.wArg st l) u=_
   by_cases hu:u=TI.arg
   ·subst hu
    exact (if_pos rfl).symm
   ·refine Eq.trans ?_ (if_neg hu).symm
    show roI (IM.wArg st l) u=roI st u
    cases u<;>first|rfl|exact (hu rfl).elim
  ·cases t<;>rfl
 lu:=fun a b=>by
  refine⟨?_,fun u=>?_,fun S w hex=>exI_wait (m:=b) rfl rfl S w hex⟩
  ·funext u
   show cI G (IM.wArg b (IM.arg a)) u=cI G b u
   cases u<;>rfl
  ·show roI (IM.wArg b (IM.arg a)) u=_
   by_cases hu:u=TI.arg
   ·subst hu
    exact (if_pos rfl).symm
   ·refine Eq.trans ?_ (if_neg hu).symm
    show roI (IM.wArg b (IM.arg a)) u=roI b u
    cases u<;>first|rfl|exact (hu rfl).elim
 lk:=fun {R} st v i κ x h=>by
  simp only[mdI] at h
  split at h
  ·rename_i b
   split at h
   ·rename_i hb
    obtain⟨rfl,hi⟩:=hb;refine⟨_,_,rfl,h,fun S w hex=>?_⟩;obtain⟨es,cl,h1,h2,h3,h4,h5,h6⟩:=hex
    have hi':((i.toNat:Nat):Int)=i:=by omega
    refine⟨h2.1,es,cl,h1,fun e he=>?_,fun e he hk=>?_,fun hno=>?_⟩
    ·obtain⟨k,hk,_⟩:=h4 e he
     exact⟨k,hk⟩
    ·obtain⟨k,hk',hv⟩:=h4 e he
     rw[hk] at hk'
     injection hk' with _ hk'
     have:k=i.toNat:=by omega
     subst this;rw[hv];exact (enc_sl0' S _ _ _).symm
    ·obtain⟨g1,g2,g3,g4⟩:=h5 i.toNat (fun e he=>by rw[show i64 (i.toNat:Int)=.int .i64 i from by rw[hi']];exact hno e he)
     refine (enc_sl0' S _ _ _).trans ?_
     have e:(st.wait i.toNat).length=0:=by rw[g1];rfl
     rw[e];simp only[SL.val,SL.addr];rw[g2,g3,g4];rfl
   ·cases h
  ·cases h
 em:=fun t i z h=>(hmI_kinds G.Y h).2.2.2.2.2
 ex:=fun st S w S' w' h k hl=>exI_keep (m:=st) h (fun es cl h1=>⟨k.nc _ _ _ h1,(k.own _ (Array.getElem?_eq_some_iff.1 h1).1).1⟩) (fun q=>hl (.waitL q) rfl) (hl .wmap rfl)
 exd:=fun st S w S' h hown hl=>exI_keep (m:=st) h (fun es cl h1=>⟨h1,(hown _ (fun c e f hc=>by rw[h1] at hc;cases hc)).1⟩) (fun q=>hl (.waitL q) rfl) (hl .wmap rfl)
end
end Go.Beat
end
section
namespace Go.Beat
open Go _root_.Beat
def mdS (G:GI):Md:={ mdI G with
 c:=fun _ _=>none
 ex:=fun _ _ _=>True
 rd:=fun _ _ _ _ _ _=>none
 ln:=fun _ _ _=>none
 gt:=fun _ _ _=>none
 wr:=fun _ _ _ _ _ _=>none
 hs:=fun _ _ _ _ _ _ _=>none
 lk:=fun _ _ _ _=>none
 ls:=fun _ _ _=>none
 live:=fun _ _=>false}
theorem mdS_ok (G:GI):MdOk (mdS G) where
 cell:=fun _ _ _ h=>by cases h
 home:=fun _ _ _ _ _ _ _ _ h=>by cases h
 inj:=(mdI_ok G).inj
 rocell:=fun st t cs h a ha=>by
  have:=(mdI_ok G).rocell st t cs h a ha
  cases a with
  |v x=>trivial
  |p z k s f=>exact this
  |sl z k s n=>cases z with
   |m z=>exact this
   |loc j=>exact this
 rois:=(mdI_ok G).rois
 cis:=fun _ _ _ h=>by cases h
 rd:=fun _ _ _ _ _ _ _ h=>by cases h
 ln:=fun _ _ _ _ h=>by cases h
 gt:=fun _ _ _ _ h=>by cases h
 wr:=fun _ _ _ _ _ _ _ h=>by cases h
 hs:=fun _ _ _ _ _ _ _ _ h=>by cases h
 lk:=fun _ _ _ _ _ h=>by cases h
 larg:=⟨rfl,rfl,rfl,fun _ _ _ h=>(by cases h),(mdI_ok G).larg.2.2.2.2⟩
 ls:=fun _ _ _ _ h=>by cases h
 lu:=fun a b=>⟨rfl,((mdI_ok G).lu a b).2.1,fun _ _ _=>trivial⟩
 hmk:=(mdI_ok G).hmk
 live:=fun _ _ h=>by cases h
 em:=(mdI_ok G).em
 ex:=fun _ _ _ _ _ _ _ _=>trivial
 exd:=fun _ _ _ _ _ _ _=>trivial
def mNew (p:_root_.Beat.Plan)(inp:_root_.Beat.Input)(hook:Option Int):IM:={p:=p,inp:=inp,hook:=hook}
abbrev noSl:AL TI:=.v (.slice none 0 0)
def machBox (G:GI)(m:IM)(hv:Value):List (AL TI):=
 [.sl (.m .bodies) 0 1 m.p.bodies.length,.sl (.m .rooms) 0 1 m.p.rooms.length,.v (i64 m.p.slice),.sl (.m .feed) 0 3 m.inp.feed.length,.v (i64 m.inp.ticks),.v (i64 m.inp.until_),
  .v (i64 0),noSl,.v (i64 0),.v (i64 0),noSl,noSl,noSl,noSl,.v (i64 0),.v (i64 0),.v (.map (some G.wb)),.v (i64 0),.v hv]
open Classical in
noncomputable def stoNew (S:Sto (Tg TI)) (wb:Nat):Sto (Tg TI) where
 own:=fun b=>if b=(S.loc (.loc 4)).b then some (.m .mach) else if b=wb then some (.m .wmap) else if b=(S.loc (.loc 3)).b then some (.m .cell) else S.own b
 loc:=fun t=>if t=.m .mach then S.loc (.loc 4) else if t=.m .wmap then ⟨wb,0,0,false,none⟩ else if t=.m .cell then S.loc (.loc 3) else S.loc t
theorem nilHolds {M:Meta (Tg TI)}{S:Sto (Tg TI)}{h:Heap}{t:Tg TI}(hs:S.loc t=SL.none)(hp:0<M.sz t)(hf:M.fix t=false):HoldsAt M S h t []:=by
 refine⟨⟨0,by simp,Nat.zero_le _⟩,by rw[hs];simp[SL.none],hp,fun h=>?_,fun _=>by rw[hs];exact⟨rfl,rfl⟩,fun h=>?_⟩
 ·rw[hf] at h;cases h
 ·rw[hs] at h;cases h
def qMW:Tg TI→Bool
 |.m .mach=>true
 |.m .wmap=>true
 |.m .cell=>true
 |_=>false
theorem RoAt.moved {τ:Type}{S S':Sto (Tg τ)}{w:World}{t:τ}{sz:Nat}{cs:List (AL τ)}(r:RoAt S w t sz cs)(hl:S'.loc (.m t)=S.loc (.m t))(he:∀a∈cs,encL S' a=encL S a)(ho:cs≠[]→S.own (S.loc (.m t)).b=none→S'.own (S.loc (.m t)).b=none):RoAt S' w t sz cs:=
 ⟨fun j a ha=>by rw[hl,he a (List.mem_of_getElem? ha)];exact r.cell j a ha,fun h=>by rw[hl];exact⟨ho h (r.own h).1,(r.own h).2⟩,by rw[hl];exact r.cap⟩
theorem HoldsAt.moved {τ:Type}{M M':Meta τ}{S S':Sto τ}{h:Heap}{t t':τ}{cs:List Value}(H:HoldsAt M S h t cs)(hl:S'.loc t'=S.loc t)(ho:S'.own (S.loc t).b=some t')(h1:M'.ty t'=M.ty t)(h2:M'.sz t'=M.sz t)(h3:M'.fix t'=M.fix t):HoldsAt M' S' h t' cs:=by
 refine⟨by rw[hl,h2];exact H.len,by rw[hl];exact H.cap,by rw[h2];exact H.pos,fun h=>by rw[hl];exact H.fix (h3 ▸ h),fun h=>by rw[hl] at h ⊢;exact H.nil h,fun h=>?_⟩;rw[hl] at h ⊢;obtain⟨_,pre,post,g2,g3,g4⟩:=H.blk h;exact⟨ho,pre,post,by rw[h1];exact g2,g3,by rw[h2];exact g4⟩
section
variable {G:GI} {B:Base (mdS G)} {w:World} {S:Sto (Tg TI)}
open Classical in
theorem stoNew_loc (S:Sto (Tg TI)) (wb:Nat) (t:Tg TI) (h:qMW t=false):(stoNew S wb).loc t=S.loc t:=by
 have h1:t≠.m .mach:=fun e=>by subst e;cases h
 have h2:t≠.m .wmap:=fun e=>by subst e;cases h
 have h3:t≠.m .cell:=fun e=>by subst e;cases h
 simp[stoNew,h1,h2,h3]
open Classical in
theorem stoNew_cell (S:Sto (Tg TI)) (wb:Nat):(stoNew S wb).loc (.m .cell)=S.loc (.loc 3):=by simp[stoNew]
open Classical in
theorem start_rel {p:_root_.Beat.Plan} {inp:_root_.Beat.Input} {hk:Option Int} {o0 o1 o2:LObj TI} {hv0:Value} (hv:hv0=G.hv) (hhk:G.hk=hk)
  (R:Rel B (mNew p inp hk) [o0,o1,o2,⟨G.Y.machP,1,true,some (.cells [.p (.loc 4) 0 1 0])⟩,⟨G.Y.mach,1,true,some (.cells (machBox G (mNew p inp hk) hv0))⟩] [] S w)
  (hn:∀t:TI,(mdI G).isro t=false→S.loc (.m t)=SL.none) (hw:w.heap[G.wb]?=some (Obj.map #[] 0)) (ho:S.own G.wb=none)
  (h0:∀o∈[o0,o1,o2],o.has qMW=false) (pk gk:List Nat):
  ∃S',Rel (D:=mdI G) ⟨S',w,mNew p inp hk,pk,gk⟩ (mNew p inp hk) [o0,o1,o2] [] S' w∧(∀j,S'.loc (.loc j)=S.loc (.loc j))∧
   S'.loc (.m .cell)=S.loc (.loc 3)∧(∀t,(mdI G).isro t=true→S'.loc (.m t)=S.loc (.m t))∧(∀b,S'.own b=none→S.own b=none)∧∀b,S'.own b≠none→S.own b=none→b=G.wb:=by
 subst hv;have h4:=R.H (.loc 4) ((machBox G (mNew p inp hk) G.hv).map (encL S)) rfl;have hf4:=h4.fix rfl;obtain⟨ho4',pre4,post4,hb4,_⟩:=h4.blk hf4.1;have ho4:S.own (S.loc (.loc 4)).b=some (.loc 4):=ho4';have hlt4:(S.loc (.loc 4)).b<w.heap.size:=(Array.getElem?_eq_some_iff.1 hb4).1;have hltw:G.wb<w.heap.size:=(Array.getElem?_eq_some_iff.1 hw).1;have h3:=R.H (.loc 3) ([AL.p (.loc 4) 0 1 0].map (encL S)) rfl;have hf3:=h3.fix rfl;obtain⟨ho3',pre3,post3,hb3,_⟩:=h3.blk hf3.1;have ho3:S.own (S.loc (.loc 3)).b=some (.loc 3):=ho3';have hlt3:(S.loc (.loc 3)).b<w.heap.size:=(Array.getElem?_eq_some_iff.1 hb3).1
 have hne3:G.wb≠(S.loc (.loc 3)).b:=fun e=>by rw[e,ho3] at ho;cases ho
 have hne34:(S.loc (.loc 3)).b≠(S.loc (.loc 4)).b:=fun e=>by rw[e,ho4] at ho3;cases ho3
 have hne:G.wb≠(S.loc (.loc 4)).b:=fun e=>by rw[e,ho4] at ho;cases ho
 refine⟨stoNew S G.wb,⟨?_,?_,Kp.refl _ _,?_,?_,fun _ _=>rfl,fun _ _ h=>h,rfl,fun _ _ _=>rfl⟩,fun j=>stoNew_loc _ _ _ rfl,stoNew_cell S G.wb,fun t ht=>stoNew_loc _ _ _ (by cases t<;>first|rfl|cases ht),fun b hb=>?_,fun b hb hs=>?_⟩
 ·-- what lies there
  have old:∀{M:Meta (Tg TI)} (t:Tg TI) (cs:List Value),qMW t=false→t≠.loc 4→t≠.loc 3→HoldsAt M S w.heap t cs→HoldsAt M (stoNew S G.wb) w.heap t cs:=fun t cs h1 h2 h3 H=>
   H.other (stoNew_loc _ _ _ h1) (fun b _ hb=>by
    have e1:b≠(S.loc (.loc 4)).b:=fun e=>by rw[e,ho4] at hb;injection hb with hb;exact h2 hb.symm
    have e2:b≠G.wb:=fun e=>by rw[e,ho] at hb;cases hb
    have e3:b≠(S.loc (.loc 3)).b:=fun e=>by rw[e,ho3] at hb;injection hb with hb;exact h3 hb.symm
    simp[stoNew,e1,e2,e3,hb]) fun _ _ _=>rfl
  have objs:∀(j:Nat) (ob:LObj TI) (o:LO TI),j<3→[o0,o1,o2][j]?=some ob→ob.o=some o→HoldsAt (metaA (mdI G) [o0,o1,o2]) (stoNew S G.wb) w.heap (.loc j) (o.flat.map (encL (stoNew S G.wb))):=fun j ob o hj hob ho=>by
   rw[flat_enc (stoNew_loc S _) (h0 ob (List.mem_of_getElem? hob)) ho]
   have hc:encC S (contA (D:=mdS G) (mNew p inp hk) [] [o0,o1,o2,⟨G.Y.machP,1,true,some (.cells [.p (.loc 4) 0 1 0])⟩,⟨G.Y.mach,1,true,some (.cells (machBox G (mNew p inp hk) G.hv))⟩]) (.loc j)=some (o.flat.map (encL S)):=by
    match j,hj,hob with
    |0,_,hob=>cases hob;show Option.map _ (Option.map LO.flat o0.o)=_;rw[ho];rfl
    |1,_,hob=>cases hob;show Option.map _ (Option.map LO.flat o1.o)=_;rw[ho];rfl
    |2,_,hob=>cases hob;show Option.map _ (Option.map LO.flat o2.o)=_;rw[ho];rfl
   have:=old (.loc j) _ rfl (fun e=>by injection e with e;omega) (fun e=>by injection e with e;omega) (R.H (.loc j) _ hc)
   match j,hj,this with
   |0,_,h=>exact⟨h.len,h.cap,h.pos,h.fix,h.nil,h.blk⟩
   |1,_,h=>exact⟨h.len,h.cap,h.pos,h.fix,h.nil,h.blk⟩
   |2,_,h=>exact⟨h.len,h.cap,h.pos,h.fix,h.nil,h.blk⟩
  intro t cs ht
  cases t with
  |loc j=>
   by_cases hj:j<3
   ·obtain⟨ob,hob⟩:∃ob,[o0,o1,o2][j]?=some ob:=⟨_,List.getElem?_eq_getElem (by simpa using hj)⟩
    have hc:contA (D:=mdI G) (mNew p inp hk) [] [o0,o1,o2] (.loc j)=ob.o.map LO.flat:=by
     match j,hj,hob with
     |0,_,hob=>cases hob;rfl
     |1,_,hob=>cases hob;rfl
     |2,_,hob=>cases hob;rfl
    have ht':(ob.o.map LO.flat).map (List.map (encL (stoNew S G.wb)))=some cs:=by rw[←hc];exact ht
    cases h:ob.o with
    |none=>rw[h] at ht';cases ht'
    |some o=>
     rw[h] at ht'
     injection ht' with ht'
     rw[←ht'];exact objs j ob o hj hob h
   ·match j,hj with
    |0,h=>exact absurd (by omega) h
    |1,h=>exact absurd (by omega) h
    |2,h=>exact absurd (by omega) h
    |j+3,_=>cases ht
  |m t=>
   have nil:∀z:TI,(mdI G).isro z=false→z≠.mach→z≠.wmap→z≠.cell→0<(MI G.Y).sz z→(MI G.Y).fix z=false→cs=[]→HoldsAt (metaA (mdI G) [o0,o1,o2]) (stoNew S G.wb) w.heap (.m z) cs:=fun z h1 h2 h3 h3' h4 h5 h6=>by
    subst h6;exact nilHolds ((stoNew_loc S _ (.m z) (by cases z<;>first|rfl|exact (h2 rfl).elim|exact (h3 rfl).elim|exact (h3' rfl).elim)).trans (hn z h1)) h4 h5
   have ht':(cI G (mNew p inp hk) t).map (List.map (encL (stoNew S G.wb)))=some cs:=by
    have e:contA (D:=mdI G) (mNew p inp hk) [] [o0,o1,o2] (.m t)=cI G (mNew p inp hk) t:=by
     unfold contA;exact if_neg List.not_mem_nil
    rw[←e];exact ht
   cases t with
   |mach=>
    injection ht' with ht'
    have e:(machCells G (mNew p inp hk)).map (encL (stoNew S G.wb))=(machBox G (mNew p inp hk) G.hv).map (encL S):=by
     have hnil:∀(z:TI) (sz:Nat),(mdI G).isro z=false→z≠.mach→z≠.wmap→z≠.cell→encL (stoNew S G.wb) (.sl (.m z) 0 sz 0)=.slice none 0 0:=fun z sz h1 h2 h3 h3'=>by
      have e:=(stoNew_loc S G.wb (.m z) (by cases z<;>first|rfl|exact (h2 rfl).elim|exact (h3 rfl).elim|exact (h3' rfl).elim)).trans (hn z h1);rw[encL,e];rfl
     have hro:∀(z:TI) (sz n:Nat),(mdI G).isro z=true→encL (stoNew S G.wb) (.sl (.m z) 0 sz n)=encL S (.sl (.m z) 0 sz n):=fun z sz n h=>by
      rw[encL,encL,stoNew_loc S G.wb (.m z) (by cases z<;>first|rfl|cases h)]
     simp only[machCells,machBox,List.map_cons,List.map_nil,mNew,List.length_nil];rw[hro .bodies _ _ rfl,hro .rooms _ _ rfl,hro .feed _ _ rfl,hnil .recs _ rfl nofun nofun nofun,hnil .states _ rfl nofun nofun nofun,hnil .tasks _ rfl nofun nofun nofun,hnil .row _ rfl nofun nofun nofun,hnil .chans _ rfl nofun nofun nofun];rfl
    rw[←ht',e]
    have hloc:(stoNew S G.wb).loc (.m .mach)=S.loc (.loc 4):=by simp[stoNew]
    exact HoldsAt.moved h4 hloc (if_pos rfl) rfl rfl rfl
   |recs=>exact nil _ rfl nofun nofun nofun (by simp[MI]) rfl (by injection ht' with h;exact h.symm)
   |states=>exact nil _ rfl nofun nofun nofun (by simp[MI]) rfl (by injection ht' with h;exact h.symm)
   |tasks=>exact nil _ rfl nofun nofun nofun (by simp[MI]) rfl (by injection ht' with h;exact h.symm)
   |row=>exact nil _ rfl nofun nofun nofun (by simp[MI]) rfl (by injection ht' with h;exact h.symm)
   |chans=>exact nil _ rfl nofun nofun nofun (by simp[MI]) rfl (by injection ht' with h;exact h.symm)
   |waitL k=>exact nil _ rfl nofun nofun nofun (by simp[MI]) rfl (by injection ht' with h;exact h.symm)
   |cell=>
    injection ht' with ht'
    rw[←ht']
    have e:[AL.p (.m .mach) 0 1 0].map (encL (stoNew S G.wb))=[AL.p (.loc 4) 0 1 0].map (encL S):=by simp[encL,stoNew]
    rw[e];exact HoldsAt.moved h3 (stoNew_cell S G.wb) ((if_neg hne34).trans ((if_neg (Ne.symm hne3)).trans (if_pos rfl))) rfl rfl rfl
   |task i=>cases ht'
   |tblocks i=>cases ht'
   |tchans i=>cases ht'
   |chan c=>cases ht'
   |nums c=>cases ht'
   |senders c=>cases ht'
   |takers c=>cases ht'
   |fed=>cases ht'
   |bodies=>cases ht'
   |steps b=>cases ht'
   |rooms=>cases ht'
   |feed=>cases ht'
   |wmap=>cases ht'
   |arg=>cases ht'
 ·intro b hb
  have e1:b≠(S.loc (.loc 4)).b:=by omega
  have e2:b≠G.wb:=by omega
  have e3:b≠(S.loc (.loc 3)).b:=by omega
  simp only[stoNew,e1,e2,e3,if_false];exact R.fresh b hb
 ·intro t cs ht
  have hr:=R.ro t cs ht;have hro:(mdI G).isro t=true:=(mdI_ok G).rois _ _ _ ht;have hl:(stoNew S G.wb).loc (.m t)=S.loc (.m t):=stoNew_loc _ _ _ (by cases t<;>first|rfl|cases hro)
  have hcs:∀a∈cs,encL (stoNew S G.wb) a=encL S a:=fun a ha=>by
   have:=(mdI_ok G).rocell _ _ _ ht a ha
   cases a with
   |v x=>rfl
   |p z k s f=>exact this.elim
   |sl z k s n=>cases z with
    |loc j=>exact this.elim
    |m z=>exact encL_eq (stoNew_loc S _) (show qMW (.m z)=false by have h:(mdI G).isro z=true:=this;cases z<;>first|rfl|cases h)
  refine RoAt.moved hr hl hcs fun hne h1=>?_
  obtain⟨a,l,rfl⟩:=List.exists_cons_of_ne_nil hne;have hc:=hr.cell 0 a rfl
  have e1:(S.loc (.m t)).b≠(S.loc (.loc 4)).b:=fun e=>by have h2:S.own (S.loc (.m t)).b=none:=h1;rw[e,ho4] at h2;cases h2
  have e2:(S.loc (.m t)).b≠G.wb:=fun e=>by
   have h2:w.cell? ⟨(S.loc (.m t)).b,(S.loc (.m t)).off+0,none⟩=some (encL S a):=hc;unfold World.cell? at h2;simp only[e,hw] at h2
   cases h2
  have e3:(S.loc (.m t)).b≠(S.loc (.loc 3)).b:=fun e=>by have h2:S.own (S.loc (.m t)).b=none:=h1;rw[e,ho3] at h2;cases h2
  exact (if_neg e1).trans ((if_neg e2).trans ((if_neg e3).trans h1))
 ·refine⟨#[],0,hw,⟨?_,?_⟩,hhk.symm,fun e he=>(by cases he),fun k _=>⟨rfl,?_,?_⟩,List.Pairwise.nil⟩
  ·simp[stoNew]
  ·simp[stoNew,hne]
  ·rw[stoNew_loc _ _ _ rfl,hn _ rfl];rfl
  ·rw[stoNew_loc _ _ _ rfl,hn _ rfl];exact⟨rfl,rfl⟩
 ·simp only[stoNew] at hb
  split at hb
  ·cases hb
  ·split at hb
   ·cases hb
   ·split at hb
    ·cases hb
    ·exact hb
 ·simp only[stoNew] at hb
  split at hb
  ·rename_i e;rw[e,ho4] at hs;cases hs
  ·split at hb
   ·rename_i e;exact e
   ·split at hb
    ·rename_i e;rw[e,ho3] at hs;cases hs
    ·exact absurd hs hb
end
end Go.Beat
end
section
namespace Go.Beat
open Go
structure Ctr (D:Md) where
  fn:{X:Type}→List (TV D.τ)→D.σ→(TV D.τ→List (LObj D.τ)→D.σ→List Nat→List Nat→Option X)→Option X
section
variable {D:Md} {P:Program}
def CtrOk (P:Program)(f:FuncId)(c:Ctr D):Prop:=∀{X:Type} (vs:List (TV D.τ)) (st:D.σ) (κ:TV D.τ→List (LObj D.τ)→D.σ→List Nat→List Nat→Option X) (x:X),c.fn vs st κ=some x→
 ∃r L' st' pk gk,κ r L' st' pk gk=some x∧callOk P f=true∧∀S w,Rel ⟨S,w,st,pk,gk⟩ st [] [] S w→Calls P f (vs.map (encT S)).toArray w fun e w'=>
  ∃S1,e=.returned (encT S1 r)∧Rel ⟨S,w,st,pk,gk⟩ st' L' [] S1 w'
structure OpH (D:Md) where
 op:{X:Type}→TabA→AS D→Oper→(TV D.τ→AS D→Option X)→Option X
 mst:Tg D.τ→Nat→Bool:=fun _ _=>false
 isp:FuncId→Bool:=fun _=>false
 pc:{X:Type}→FuncId→List (TV D.τ)→D.σ→(TV D.τ→List (LObj D.τ)→D.σ→List Nat→List Nat→Option X)→(Value→D.σ→List Nat→List Nat→Option X)→Option X:=fun _ _ _ _ _=>none
def PcOk (P:Program)(H:OpH D):Prop:=∀{X:Type} (f:FuncId) (vs:List (TV D.τ)) (st:D.σ) (κ:TV D.τ→List (LObj D.τ)→D.σ→List Nat→List Nat→Option X) (κp:Value→D.σ→List Nat→List Nat→Option X) (x:X),H.pc f vs st κ κp=some x→
 callOk P f=true∧((∃r L' st' pk gk,κ r L' st' pk gk=some x∧∀S w,Rel ⟨S,w,st,pk,gk⟩ st [] [] S w→Calls P f (vs.map (encT S)).toArray w fun e w'=>∃S1,e=.returned (encT S1 r)∧Rel ⟨S,w,st,pk,gk⟩ st' L' [] S1 w')∨
  ∃v st' pk gk,κp v st' pk gk=some x∧∀S w,Rel ⟨S,w,st,pk,gk⟩ st [] [] S w→Calls P f (vs.map (encT S)).toArray w fun e w'=>e=.panicked [{v:=v,recovered:=false}]∧∃S1,Rel ⟨S,w,st,pk,gk⟩ st' [] [] S1 w')
def OpOk (P:Program)(H:OpH D):Prop:=PcOk P H∧∀(X:Type) (T:TabA) (B:Base D) (n:Nat) (ds:List Deferred) (s:AS D) (S:Sto (Tg D.τ)) (w:World) (a:Act) (o:Oper) (κ:TV D.τ→AS D→Option X) (x:X),T.Ok P→T.pk=B.pk→T.gk=B.gk→H.op T s o κ=some x→FrmA n ds a S s.fr→Rel B s.st s.L s.dk S w→RunsAs P B n ds a w o S κ x
def noOp (D:Md):OpH D:={op:=fun _ _ _ _=>none}
theorem noOp_ok:OpOk P (noOp D):=⟨fun _ _ _ _ _ _ h=>(by cases h),fun _ _ _ _ _ _ _ _ _ _ _ _ _ _ _ h=>by cases h⟩
def callsOf:List (FuncId×Ctr D)→(X:Type)→CallF D X
 |[],_=>fun _ _ _ _=>none
 |(g,c)::r,X=>fun f vs st κ=>bif Nat.beq g f then c.fn vs st κ else callsOf r X f vs st κ
def envOf (H:OpH D)(l:List (FuncId×Ctr D))(X:Type):CallE D X:=⟨callsOf l X,H.op,H.pc,H.isp,H.mst⟩
def EnvOk (P:Program)(l:List (FuncId×Ctr D)):Prop:=∀e∈l,CtrOk P e.1 e.2
theorem EnvOk.nil:EnvOk (D:=D) P []:=fun _ h=>by cases h
theorem EnvOk.cons {f:FuncId}{c:Ctr D}{l:List (FuncId×Ctr D)}(h:CtrOk P f c)(hl:EnvOk P l):EnvOk P ((f,c)::l):=fun e he=>by
 rcases List.mem_cons.1 he with rfl|he
 ·exact h
 ·exact hl e he
theorem callsOf_ok {l:List (FuncId×Ctr D)}(h:EnvOk P l){X:Type}{f:FuncId}{vs:List (TV D.τ)}{st:D.σ}{κ:TV D.τ→List (LObj D.τ)→D.σ→List Nat→List Nat→Option X}{x:X}(hx:callsOf l X f vs st κ=some x):
  ∃r L' st' pk gk,κ r L' st' pk gk=some x∧callOk P f=true∧∀S w,Rel ⟨S,w,st,pk,gk⟩ st [] [] S w→Calls P f (vs.map (encT S)).toArray w fun e w'=>
   ∃S1,e=.returned (encT S1 r)∧Rel ⟨S,w,st,pk,gk⟩ st' L' [] S1 w':=by
 induction l with
 |nil=>cases hx
 |cons e r ih=>
  obtain⟨g,c⟩:=e;simp only[callsOf] at hx
  cases hb:Nat.beq g f with
  |true=>
   rw[hb] at hx;simp only[cond_true] at hx;simp only[Nat.beq_eq] at hb;subst hb;exact h (g,c) (List.mem_cons_self ..) vs st κ x hx
  |false=>
   rw[hb] at hx;exact ih (fun e he=>h e (List.mem_cons_of_mem _ he)) hx
theorem envOf_ok {H:OpH D}(hH:OpOk P H){l:List (FuncId×Ctr D)}(h:EnvOk P l)(X:Type):CallOk P (envOf H l X):=⟨fun _ _ _ _ _ hx=>callsOf_ok h hx,fun _ _ _ _ _ _ _ _ _ _ _ h0 h1 h5 h2 h3 h4=>hH.2 X _ _ _ _ _ _ _ _ _ _ _ h0 h1 h5 h2 h3 h4,fun _ _ _ _ _ _ h=>hH.1 _ _ _ _ _ _ h⟩
def TabA.at (T:TabA)(pk gk:List Nat):TabA:={T with pk:=pk,gk:=gk}
theorem TabA.Ok.at {T:TabA}(h:T.Ok P)(pk gk:List Nat):(T.at pk gk).Ok P:=⟨h.base,h.sls,h.arr,h.zer,h.bld,h.ifc,h.cmp,h.mp,h.eqs⟩
def TabA.sw (T:TabA)(sk:List Nat):TabA:={T with sk:=sk}
theorem TabA.Ok.sw {T:TabA}(h:T.Ok P)(sk:List Nat):(T.sw sk).Ok P:=⟨h.base,h.sls,h.arr,h.zer,h.bld,h.ifc,h.cmp,h.mp,h.eqs⟩
def runF (H:OpH D)(T:TabA)(l:List (FuncId×Ctr D))(ld:List (LoopD D))(wk:Nat→List Nat)(N:Nat)(fn:Func)(vs:List (TV D.τ))(st:D.σ):Option (Ret D):=
 run T (envOf H l (Ret D)) (lpOf ld _) wk fn.ntmps N [.code (bd fn)] ⟨argsFr 0 vs,st,[],[]⟩ (finA T fn.results.toList)
def roundF (H:OpH D)(T:TabA)(l:List (FuncId×Ctr D))(li:List (LoopD D))(wk:Nat→List Nat)(N:Nat)(fn:Func)(LS:List (Nat×Code))(d:LoopD D)(vs:List (TV D.τ))(st:D.σ)(L:List (LObj D.τ))(dk:List D.τ):Option (Stop D):=
 roundA T (envOf H l (Stop D)) (lpOf li _) wk fn.ntmps N (loopC LS d.id) d.ks d.kx d.m d.mx d.ok ⟨zipK d.ks vs,st,L,dk⟩
def iterF (H:OpH D)(T:TabA)(l:List (FuncId×Ctr D))(li:List (LoopD D))(wk:Nat→List Nat)(N:Nat)(fn:Func)(LS:List (Nat×Code))(d:LoopD D)(k:Nat)(vs:List (TV D.τ))(st:D.σ)(L:List (LObj D.τ))(dk:List D.τ):Option (Stop D):=
 iterA T (envOf H l (Stop D)) (lpOf li _) wk fn.ntmps N (loopC LS d.id) d.ks d.kx d.m d.mx d.ok k ⟨zipK d.ks vs,st,L,dk⟩
theorem iterF_succ {H:OpH D}{T:TabA}{l:List (FuncId×Ctr D)}{li:List (LoopD D)}{wk:Nat→List Nat}{N:Nat}{fn:Func}{LS:List (Nat×Code)}{d:LoopD D}{k:Nat}{vs vs':List (TV D.τ)}{st st':D.σ}{L L':List (LObj D.τ)}{dk dk':List D.τ}(h:roundF H T l li wk N fn LS d vs st L dk=some (.norm ⟨zipK d.ks vs',st',L',dk'⟩)):iterF H T l li wk N fn LS d (k+1) vs st L dk=iterF H T l li wk N fn LS d k vs' st' L' dk':=by
 unfold roundF at h;simp only[iterF,iterA,h]
theorem iterF_exit {H:OpH D}{T:TabA}{l:List (FuncId×Ctr D)}{li:List (LoopD D)}{wk:Nat→List Nat}{N:Nat}{fn:Func}{LS:List (Nat×Code)}{d:LoopD D}{k:Nat}{vs:List (TV D.τ)}{st:D.σ}{L:List (LObj D.τ)}{dk:List D.τ}{o:Stop D}(h:roundF H T l li wk N fn LS d vs st L dk=some o)(hn:∀s,o≠.norm s):iterF H T l li wk N fn LS d (k+1) vs st L dk=some o:=by
 unfold roundF at h;simp only[iterF,iterA,h]
theorem mkLp {T:TabA}(hT:T.Ok P)(O:MdOk D)(hm:P.follows .mixedOrders=true){H:OpH D}(hH:OpOk P H){l:List (FuncId×Ctr D)}(hl:EnvOk P l){fn:Func}{LS:List (Nat×Code)}{ld:List (LoopD D)}(hld:LpOk P T D fn.ntmps LS ld){d:LoopD D}{li:List (LoopD D)}{wk:Nat→List Nat}{N:Nat}(hi:LpOk P T D fn.ntmps (loopsOf (loopC LS d.id)) li)(hd:nodupB ((loopsOf (loopC LS d.id)).map (·.1))=true)(h:∀{X:Type} (vs:List (TV D.τ)) (st:D.σ) (L:List (LObj D.τ)) (dk:List D.τ) (κ:Stop D→Option X) (x:X),d.g vs st L dk κ=some x→∃k o,iterF H T l li wk N fn LS d k vs st L dk=some o∧κ o=some x):LpOk P T D fn.ntmps LS (d::ld):=
 hld.cons hT O hm (envOf_ok hH hl _) hi hd h
theorem mkCtr {T:TabA}(hT:T.Ok P)(O:MdOk D)(hm:P.follows .mixedOrders=true){H:OpH D}(hH:OpOk P H){l:List (FuncId×Ctr D)}(hl:EnvOk P l){f:FuncId}{fn:Func}(hf:P.funcs[f]?=some fn)(hb:fn.body.isSome=true)(hk:callOk P f=true){c:Ctr D}(pk gk:List Nat){ld:List (LoopD D)}(hd:nodupB ((loopsOf (bd fn)).map (·.1))=true)(hld:LpOk P (T.at pk gk) D fn.ntmps (loopsOf (bd fn)) ld){wk:Nat→List Nat}{N:Nat}{I:D.σ→Prop}(hI:∀st S w,D.ex st S w→I st)(h:∀{X:Type} (vs:List (TV D.τ)) (st:D.σ) (κ:TV D.τ→List (LObj D.τ)→D.σ→List Nat→List Nat→Option X) (x:X),c.fn vs st κ=some x→vs.length≤fn.ntmps∧∃r L' st',κ r L' st' pk gk=some x∧(I st→runF H (T.at pk gk) l ld wk N fn vs st=some (.ok r st' L'))):CtrOk P f c:=by
 intro X vs st κ x hx;obtain⟨hn,r,L',st',h1,h2⟩:=h vs st κ x hx;obtain⟨body,hbody⟩:=Option.isSome_iff_exists.1 hb
 have e:bd fn=body:=by simp[bd,hbody]
 refine⟨r,L',st',pk,gk,h1,hk,fun S w R=>?_⟩;have h3:=h2 (hI _ _ _ R.ex);unfold runF at h3;rw[e] at h3 hld hd;exact fn_fulfils (hT.at pk gk) O hm (envOf_ok hH hl _) hf hbody (fun B hpk hgk=>lpOf_ok hd hpk hgk hld) hn N h3 S w R
def natOf {X:Type}(i:Int)(κ:Nat→Option X):Option X:=if 0≤i then κ i.toNat else none
theorem natOf_some {X:Type}{i:Int}{κ:Nat→Option X}{x:X}(h:natOf i κ=some x):∃n:Nat,i=n∧κ n=some x:=by
 unfold natOf at h
 split at h
 ·rename_i hi
  exact⟨i.toNat,by omega,h⟩
 ·cases h
end
end Go.Beat
end
section
namespace Go.Beat
open Go
structure PCtr (D:Md) where
  fn:{X:Type}→List (TV D.τ)→D.σ→(TV D.τ→List (LObj D.τ)→D.σ→List Nat→List Nat→Option X)→(Value→D.σ→List Nat→List Nat→Option X)→Option X
section
variable {D:Md} {P:Program}
def PCtrOk (P:Program)(f:FuncId)(c:PCtr D):Prop:=∀{X:Type} (vs:List (TV D.τ)) (st:D.σ) (κ:TV D.τ→List (LObj D.τ)→D.σ→List Nat→List Nat→Option X) (κp:Value→D.σ→List Nat→List Nat→Option X) (x:X),c.fn vs st κ κp=some x→
 callOk P f=true∧((∃r L' st' pk gk,κ r L' st' pk gk=some x∧∀S w,Rel ⟨S,w,st,pk,gk⟩ st [] [] S w→Calls P f (vs.map (encT S)).toArray w fun e w'=>∃S1,e=.returned (encT S1 r)∧Rel ⟨S,w,st,pk,gk⟩ st' L' [] S1 w')∨
  ∃v st' pk gk,κp v st' pk gk=some x∧∀S w,Rel ⟨S,w,st,pk,gk⟩ st [] [] S w→Calls P f (vs.map (encT S)).toArray w fun e w'=>e=.panicked [{v:=v,recovered:=false}]∧∃S1,Rel ⟨S,w,st,pk,gk⟩ st' [] [] S1 w')
def pcallsOf:List (FuncId×PCtr D)→{X:Type}→FuncId→List (TV D.τ)→D.σ→(TV D.τ→List (LObj D.τ)→D.σ→List Nat→List Nat→Option X)→(Value→D.σ→List Nat→List Nat→Option X)→Option X
 |[],_=>fun _ _ _ _ _=>none
 |(g,c)::r,_=>fun f vs st κ κp=>bif Nat.beq g f then c.fn vs st κ κp else pcallsOf r f vs st κ κp
def withP (H:OpH D)(l:List (FuncId×PCtr D)):OpH D:={op:=H.op,mst:=H.mst,isp:=fun f=>l.any fun e=>Nat.beq e.1 f,pc:=pcallsOf l}
def PEnvOk (P:Program)(l:List (FuncId×PCtr D)):Prop:=∀e∈l,PCtrOk P e.1 e.2
theorem PEnvOk.nil:PEnvOk (D:=D) P []:=fun _ h=>by cases h
theorem PEnvOk.cons {f:FuncId}{c:PCtr D}{l:List (FuncId×PCtr D)}(h:PCtrOk P f c)(hl:PEnvOk P l):PEnvOk P ((f,c)::l):=fun e he=>by
 rcases List.mem_cons.1 he with rfl|he
 ·exact h
 ·exact hl e he
theorem pcallsOf_ok:∀{l:List (FuncId×PCtr D)},PEnvOk P l→∀f,PCtrOk P f (⟨pcallsOf l f⟩:PCtr D)
 |[],_,f=>fun _ _ _ _ _ h=>by cases h
 |(g,c)::r,hl,f=>by
  intro vs st κ κp x h0;have h:(bif Nat.beq g f then c.fn vs st κ κp else pcallsOf r f vs st κ κp)=some x:=h0;clear h0
  cases hb:Nat.beq g f with
  |true=>
   rw[hb] at h;simp only[cond_true] at h;simp only[Nat.beq_eq] at hb;subst hb;exact hl (g,c) (List.mem_cons_self ..) vs st κ κp x h
  |false=>
   rw[hb] at h;exact pcallsOf_ok (fun e he=>hl e (List.mem_cons_of_mem _ he)) f vs st κ κp x h
theorem withP_ok {H:OpH D}(hH:OpOk P H){l:List (FuncId×PCtr D)}(hl:PEnvOk P l):OpOk P (withP H l):=⟨fun f vs st κ κp x h=>pcallsOf_ok hl f vs st κ κp x h,hH.2⟩
theorem mkPCtr {T:TabA}(hT:T.Ok P)(O:MdOk D)(hm:P.follows .mixedOrders=true){H:OpH D}(hH:OpOk P H){l:List (FuncId×Ctr D)}(hl:EnvOk P l){f:FuncId}{fn:Func}(hf:P.funcs[f]?=some fn)(hb:fn.body.isSome=true)(hk:callOk P f=true){c:PCtr D}(pk gk:List Nat){ld:List (LoopD D)}(hd:nodupB ((loopsOf (bd fn)).map (·.1))=true)(hld:LpOk P (T.at pk gk) D fn.ntmps (loopsOf (bd fn)) ld){wk:Nat→List Nat}{N:Nat}(h:∀{X:Type} (vs:List (TV D.τ)) (st:D.σ) (κ:TV D.τ→List (LObj D.τ)→D.σ→List Nat→List Nat→Option X) (κp:Value→D.σ→List Nat→List Nat→Option X) (x:X),c.fn vs st κ κp=some x→vs.length≤fn.ntmps∧∃r,(match r with|.ok v st' L'=>κ v L' st' pk gk=some x|.pan v st'=>κp v st' pk gk=some x)∧runF H (T.at pk gk) l ld wk N fn vs st=some r):PCtrOk P f c:=by
 intro X vs st κ κp x hx;obtain⟨hn,r,h1,h2⟩:=h vs st κ κp x hx;obtain⟨body,hbody⟩:=Option.isSome_iff_exists.1 hb
 have e:bd fn=body:=by simp[bd,hbody]
 unfold runF at h2;rw[e] at h2 hld hd;have ff:=fn_fulfils (hT.at pk gk) O hm (envOf_ok hH hl _) hf hbody (fun B hpk hgk=>lpOf_ok hd hpk hgk hld) hn N h2;refine⟨hk,?_⟩
 cases r with
 |ok v st' L'=>exact .inl ⟨v,L',st',pk,gk,h1,ff⟩
 |pan v st'=>exact .inr ⟨v,st',pk,gk,h1,ff⟩
end
end Go.Beat
end
section
namespace Go.Beat
open Go
def seqL:Code→Code
 |.seq x _=>x
 |c=>c
def seqR:Code→Code
 |.seq _ y=>y
 |c=>c
structure SegD where
 c:Code
 ki:List Nat
 ko:List Nat
 kx:List Nat
 m:Nat
 mx:Nat
def segF {D:Md}(H:OpH D)(T:TabA)(l:List (FuncId×Ctr D))(li:List (LoopD D))(wk:Nat→List Nat)(N:Nat)(n:Nat)(d:SegD)(vs:List (TV D.τ))(st:D.σ)(L:List (LObj D.τ))(dk:List D.τ):Option (Stop D):=
 roundA T (envOf H l (Stop D)) (lpOf li _) wk n N d.c d.ko d.kx d.m d.mx none ⟨zipK d.ki vs,st,L,dk⟩
section
variable {D:Md} {B:Base D} {P:Program} {T:TabA} {n:Nat} {ds:List Deferred} {S:Sto (Tg D.τ)} {w:World} {a:Act}
theorem seg_wp (hT:T.Ok P)(O:MdOk D)(hm:P.follows .mixedOrders=true){H:OpH D}(hH:OpOk P H){l:List (FuncId×Ctr D)}(hl:EnvOk P l){li:List (LoopD D)}{d:SegD}(hli:LpOk P T D n (loopsOf d.c) li)(hd:nodupB ((loopsOf d.c).map (·.1))=true)(hpk:T.pk=B.pk)(hgk:T.gk=B.gk){wk:Nat→List Nat}{N:Nat}{vs:List (TV D.τ)}{st:D.σ}{L:List (LObj D.τ)}{dk:List D.τ}{o:Stop D}(h:segF H T l li wk N n d vs st L dk=some o){Q:Post}(hQ:∀c (d:Option Tmp) v a w,Q (.panic c) (a.put d v) w→Q (.panic c) a w)(good:Good B n ds Q o)(hF:FrmA n ds a S (zipK d.ki vs))(R:Rel B st L dk S w):d.c.wp P Q a w:=by
 have e2:∀Q':Post,postK P (fun _=>True) [] Q'=Q':=fun Q'=>by funext e a w;cases e<;>rfl
 have:=run_ok (D0:=fun _=>True) hT O hm (envOf_ok hH hl (Stop D)) hpk hgk (Lp:=lpOf li _) (wk:=wk) (LS:=loopsOf d.c) (lpOf_ok hd hpk hgk hli) (Q:=Q) hQ (x:=o) (κ:=cutO d.ko d.kx d.m d.mx none) (fun o' ho=>by
  cases o' with
  |norm s1=>
   intro S1 a1 w1 hF1 R1;simp only[cutO] at ho
   split at ho
   ·rename_i s'' hn
    simp only[Option.some.injEq] at ho;subst ho;obtain⟨S2,hF2,R2⟩:=nrm_ok O hn hF1 R1;exact good S2 a1 w1 hF2 R2
   ·cases ho
  |ret s1=>exact cut_good ho (fun s h=>by cases h) good
  |exit id s1=>exact cut_good ho (fun s h=>by cases h) good
  |pan v s1=>exact cut_good ho (fun s h=>by cases h) good) N [.code d.c] ⟨zipK d.ki vs,st,L,dk⟩ S a w h (fun k hk c' hc' e he=>by
   rw[List.mem_singleton] at hk;subst hk
   injection hc' with hc'
   subst hc'
   exact he) hF R
 simp only[List.map_cons,List.map_nil,AK.ki] at this;rw[WPK_code] at this
 rwa [e2] at this
theorem Rel.rebase {st:D.σ}{L:List (LObj D.τ)}{dk:List D.τ}(R:Rel B st L dk S w)(pk gk:List Nat):Rel ⟨S,w,st,pk,gk⟩ st L dk S w:=
 ⟨R.H,R.fresh,Kp.refl _ _,R.ro,R.ex,fun _ _=>rfl,fun _ _ h=>h,rfl,fun _ _ _=>rfl⟩
end
end Go.Beat
end
