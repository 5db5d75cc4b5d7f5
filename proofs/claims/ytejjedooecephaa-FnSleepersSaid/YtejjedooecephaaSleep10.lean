/-
  Texts joined by a program (shake.py), without what the claim does not use; printed walks among them (print.sh), and own ones.
-/
import Derived.Test.YtejjedooecephaaSleep9
import Derived.Deep.LoopGhost
import Derived.Laws.Entries
section
namespace Go.Beat
open Go
def contAt (K:List KI):Code→List Nat→List KI
 |c,[]=>.code c::K
 |.seq x y,0::p=>contAt (.code y::K) x p
 |.seq _ y,1::p=>contAt K y p
 |.seq _ y,(m+2)::p=>contAt K y ((m+1)::p)
 |.cond _ x _,0::p=>contAt K x p
 |.cond _ _ y,_::p=>contAt K y p
 |.block id c,_::p=>contAt (.blk id::K) c p
 |.loop c,_::p=>contAt [] c p
 |.region _ ops _,k::_=>.ops ops (ops.toList.drop k)::K
 |c,_=>.code c::K
def bd (fn:Func):Code:=fn.body.getD .skip
def at_ (fn:Func)(p:List Nat):List KI:=contAt [] (bd fn) p
def SH (w:World):World→Prop:=fun w'=>w'.heap=w.heap
structure St {τ:Type} (M:Meta τ) (S0:Sto τ) (w0:World) (n:Nat) (ds:List Deferred) (S:Sto τ) (c:Cont τ) (fr:Fr) (a:Act) (w:World):Prop where
  F:Frm n ds a fr
  H:Holds M S w.heap c
  fresh:Fresh S w
  kp:Kp S0 w0 S w
theorem map_fst_snd {α:Type}:∀{l:List (α×α)},l.map (·.1)=l.map (·.2)→∀p∈l,p.1=p.2
 |[],_,p,hp=>by cases hp
 |x::l,h,p,hp=>by
  simp only[List.map_cons,List.cons.injEq] at h
  rcases List.mem_cons.1 hp with rfl|hp
  ·exact h.1
  ·exact map_fst_snd h.2 p hp
section
variable {P:Program} {D:World→Prop} {Q:Post} {T:Tab} {n:Nat} {ds:List Deferred} {τ:Type} {M:Meta τ} {S0 S:Sto τ} {w0:World} {c:Cont τ} {fr fr':Fr} {a:Act} {w:World} {K K':List KI}
theorem seg0 {C:World→Prop}(hT:T.ok P=true)(hm:P.follows .mixedOrders=true)(hCd:∀w w',SameH w w'→C w→C w'){two:Bool}(htwo:two=true→C=D)(fuel:Nat)(hs:Hints P C)(hev:((live (evalK T hs n two fuel fr K []).fr (fr'.map (·.1)),(evalK T hs n two fuel fr K []).K,(evalK T hs n two fuel fr K []).ps.map (·.1)):Option Fr×List KI×List Chk)=(some fr',K',(evalK T hs n two fuel fr K []).ps.map (·.2)))(hF:Frm n ds a fr)(hC:C w)(next:∀a' w',Frm n ds a' fr'→SameH w w'→C w'→WPK P D K' Q a' w'):WPK P D K Q a w:=by
 simp only[Prod.mk.injEq] at hev;obtain⟨h1,h2,h3⟩:=hev
 refine evalK_sound hT hm hCd (hs:=hs) htwo fuel fr K [] a w (map_fst_snd h3) hF hC fun a' w' hF' hs' hC'=>?_
 rw[h2];exact next a' w' (hF'.live h1) hs' hC'
theorem St.same {a':Act}{w':World}(X:St M S0 w0 n ds S c fr a w)(hF:Frm n ds a' fr')(hs:SameH w w'):St M S0 w0 n ds S c fr' a' w':=
 ⟨hF,by rw[hs.heap];exact X.H,by unfold Fresh;rw[hs.heap];exact X.fresh,X.kp.same hs⟩
theorem seg (hT:T.ok P=true)(hm:P.follows .mixedOrders=true)(X:St M S0 w0 n ds S c fr a w)(fuel:Nat)(fr':Fr)(K':List KI)(hs:Hints P (SH w))(hev:((live (evalK T hs n false fuel fr K []).fr (fr'.map (·.1)),(evalK T hs n false fuel fr K []).K,(evalK T hs n false fuel fr K []).ps.map (·.1)):Option Fr×List KI×List Chk)=(some fr',K',(evalK T hs n false fuel fr K []).ps.map (·.2)))(next:∀a' w',St M S0 w0 n ds S c fr' a' w'→SameH w w'→WPK P D K' Q a' w'):WPK P D K Q a w:=
 seg0 hT hm (fun _ _ h1 h2=>h1.heap.trans h2) (fun h=>by cases h) fuel hs hev X.F rfl fun a' w' hF hs' _=>next a' w' (X.same hF hs') hs'
variable {t:τ} {cs:List Value}
def rb (P:Program){b:Nat}{cells:Array Value}{e:TypeId}{f:Nat×Nat}(hb:w.heap[b]?=some (.cells cells e f))(j:Nat)(v:Value)(hv:cells[j]?=some v):Hint P (SH w):=
 .ld ⟨b,j,none⟩ v fun w' hw=>by
  unfold World.cell?;rw[show w'.heap=w.heap from hw,hb]
  simpa using hv
def elemSize (P:Program)(t e:TypeId)(size:Nat):Bool:=
 match P.underlying t with
 |some (.slice e')=>e'==e&&(match P.info? e with|some i=>i.size==size|none=>false)
 |_=>false
theorem run_index {t e:TypeId}{size:Nat}(h:elemSize P t e size=true)(k:IntKind)(b o len cap:Nat)(i:Int)(h0:0≤i)(hi:i<len)(w:World):
  (Instr.indexAt t (.slice (some ⟨b,o,none⟩) len cap) (.int k i)).run P w=.ok (.pointer (some ⟨b,o+i.toNat*size,none⟩)) w:=by
 unfold elemSize at h
 split at h
 ·rename_i e' hu
  simp only[Bool.and_eq_true,beq_iff_eq] at h;obtain⟨rfl,h2⟩:=h
  split at h2
  ·rename_i inf hinf
   have hsz:inf.size=size:=by simpa using h2
   simp[Instr.indexAt,asIntOf,run_underlying hu,sizeOf,typeInfo,hinf,h0,hi,program,Sem.run,Addr.add_lit,hsz]
  ·cases h2
 ·cases h
structure Head where
  op:Op
  dst:Option Tmp
  ty:TypeId
  K:List KI
  dt:Bool
def headIs (n:Nat)(fr:Fr):List KI→Option Head
 |.ops ops (o::l)::K=>match wants n ops fr o with
  |some true=>some ⟨o.op,o.dst,o.type,.ops ops l::K,false⟩
  |_=>none
 |.sch ops p k ((i,0)::σ)::K=>match ops[i]? with
  |some o=>match wants n ops fr o with
   |some true=>some ⟨o.op,o.dst,o.type,.sch ops p (k+1) σ::K,decide (k<p)⟩
   |_=>none
  |none=>none
 |_=>none
theorem head_wp {hd:Head}(hK:headIs n fr K=some hd)(hF:Frm n ds a fr)(h:∀(o:Oper) (Q':Post),o.op=hd.op→o.dst=hd.dst→o.type=hd.ty→o.wp P a w (fun a' w'=>(hd.dt=true→D w')∧WPK P D hd.K Q a' w') Q'):WPK P D K Q a w:=by
 unfold headIs at hK
 split at hK
 ·rename_i ops o l K1
  split at hK
  ·rename_i hw
   injection hK with hK
   subst hK;rw[WPK_ops];unfold wpList;rw[if_pos (wants_sound hF hw)]
   refine .inl (Oper.wp_mono (fun a' w' hh=>?_) (h o _ rfl rfl rfl))
   have:=hh.2
   rwa [WPK_ops] at this
  ·cases hK
 ·rename_i ops p k i σ K1
  split at hK
  ·rename_i o ho
   split at hK
   ·rename_i hw
    injection hK with hK
    subst hK;rw[WPK_sch];unfold wpSch;simp only[ho];rw[if_pos (wants_sound hF hw)]
    refine .inl (Oper.wp_mono (fun a' w' hh=>?_) (h o _ rfl rfl rfl))
    refine⟨fun hkp=>hh.1 (by simpa using hkp),?_⟩;have:=hh.2
    rwa [WPK_sch] at this
   ·cases hK
  ·cases hK
 ·cases hK
def putD (n:Nat)(dst:Option Tmp)(v:Value)(fr:Fr):Option Fr:=
 match dst with
 |none=>some fr
 |some d=>if d<n then some ((d,v)::fr) else none
theorem putD_sound {dst:Option Tmp}{v:Value}(hF:Frm n ds a fr)(h:putD n dst v fr=some fr'):Frm n ds (a.put dst v) fr':=by
 cases dst with
 |none=>
  injection h with h
  subst h;exact hF
 |some d=>
  unfold putD at h
  dsimp only at h
  split at h
  ·rename_i hlt
   injection h with h
   subst h;exact hF.put hlt v
  ·cases h
theorem ev_val {op:Op}{dst:Option Tmp}{ty:TypeId}{dt:Bool}(hK:headIs n fr K=some ⟨op,dst,ty,K',dt⟩)(hF:Frm n ds a fr)(v:Value)(w':World)(hrun:∀o:Oper,o.op=op→o.dst=dst→o.type=ty→(execOp a.eval o).run P w=.ok (.value v) w')(hput:putD n dst v fr=some fr')(next:∀a',Frm n ds a' fr'→(dt=true→D w')∧WPK P D K' Q a' w'):WPK P D K Q a w:=by
 refine head_wp (D:=D) hK hF fun o Q' h1 h2 h3=>?_
 unfold Oper.wp;rw[hrun o h1 h2 h3];simp only[Oper.upon];rw[h2];exact next _ (putD_sound hF hput)
end
end Go.Beat
end
section
namespace Go.Beat
open Go
section
variable {P:Program} {D:World→Prop} {Q:Post} {T:Tab} {n:Nat} {ds:List Deferred} {τ:Type} {M:Meta τ} {S0 S:Sto τ} {w0:World} {c:Cont τ} {fr fr':Fr} {a:Act} {w:World} {K K':List KI} {t:τ} {cs:List Value}
theorem run_sizeOf_sca {t:Nat}(h:scaOk P t=true)(w:World):(sizeOf t).run P w=.ok 1 w:=by
 unfold scaOk at h;simp only[Bool.and_eq_true] at h;obtain⟨_,h2⟩:=h
 split at h2
 ·rename_i i hi
  simp[sizeOf,typeInfo,program,Sem.run,hi]
  simpa using h2
 ·cases h2
theorem cells_one {v:Value}(hv:v.oneCell'=true):v.cells=#[v]:=by
 cases v<;>simp_all [Value.oneCell',Value.cells]
theorem run_storeVar_sca {t:Nat}(h:scaOk P t=true){ad:Addr}{v u:Value}(hv:v.oneCell'=true)(hc:w.cell? ad=some u)(hf:w.frozen? ad=false):(storeVar t ad v).run P w=.ok () (w.setCell ad v):=by
 unfold storeVar;simp only[cells_one hv,Sem.run_bind,run_sizeOf_sca h,Result.andThen_ok];simp only[List.size_toArray,List.length_cons,List.length_nil,Nat.zero_add,ne_eq,not_true_eq_false,if_false];simp only[storeCells,Sem.run_bind,Addr.add,if_true];rw[show (store ad v).run P w=.ok () (w.setCell ad v) from by rw[run_store P w ad v _ hv];simp[hc,hf]]
 simp
theorem St.alloc (X:St M S0 w0 n ds S c fr a w)(o:Obj){a':Act}(hF:Frm n ds a' fr'):St M S0 w0 n ds S c fr' a' (w.alloc o):=
 ⟨hF,X.H.alloc o,fun b hb=>X.fresh b (by simp at hb;omega),X.kp.trans (Kp.alloc S w o).toKp⟩
theorem ev_box {e:TypeId}{x:Operand}{dst:Option Tmp}{ty:TypeId}{dt:Bool}(X:St M S0 w0 n ds S c fr a w)(hK:headIs n fr K=some ⟨.box e x,dst,ty,K',dt⟩)(v:Value)(hx:ev fr x=some v)(fr':Fr)(hput:putD n dst (.pointer (some ⟨w.heap.size,0,none⟩)) fr=some fr')(next:∀a' w',St M S0 w0 n ds S c fr' a' w'→Evn S w S w'→w'=w.alloc (.cells v.cells e)→(dt=true→D w')∧WPK P D K' Q a' w'):WPK P D K Q a w:=by
 refine ev_val hK X.F (.pointer (some ⟨w.heap.size,0,none⟩)) (w.alloc (.cells v.cells e)) (fun o h1 _ _=>?_) hput fun a' hF'=>next a' _ (X.alloc _ hF') (Kp.alloc S w _) rfl
 simp[execOp,h1,X.F.eval hx,Instr.box,newVar,newRow,newObj,Sem.run]
theorem wideOk {tt e:TypeId}(h:(match P.underlying tt with|some (.slice e')=>e'==e|_=>false)=true):P.underlying tt=some (.slice e):=by
 split at h
 ·rename_i e' he
  have:e'=e:=by simpa using h
  rw[he,this]
 ·cases h
def appOk (P:Program)(tt e:TypeId)(size bytes:Nat):Bool:=
 (match P.underlying tt with|some (.slice e')=>e'==e|_=>false)&&
 (match P.info? e with
  |some i=>i.size==size&&i.bytes==bytes&&(match i.zero with|some z=>z.cells.size==size|none=>false)
  |none=>false)
theorem appOk_spec {tt e:TypeId}{size bytes:Nat}(h:appOk P tt e size bytes=true):P.underlying tt=some (.slice e)∧∃i z,P.info? e=some i∧i.size=size∧i.bytes=bytes∧i.zero=some z∧z.cells.size=size:=by
 unfold appOk at h;simp only[Bool.and_eq_true] at h;refine⟨wideOk h.1,?_⟩;have h2:=h.2
 split at h2
 ·rename_i i hi
  simp only[Bool.and_eq_true,beq_iff_eq] at h2;obtain⟨⟨h3,h4⟩,h5⟩:=h2
  split at h5
  ·rename_i z hz
   exact⟨i,z,hi,h3,h4,hz,by simpa using h5⟩
  ·cases h5
 ·cases h2
def callOk (P:Program)(f:FuncId):Bool:=
 match P.funcs[f]? with
 |some fn=>(fn.name== "runtime.NumGoroutine")==false&&fn.body.isSome
 |none=>false
theorem run_call {f:FuncId}(h:callOk P f=true)(args:Array Value)(w:World):(callFunc f args).run P w=.ok (.enter f args) w:=by
 unfold callOk at h
 split at h
 ·rename_i fn hf
  simp only[Bool.and_eq_true,beq_iff_eq] at h;obtain⟨h1,h2⟩:=h
  have h3:¬fn.body=none:=by cases hb:fn.body<;>simp_all
  have h4:¬fn.name= "runtime.NumGoroutine" :=by simpa using h1
  simp[callFunc,program,Sem.run,hf,h4,h3]
 ·cases h
theorem ev_call {f:FuncId}{args:Array Operand}{ats:Array TypeId}{dst:Option Tmp}{ty:TypeId}{dt:Bool}(hF:Frm n ds a fr)(hK:headIs n fr K=some ⟨.call {callee:=.value (.func f),args:=args,argTypes:=ats},dst,ty,K',dt⟩)(vs:List Value)(hvs:args.toList.mapM (ev fr)=some vs)(hok:callOk P f=true){R:Value→World→Prop}(hcall:Calls P f vs.toArray w fun e w'=>∃v,e=.returned v∧R v w')(next:∀v a' w',R v w'→a'.defers=a.defers→(∀fr',putD n dst v fr=some fr'→Frm n ds a' fr')→(dt=true→D w')∧WPK P D K' Q a' w'):WPK P D K Q a w:=by
 refine head_wp (D:=D) hK hF fun o Q' h1 h2 h3=>?_
 have e1:args.map a.eval=vs.toArray:=by apply Array.toList_inj.1;rw[Array.toList_map];exact mapM_ev1 hF _ _ hvs
 have hr:(execOp a.eval o).run P w=.ok (.enter f vs.toArray) w:=by
  simp[execOp,h1,resolve,Act.eval,Deferred.ofValue,invoke,run_call hok];exact e1
 unfold Oper.wp;rw[hr];simp only[Oper.upon]
 refine hcall.mono fun e w' he=>?_
 obtain⟨v,rfl,hR⟩:=he
 refine next v _ w' hR ?_ fun fr' hput=>?_
 ·cases o.dst<;>rfl
 ·rw[h2]
  exact putD_sound hF hput
theorem ev_callv {g:Operand}{f:FuncId}{cap:Array Value}{args:Array Operand}{ats:Array TypeId}{dst:Option Tmp}{ty:TypeId}{dt:Bool}(hF:Frm n ds a fr)(hK:headIs n fr K=some ⟨.call {callee:=.value g,args:=args,argTypes:=ats},dst,ty,K',dt⟩)(hg:ev fr g=some (.func (.func f) #[] cap))(vs:List Value)(hvs:args.toList.mapM (ev fr)=some vs)(hok:callOk P f=true){R:Value→World→Prop}(hcall:Calls P f (vs.toArray++cap) w fun e w'=>∃v,e=.returned v∧R v w')(next:∀v a' w',R v w'→a'.defers=a.defers→(∀fr',putD n dst v fr=some fr'→Frm n ds a' fr')→(dt=true→D w')∧WPK P D K' Q a' w'):WPK P D K Q a w:=by
 refine head_wp (D:=D) hK hF fun o Q' h1 h2 h3=>?_
 have e1:args.map a.eval=vs.toArray:=by apply Array.toList_inj.1;rw[Array.toList_map];exact mapM_ev1 hF _ _ hvs
 have hr:(execOp a.eval o).run P w=.ok (.enter f (vs.toArray++cap)) w:=by
  simp[execOp,h1,resolve,hF.eval hg,Deferred.ofValue,invoke,run_call hok,e1]
 unfold Oper.wp;rw[hr];simp only[Oper.upon]
 refine hcall.mono fun e w' he=>?_
 obtain⟨v,rfl,hR⟩:=he
 refine next v _ w' hR ?_ fun fr' hput=>?_
 ·cases o.dst<;>rfl
 ·rw[h2]
  exact putD_sound hF hput
theorem postK_put (hQ:∀c (d:Option Tmp) v a w,Q (.panic c) (a.put d v) w→Q (.panic c) a w):∀c (d:Option Tmp) v a w,postK P D K Q (.panic c) (a.put d v) w→postK P D K Q (.panic c) a w:=fun c d v a w h=>by
 rw[postK_panic] at h ⊢;exact hQ c d v a w h
theorem body_put {fn:Func}{R:Ending→World→Prop}:∀c (d:Option Tmp) v a w,bodyPost P fn R (.panic c) (a.put d v) w→bodyPost P fn R (.panic c) a w:=fun c d v a w h=>by
 cases d<;>exact h
theorem then_put {J:Act→World→Prop}(hQ:∀c (d:Option Tmp) v a w,Q (.panic c) (a.put d v) w→Q (.panic c) a w):∀c (d:Option Tmp) v a w,Exit.then J Q (.panic c) (a.put d v) w→Exit.then J Q (.panic c) a w:=hQ
def zipF:Nat→List Value→Fr
 |_,[]=>[]
 |i,v::vs=>(i,v)::zipF (i+1) vs
theorem look_zipF:∀(vs:List Value) (i t:Nat) (v:Value),look (zipF i vs) t=some v→i≤t∧vs[t - i]?=some v
 |[],i,t,v,h=>by simp[zipF,look] at h
 |u::vs,i,t,v,h=>by
  unfold zipF look at h
  by_cases hit:i=t
  ·subst hit
   simp at h
   simp[h]
  ·have hb:(i==t)=false:=by simp[hit]
   rw[hb] at h;simp only[Bool.false_eq_true,if_false] at h;obtain⟨h1,h2⟩:=look_zipF vs (i+1) t v h;refine⟨by omega,?_⟩;rw[show t - i=(t - (i+1))+1 from by omega]
   simpa using h2
theorem enter {f:FuncId}{fn:Func}{R:Ending→World→Prop}(hf:P.funcs[f]?=some fn)(hb:fn.body.isSome=true)(vs:List Value)(hsz:vs.length≤fn.ntmps)(h:∀a,Frm fn.ntmps [] a (zipF 0 vs)→WPK P D (at_ fn []) (bodyPost P fn R) a w):Calls P f vs.toArray w R:=by
 obtain⟨c,hc⟩:=Option.isSome_iff_exists.1 hb
 refine calls_of_wp hf hc ?_
 have h1:=h {tmps:=vs.toArray++Array.replicate (fn.ntmps - vs.toArray.size) undef,defers:=[]} ⟨rfl,by simp;omega,fun t v ht=>?_⟩
 ·have e:at_ fn []=[.code c]:=by simp[at_,bd,hc,contAt]
  rw[e,WPK_code] at h1
  have e2:postK P D [] (bodyPost P fn R)=bodyPost P fn R:=by funext e a w;cases e<;>rfl
  rwa [e2] at h1
 ·obtain⟨_,h2⟩:=look_zipF vs 0 t v ht
  have hlt:t<vs.length:=(List.getElem?_eq_some_iff.1 h2).1;simp only[Nat.sub_zero] at h2;have h3:vs[t]=v:=(List.getElem?_eq_some_iff.1 h2).2;simp[Array.getElem?_append,hlt,h3]
theorem ret1 {fn:Func}{R:Ending→World→Prop}{t:Tmp}{v:Value}(hr:fn.results=#[.tmp t])(hF:Frm n [] a fr)(hv:look fr t=some v)(h:R (.returned v) w):bodyPost P fn R .ret a w:=by
 refine⟨hF.defs,_,results_tmp hr _ _ _,?_⟩;rw[hF.get t v hv];exact h
end
end Go.Beat
end
section
namespace Go.Beat
open Go
section
variable {P:Program} {D:World→Prop} {Q:Post} {T:Tab} {n:Nat} {ds:List Deferred} {τ:Type} {M:Meta τ} {S0 S:Sto τ} {w0:World} {c:Cont τ} {fr fr':Fr} {a:Act} {w:World} {K K':List KI} {t:τ} {cs:List Value} {L:SL}
theorem run_len_slice {tt:TypeId}{e:TypeId}(h:P.underlying tt=some (.slice e))(ty:TypeId)(L:SL)(n:Nat)(w:World):(Builtin.len_ #[tt] ty #[L.val n]).run P w=.ok (.int .i64 n) w:=by
 simp[Builtin.len_,SL.val,run_underlying h,goInt]
def isSlice (P:Program)(tt:TypeId):Bool:=match P.underlying tt with|some (.slice _)=>true|_=>false
def lenV (P:Program){C:World→Prop}(tt ty:TypeId)(h:isSlice P tt=true)(ad:Option Addr)(n cap:Nat):Hint P C:=
 .run (Builtin.len_ #[tt] ty #[.slice ad n cap]) (.int .i64 n) fun w _=>by
  unfold isSlice at h
  split at h
  ·rename_i e he
   simp[Builtin.len_,run_underlying he,goInt]
  ·cases h
theorem WPK_ret (h:Q .ret a w):WPK P D (.code .ret::K) Q a w:=K_ret (postK_ret h)
end
end Go.Beat
end
section
namespace Go.Beat
open Go
inductive Tg (τ:Type) where
 |m (t:τ)
 |loc (j:Nat)
inductive AL (τ:Type) where
 |v (x:Value)
 |p (t:Tg τ) (k sz f:Nat)
 |sl (t:Tg τ) (k sz n:Nat)
inductive TV (τ:Type) where
  |l (a:AL τ)
  |agg (xs:List (AL τ))
  |tup (xs:List (AL τ ⊕ List (AL τ)))
  |x
section
variable {τ:Type}
def encL (S:Sto (Tg τ)):AL τ→Value
 |.v x=>x
 |.p t k sz f=>.pointer (some ⟨(S.loc t).b,(S.loc t).off+k*sz+f,none⟩)
 |.sl t k sz n=>((S.loc t).later k sz).val n
def encE (S:Sto (Tg τ)):AL τ ⊕ List (AL τ)→Value
 |.inl a=>encL S a
 |.inr xs=>.agg (xs.map (encL S)).toArray
def encT (S:Sto (Tg τ)):TV τ→Value
 |.l a=>encL S a
 |.agg xs=>.agg (xs.map (encL S)).toArray
 |.tup xs=>.tuple (xs.map (encE S)).toArray
 |.x=>undef
def AL.has (q:Tg τ→Bool):AL τ→Bool
 |.v _=>false
 |.p t _ _ _=>q t
 |.sl t _ _ _=>q t
def TV.has (q:Tg τ→Bool):TV τ→Bool
 |.l a=>a.has q
 |.agg xs=>xs.any (·.has q)
 |.tup xs=>xs.any fun|.inl a=>a.has q|.inr ys=>ys.any (·.has q)
 |.x=>false
theorem encL_eq {S S':Sto (Tg τ)}{q:Tg τ→Bool}(hl:∀t,q t=false→S'.loc t=S.loc t){a:AL τ}(h:a.has q=false):encL S' a=encL S a:=by
 cases a with
 |v x=>rfl
 |p t k sz f=>simp only[encL,hl t h]
 |sl t k sz n=>simp only[encL,hl t h]
theorem encLs_eq {S S':Sto (Tg τ)}{q:Tg τ→Bool}(hl:∀t,q t=false→S'.loc t=S.loc t){xs:List (AL τ)}(h:xs.any (·.has q)=false):xs.map (encL S')=xs.map (encL S):=by
 refine List.map_congr_left fun a ha=>encL_eq hl ?_
 simp only[List.any_eq_false] at h
 simpa using h a ha
theorem encT_eq {S S':Sto (Tg τ)}{q:Tg τ→Bool}(hl:∀t,q t=false→S'.loc t=S.loc t){v:TV τ}(h:v.has q=false):encT S' v=encT S v:=by
 cases v with
 |l a=>exact encL_eq hl h
 |agg xs=>simp only[encT,encLs_eq hl h]
 |tup xs=>
  simp only[encT]
  congr 2
  refine List.map_congr_left fun e he=>?_
  simp only[TV.has,List.any_eq_false] at h;have h1:=h e he
  cases e with
  |inl a=>exact encL_eq hl (by simpa using h1)
  |inr ys=>simp only[encE];rw[encLs_eq hl (by simpa using h1)]
 |x=>rfl
abbrev AFr (τ:Type):=List (Nat×TV τ)
def TV.ok:TV τ→Option (TV τ)
 |.x=>none
 |v=>some v
def lookA:AFr τ→Nat→Option (TV τ)
 |[],_=>none
 |(k,v)::r,t=>if k==t then v.ok else lookA r t
def ofVal:Value→TV τ
 |.agg cs=>.agg (cs.toList.map .v)
 |v=>.l (.v v)
def evA (fr:AFr τ):Operand→Option (TV τ)
 |.tmp t=>lookA fr t
 |.const v=>some (ofVal v)
 |.global _=>none
 |.func f=>some (.l (.v (.func (.func f) #[] #[])))
def TV.strike (q:Tg τ→Bool)(v:TV τ):TV τ:=bif v.has q then .x else v
def purge (q:Tg τ→Bool)(fr:AFr τ):AFr τ:=fr.map fun e=>(e.1,e.2.strike q)
structure FrmA (n:Nat) (ds:List Deferred) (a:Act) (S:Sto (Tg τ)) (fr:AFr τ):Prop where
  defs:a.defers=ds
  size:a.tmps.size=n
  get:∀t v,lookA fr t=some v→a.tmps.getD t undef=encT S v
variable {n:Nat} {ds:List Deferred} {a:Act} {S S':Sto (Tg τ)} {fr fr':AFr τ}
theorem encT_ofVal (S:Sto (Tg τ))(v:Value):encT S (ofVal v)=v:=by
 cases v<;>simp [ofVal,encT,encL]
 case agg cs=>
  apply Array.toList_inj.1
  simp[encL,Function.comp_def]
theorem FrmA.eval (h:FrmA n ds a S fr){x:Operand}{v:TV τ}(hx:evA fr x=some v):a.eval x=encT S v:=by
 cases x with
 |tmp t=>exact h.get t v hx
 |const u=>
  simp only[evA,Option.some.injEq] at hx;subst hx;simp[Act.eval,encT_ofVal]
 |global g=>cases hx
 |func f=>
  simp only[evA,Option.some.injEq] at hx;subst hx;rfl
theorem FrmA.put (h:FrmA n ds a S fr){d:Nat}(hd:d<n){v:TV τ}{u:Value}(hv:∀v',v.ok=some v'→u=encT S v'):FrmA n ds (a.put (some d) u) S ((d,v)::fr):=by
 refine⟨h.defs,by simp[Act.put,h.size],fun t y ht=>?_⟩;unfold lookA at ht
 by_cases hdt:d=t
 ·subst hdt
  simp only[beq_self_eq_true,if_true] at ht;simp[Act.put,h.size,hd,hv y ht]
 ·have hb:(d==t)=false:=by simp[hdt]
  rw[hb] at ht;simp only[Bool.false_eq_true,if_false] at ht;have:=h.get t y ht;simp only[Act.put];rw[←this];simp[Array.getElem?_setIfInBounds_ne hdt]
theorem look_purge {q:Tg τ→Bool}:∀{fr:AFr τ} {t:Nat} {v:TV τ},lookA (purge q fr) t=some v→lookA fr t=some v∧v.has q=false
 |[],_,_,h=>by cases h
 |(k,u)::r,t,v,h=>by
  simp only[purge,List.map_cons,lookA] at h ⊢
  split at h
  ·rename_i hk
   rw[if_pos hk];unfold TV.strike at h
   cases hq:u.has q with
   |true=>rw[hq] at h;cases h
   |false=>
    rw[hq] at h;simp only[cond_false] at h;refine⟨h,?_⟩
    cases u<;>simp_all [TV.ok]<;>(subst h;exact hq)
  ·rename_i hk
   rw[if_neg hk];exact look_purge h
theorem FrmA.purge (h:FrmA n ds a S fr){q:Tg τ→Bool}(hl:∀t,q t=false→S'.loc t=S.loc t):FrmA n ds a S' (purge q fr):=
 ⟨h.defs,h.size,fun t v hv=>by
  obtain⟨h1,h2⟩:=look_purge hv
  rw[h.get t v h1,encT_eq hl h2]⟩
end
end Go.Beat
end
section
namespace Go.Beat
open Go
inductive LO (τ:Type) where
  |ints (k:IntKind) (xs:List Int)
  |rows (ks:List IntKind) (xs:List (List Int))
  |cells (xs:List (AL τ))
section
variable {τ:Type} {R:Type}
def rowCells (ks:List IntKind)(r:List Int):List (AL τ):=ks.zipIdx.map fun q=>.v (.int q.1 (r.getD q.2 0))
def LO.flat:LO τ→List (AL τ)
 |.ints k xs=>xs.map fun x=>.v (.int k x)
 |.rows ks xs=>xs.flatMap (rowCells ks)
 |.cells xs=>xs
def LO.len (sz:Nat):LO τ→Nat
 |.ints _ xs=>xs.length
 |.rows _ xs=>xs.length
 |.cells xs=>xs.length / sz
def LO.fits (sz:Nat):LO τ→Bool
 |.ints _ _=>sz==1
 |.rows ks _=>sz==ks.length&&sz !=0
 |.cells xs=>xs.length % sz==0&&sz !=0
@[simp] theorem len_rowCells (ks:List IntKind)(r:List Int):(rowCells ks r:List (AL τ)).length=ks.length:=by simp[rowCells]
theorem flatMap_len {α β:Type}(g:α→List β)(m:Nat)(hg:∀a,(g a).length=m):∀xs:List α,(xs.flatMap g).length=xs.length*m
 |[]=>by simp
 |x::xs=>by simp[flatMap_len g m hg xs,hg,Nat.add_mul,Nat.add_comm]
theorem flatMap_get {α β:Type}(g:α→List β)(m:Nat)(hg:∀a,(g a).length=m):∀(xs:List α) (k i:Nat) (a:α),xs[k]?=some a→i<m→(xs.flatMap g)[k*m+i]?=(g a)[i]?
 |[],k,i,a,h,_=>by simp at h
 |x::xs,0,i,a,h,hi=>by
  simp at h
  subst h;simp only[List.flatMap_cons,Nat.zero_mul,Nat.zero_add];rw[List.getElem?_append_left (by rw[hg];exact hi)]
 |x::xs,k+1,i,a,h,hi=>by
  simp at h
  simp only[List.flatMap_cons];rw[List.getElem?_append_right (by rw[hg,Nat.add_mul];omega),hg,show (k+1)*m+i - m=k*m+i from by rw[Nat.add_mul];omega];exact flatMap_get g m hg xs k i a h hi
theorem LO.flat_len {o:LO τ}{sz:Nat}(h:o.fits sz=true):o.flat.length=o.len sz*sz:=by
 cases o with
 |ints k xs=>simp[LO.fits] at h;subst h;simp[LO.flat,LO.len]
 |rows ks xs=>simp[LO.fits] at h;obtain⟨rfl,_⟩:=h;simp only[LO.flat,LO.len];exact flatMap_len _ _ (fun a=>by simp) xs
 |cells xs=>
  simp[LO.fits] at h;simp only[LO.flat,LO.len];rw[Nat.div_mul_cancel (Nat.dvd_of_mod_eq_zero h.1)]
def LO.rd (o:LO τ)(sz k f n:Nat)(κ:List (AL τ)→Option R):Option R:=
 match o with
 |.ints kd xs=>bif Nat.beq f 0&&Nat.beq n 1 then (match xs[k]? with|none=>none|some x=>κ [.v (.int kd x)]) else none
 |.rows ks xs=>bif Nat.ble (f+n) ks.length then (match xs[k]? with|none=>none|some r=>κ (((rowCells ks r).drop f).take n)) else none
 |.cells xs=>bif Nat.ble (k*sz+f+n) xs.length then κ ((xs.drop (k*sz+f)).take n) else none
theorem LO.rd_ok {o:LO τ}{sz k f n:Nat}{κ:List (AL τ)→Option R}{x:R}(hf:o.fits sz=true)(h:o.rd sz k f n κ=some x):
  ∃as,κ as=some x∧as.length=n∧∀j a,as[j]?=some a→o.flat[k*sz+f+j]?=some a:=by
 cases o with
 |ints kd xs=>
  simp only[LO.rd] at h
  cases hb:(Nat.beq f 0&&Nat.beq n 1) with
  |false=>rw[hb] at h;cases h
  |true=>
   rw[hb] at h;simp only[cond_true] at h;simp only[Bool.and_eq_true,Nat.beq_eq] at hb;obtain⟨rfl,rfl⟩:=hb
   cases hx:xs[k]? with
   |none=>rw[hx] at h;cases h
   |some y=>
    rw[hx] at h;refine⟨_,h,rfl,fun j a ha=>?_⟩;simp[LO.fits] at hf;subst hf
    match j,ha with
    |0,ha=>
     simp at ha
     subst ha;simp[LO.flat,hx]
    |j+1,ha=>simp at ha
 |rows ks xs=>
  simp only[LO.rd] at h
  cases hb:Nat.ble (f+n) ks.length with
  |false=>rw[hb] at h;cases h
  |true=>
   rw[hb] at h;simp only[cond_true] at h;have hb':=Nat.le_of_ble_eq_true hb
   cases hx:xs[k]? with
   |none=>rw[hx] at h;cases h
   |some r=>
    rw[hx] at h;refine⟨_,h,by simp;omega,fun j a ha=>?_⟩;simp[LO.fits] at hf;obtain⟨rfl,_⟩:=hf
    have hj:j<n:=by
     have:=(List.getElem?_eq_some_iff.1 ha).1
     simp at this
     omega
    rw[List.getElem?_take_of_lt hj,List.getElem?_drop] at ha;simp only[LO.flat];rw[Nat.add_assoc,flatMap_get _ ks.length (fun a=>by simp) xs k (f+j) r hx (by omega)];exact ha
 |cells xs=>
  simp only[LO.rd] at h
  cases hb:Nat.ble (k*sz+f+n) xs.length with
  |false=>rw[hb] at h;cases h
  |true=>
   rw[hb] at h;simp only[cond_true] at h;have hb':=Nat.le_of_ble_eq_true hb;refine⟨_,h,by simp;omega,fun j a ha=>?_⟩
   have hj:j<n:=by
    have:=(List.getElem?_eq_some_iff.1 ha).1
    simp at this
    omega
   rw[List.getElem?_take_of_lt hj,List.getElem?_drop] at ha;exact ha
def asInts:List IntKind→List (AL τ)→Option (List Int)
 |[],[]=>some []
 |k::ks,.v (.int k' x)::as=>if k=k' then (match asInts ks as with|some r=>some (x::r)|none=>none) else none
 |_,_=>none
def oneC {τ:Type}:AL τ→Bool
 |.v x=>x.oneCell'
 |_=>true
def isV:AL τ→Bool
 |.v x=>x.oneCell'
 |_=>false
theorem isV_one {τ:Type}{as:List (AL τ)}(h:as.all isV=true):as.all oneC=true:=by
 rw[List.all_eq_true] at h ⊢;intro a ha;have:=h a ha
 cases a with
 |v x=>exact this
 |p t k sz f=>rfl
 |sl t k sz n=>rfl
def setN:List (AL τ)→Nat→List (AL τ)→List (AL τ)
 |cs,_,[]=>cs
 |cs,i,a::as=>setN (cs.set i a) (i+1) as
theorem setN_length:∀(as cs:List (AL τ)) (i:Nat),(setN cs i as).length=cs.length
 |[],_,_=>rfl
 |a::as,cs,i=>by simp[setN,setN_length as]
def rowSet (n:Nat)(r:List Int)(f:Nat)(vs:List Int):List Int:=(List.range n).map fun q=>bif Nat.ble f q&&Nat.blt q (f+vs.length) then vs.getD (q - f) 0 else r.getD q 0
def LO.wr (o:LO τ)(sz k f:Nat)(as:List (AL τ))(κ:LO τ→Option R):Option R:=
 match o with
 |.ints kd xs=>bif Nat.beq f 0 then (match asInts [kd] as with|some [x]=>if k<xs.length then κ (.ints kd (xs.set k x)) else none|_=>none) else none
 |.rows ks xs=>bif Nat.ble (f+as.length) ks.length then (match asInts ((ks.drop f).take as.length) as with
  |some vs=>(match xs[k]? with|none=>none|some r=>κ (.rows ks (xs.set k (rowSet ks.length r f vs))))
  |none=>none) else none
 |.cells xs=>bif Nat.ble (k*sz+f+as.length) xs.length&&as.all oneC then κ (.cells (setN xs (k*sz+f) as)) else none
theorem asInts_spec:∀{ks:List IntKind} {as:List (AL τ)} {vs:List Int},asInts ks as=some vs→as.length=ks.length∧vs.length=ks.length∧as.all isV=true∧∀(j:Nat) (a:AL τ),as[j]?=some a→∃k,ks[j]?=some k∧a=.v (.int k (vs.getD j 0))
 |[],[],vs,h=>by simp[asInts] at h;subst h;simp
 |[],a::as,vs,h=>by simp[asInts] at h
 |k::ks,[],vs,h=>by simp[asInts] at h
 |k::ks,.p .. ::as,vs,h=>by simp[asInts] at h
 |k::ks,.sl .. ::as,vs,h=>by simp[asInts] at h
 |k::ks,.v x::as,vs,h=>by
  cases x<;>simp [asInts] at h
  rename_i k' x;obtain⟨rfl,h⟩:=h
  split at h
  ·rename_i r hr
   simp only[Option.some.injEq] at h;subst h;obtain⟨h1,h2,h3,h4⟩:=asInts_spec hr;refine⟨by simp[h1],by simp[h2],by simp[isV,Value.oneCell',h3],fun j a ha=>?_⟩
   match j,ha with
   |0,ha=>simp at ha;subst ha;exact⟨k,by simp,by simp⟩
   |j+1,ha=>
    simp at ha
    obtain⟨k',h5,h6⟩:=h4 j a ha;exact⟨k',by simpa using h5,by simpa using h6⟩
  ·cases h
theorem get_setN:∀(as cs:List (AL τ)) (i j:Nat),i+as.length≤cs.length→(setN cs i as)[j]?=if i≤j∧j<i+as.length then as[j - i]? else cs[j]?
 |[],cs,i,j,_=>by simp[setN];omega
 |a::as,cs,i,j,h=>by
  simp only[List.length_cons] at h;rw[setN,get_setN as (cs.set i a) (i+1) j (by simp;omega)]
  by_cases h1:i+1≤j∧j<i+1+as.length
  ·rw[if_pos h1,if_pos (by simp;omega),show j - i=(j - (i+1))+1 from by omega]
   simp
  ·rw[if_neg h1]
   by_cases h2:j=i
   ·subst h2
    rw[if_pos (by simp)];simp[List.getElem?_set];omega
   ·rw[if_neg (by simp;omega),List.getElem?_set_ne (by omega)]
theorem LO.wr_ok {o:LO τ}{sz k f:Nat}{as:List (AL τ)}{κ:LO τ→Option R}{x:R}(hf:o.fits sz=true)(h:o.wr sz k f as κ=some x):
  ∃o',κ o'=some x∧o'.fits sz=true∧o'.len sz=o.len sz∧k*sz+f+as.length≤o.flat.length∧as.all oneC=true∧o'.flat=setN o.flat (k*sz+f) as:=by
 cases o with
 |ints kd xs=>
  simp only[LO.wr] at h
  cases hb:Nat.beq f 0 with
  |false=>rw[hb] at h;cases h
  |true=>
   rw[hb] at h;simp only[cond_true] at h;simp only[Nat.beq_eq] at hb;subst hb
   split at h
   ·rename_i y hy
    split at h
    ·rename_i hk
     simp[LO.fits] at hf;subst hf;obtain⟨h1,h2,h3,h4⟩:=asInts_spec hy
     obtain⟨a,rfl⟩:∃a,as=[a]:=by
      match as,h1 with
      |[a],_=>exact⟨a,rfl⟩
     obtain⟨k',h5,h6⟩:=h4 0 a rfl
     simp at h5
     subst h5
     simp at h6
     subst h6;refine⟨_,h,by simp[LO.fits],by simp[LO.len],by simp[LO.flat];omega,isV_one h3,?_⟩;simp only[LO.flat,setN,Nat.mul_one,Nat.add_zero];rw[List.map_set]
    ·cases h
   ·cases h
 |rows ks xs=>
  simp only[LO.wr] at h
  cases hb:Nat.ble (f+as.length) ks.length with
  |false=>rw[hb] at h;cases h
  |true=>
   rw[hb] at h;simp only[cond_true] at h;have hb':=Nat.le_of_ble_eq_true hb
   split at h
   ·rename_i vs hvs
    cases hx:xs[k]? with
    |none=>rw[hx] at h;cases h
    |some r=>
     rw[hx] at h;obtain⟨h1,h2,h3,h4⟩:=asInts_spec hvs;simp[LO.fits] at hf;obtain⟨rfl,hpos⟩:=hf;have hk:k<xs.length:=(List.getElem?_eq_some_iff.1 hx).1
     have hflat:∀ys:List (List Int),(LO.rows ks ys:LO τ).flat.length=ys.length*ks.length:=fun ys=>flatMap_len _ _ (fun a=>by simp) ys
     have hle:k*ks.length+ks.length≤xs.length*ks.length:=by rw[←Nat.succ_mul];exact Nat.mul_le_mul_right _ hk
     have hvl:vs.length=as.length:=by rw[h2,←h1]
     refine⟨_,h,by simp[LO.fits,hpos],by simp[LO.len],by rw[hflat];omega,isV_one h3,?_⟩
     have hm:0<ks.length:=by
      rcases Nat.eq_zero_or_pos ks.length with h0|h0
      ·exact absurd h0 hpos
      ·exact h0
     apply List.ext_getElem?
     intro idx;rw[get_setN _ _ _ _ (by rw[hflat];omega)]
     by_cases hlt:idx<xs.length*ks.length
     ·have hq:idx / ks.length<xs.length:=Nat.div_lt_of_lt_mul (by rw[Nat.mul_comm];exact hlt)
      have hi:idx % ks.length<ks.length:=Nat.mod_lt _ hm
      have he:idx=idx / ks.length*ks.length+idx % ks.length:=by rw[Nat.mul_comm];exact (Nat.div_add_mod idx ks.length).symm
      generalize idx / ks.length=q at hq he;generalize idx % ks.length=i at hi he;subst he;have hxq:xs[q]?=some xs[q]:=List.getElem?_eq_getElem hq;simp only[LO.flat];rw[flatMap_get _ ks.length (fun a=>by simp) xs q i xs[q] hxq hi]
      by_cases hqk:q=k
      ·subst hqk
       have hr:xs[q]=r:=by rw[hxq] at hx;exact Option.some.inj hx
       rw[flatMap_get _ ks.length (fun a=>by simp) (xs.set q (rowSet ks.length r f vs)) q i (rowSet ks.length r f vs) (by simp[List.getElem?_set,hq]) hi]
       have hget:∀r':List Int,(rowCells ks r':List (AL τ))[i]?=some (.v (.int (ks[i]'hi) (r'.getD i 0))):=fun r'=>by simp[rowCells,hi]
       rw[hget,hget,hr]
       by_cases hin:f≤i∧i<f+as.length
       ·rw[if_pos (by omega)]
        have ha:as[i - f]?=some (as[i - f]'(by omega)):=List.getElem?_eq_getElem (by omega);obtain⟨kk,h5,h6⟩:=h4 (i - f) _ ha;rw[show q*ks.length+i - (q*ks.length+f)=i - f from by omega,ha,h6];rw[List.getElem?_take_of_lt (by omega),List.getElem?_drop,show f+(i - f)=i from by omega,List.getElem?_eq_getElem hi] at h5;have h7:=Option.some.inj h5;rw[h7]
        congr 3
        have e1:Nat.ble f i=true:=Nat.ble_eq_true_of_le hin.1
        have e2:Nat.blt i (f+vs.length)=true:=by rw[hvl];exact Nat.ble_eq_true_of_le hin.2
        simp[rowSet,hi,List.getD,e1,e2]
       ·rw[if_neg (by omega)]
        congr 3
        have e:(Nat.ble f i&&Nat.blt i (f+vs.length))=false:=by
         rw[hvl,Bool.and_eq_false_iff]
         rcases Nat.lt_or_ge i f with h8|h8
         ·exact .inl (by cases h9:Nat.ble f i with|false=>rfl|true=>exact absurd (Nat.le_of_ble_eq_true h9) (by omega))
         ·exact .inr (by cases h9:Nat.blt i (f+as.length) with|false=>rfl|true=>exact absurd (Nat.le_of_ble_eq_true h9) (by omega))
        simp[rowSet,hi,List.getD,e]
      ·rw[flatMap_get _ ks.length (fun a=>by simp) (xs.set k (rowSet ks.length r f vs)) q i xs[q] (by rw[List.getElem?_set_ne (by omega)];exact hxq) hi]
       have hne:¬(k*ks.length+f≤q*ks.length+i∧q*ks.length+i<k*ks.length+f+as.length):=by
        rintro⟨h8,h9⟩
        rcases Nat.lt_or_gt_of_ne hqk with h10|h10
        ·have:=Nat.mul_le_mul_right ks.length (show q+1≤k from h10)
         rw[Nat.add_mul] at this;omega
        ·have:=Nat.mul_le_mul_right ks.length (show k+1≤q from h10)
         rw[Nat.add_mul] at this;omega
       rw[if_neg hne]
     ·have e1:(LO.rows ks (xs.set k (rowSet ks.length r f vs)):LO τ).flat[idx]?=none:=List.getElem?_eq_none (by rw[hflat];simp;omega)
      have e2:(LO.rows ks xs:LO τ).flat[idx]?=none:=List.getElem?_eq_none (by rw[hflat];omega);rw[e1,e2,if_neg (by omega)]
   ·cases h
 |cells xs=>
  simp only[LO.wr] at h
  cases hb:(Nat.ble (k*sz+f+as.length) xs.length&&as.all oneC) with
  |false=>rw[hb] at h;cases h
  |true=>
   rw[hb] at h;simp only[cond_true] at h;simp only[Bool.and_eq_true] at hb;have hb':=Nat.le_of_ble_eq_true hb.1;refine⟨_,h,?_,by simp[LO.len,setN_length],hb',hb.2,rfl⟩
   simpa [LO.fits,setN_length] using hf
def LO.slc (o:LO τ)(sz k n:Nat):LO τ:=
 match o with
 |.ints kd xs=>.ints kd ((xs.drop k).take n)
 |.rows ks xs=>.rows ks ((xs.drop k).take n)
 |.cells xs=>.cells ((xs.drop (k*sz)).take (n*sz))
theorem flatMap_drop {α β:Type}(g:α→List β)(m:Nat)(hg:∀a,(g a).length=m):∀(k:Nat) (xs:List α),(xs.drop k).flatMap g=(xs.flatMap g).drop (k*m)
 |0,xs=>by simp
 |k+1,[]=>by simp
 |k+1,x::xs=>by
  simp only[List.drop_succ_cons,List.flatMap_cons];have e:(g x).drop ((k+1)*m)=[]:=List.drop_eq_nil_of_le (by rw[hg,Nat.add_mul];omega);rw[flatMap_drop g m hg k xs,List.drop_append,hg,show (k+1)*m - m=k*m from by rw[Nat.add_mul];omega,e];rfl
theorem flatMap_take {α β:Type}(g:α→List β)(m:Nat)(hg:∀a,(g a).length=m):∀(k:Nat) (xs:List α),(xs.take k).flatMap g=(xs.flatMap g).take (k*m)
 |0,xs=>by simp
 |k+1,[]=>by simp
 |k+1,x::xs=>by
  simp only[List.take_succ_cons,List.flatMap_cons];rw[flatMap_take g m hg k xs,List.take_append,hg,show (k+1)*m - m=k*m from by rw[Nat.add_mul];omega,List.take_of_length_le (l:=g x) (by rw[hg,Nat.add_mul];omega)]
theorem LO.slc_ok {o:LO τ}{sz:Nat}(k n:Nat)(hf:o.fits sz=true):(o.slc sz k n).flat=(o.flat.drop (k*sz)).take (n*sz):=by
 cases o with
 |ints kd xs=>simp[LO.fits] at hf;subst hf;simp[LO.slc,LO.flat]
 |rows ks xs=>
  simp[LO.fits] at hf;obtain⟨rfl,_⟩:=hf;simp only[LO.slc,LO.flat];rw[flatMap_take _ ks.length (fun a=>by simp),flatMap_drop _ ks.length (fun a=>by simp)]
 |cells xs=>rfl
theorem LO.slc_fits {o:LO τ}{sz k n:Nat}(hf:o.fits sz=true)(hkn:k+n≤o.len sz):(o.slc sz k n).fits sz=true∧(o.slc sz k n).len sz=n:=by
 cases o with
 |ints kd xs=>simp[LO.fits,LO.len,LO.slc] at hf hkn ⊢;omega
 |rows ks xs=>simp[LO.fits,LO.len,LO.slc] at hf hkn ⊢;exact⟨hf,by omega⟩
 |cells xs=>
  have hfl:=LO.flat_len hf;simp only[LO.flat] at hfl
  have hle:k*sz+n*sz≤xs.length:=by rw[hfl,←Nat.add_mul];exact Nat.mul_le_mul_right _ hkn
  have hs:sz≠0:=by simp[LO.fits] at hf;exact hf.2
  have hl:((xs.drop (k*sz)).take (n*sz)).length=n*sz:=by rw[List.length_take,List.length_drop];omega
  simp only[LO.fits,LO.len,LO.slc,hl];exact⟨by simp[hs],Nat.mul_div_cancel _ (Nat.pos_of_ne_zero hs)⟩
def chunks (ks:List IntKind):Nat→List (AL τ)→Option (List (List Int))
 |0,_=>some []
 |n+1,cs=>match asInts ks (cs.take ks.length) with
  |some r=>(match chunks ks n (cs.drop ks.length) with|some rs=>some (r::rs)|none=>none)
  |none=>none
def LO.typed (ks:Option (List IntKind))(sz:Nat)(o:LO τ):Option (LO τ):=
 match o with
 |.cells xs=>(match ks with
  |none=>some (.cells xs)
  |some [k]=>(match asInts (List.replicate xs.length k) xs with|some ys=>some (.ints k ys)|none=>none)
  |some ks=>(match chunks ks (xs.length / sz) xs with|some rs=>some (.rows ks rs)|none=>none))
 |o=>some o
theorem asInts_flat {k:IntKind}{as:List (AL τ)}{vs:List Int}(h:asInts (List.replicate as.length k) as=some vs):as=vs.map fun x=>.v (.int k x):=by
 obtain⟨h1,h2,_,h4⟩:=asInts_spec h
 apply List.ext_getElem?
 intro j
 by_cases hj:j<as.length
 ·obtain⟨k',h5,h6⟩:=h4 j as[j] (List.getElem?_eq_getElem hj)
  simp[List.getElem?_replicate,hj] at h5;subst h5
  have hj':j<vs.length:=by rw[h2];simpa using hj
  rw[List.getElem?_eq_getElem hj,h6];simp[hj']
 ·rw[List.getElem?_eq_none (by omega),List.getElem?_eq_none (by simp[h2];omega)]
theorem asInts_row {ks:List IntKind}{as:List (AL τ)}{vs:List Int}(h:asInts ks as=some vs):as=rowCells ks vs:=by
 obtain⟨h1,h2,_,h4⟩:=asInts_spec h
 apply List.ext_getElem?
 intro j
 by_cases hj:j<as.length
 ·obtain⟨k',h5,h6⟩:=h4 j as[j] (List.getElem?_eq_getElem hj)
  rw[List.getElem?_eq_getElem hj,h6]
  have hj':j<ks.length:=by omega
  rw[List.getElem?_eq_getElem hj'] at h5;simp[rowCells,hj',Option.some.inj h5]
 ·rw[List.getElem?_eq_none (by omega),List.getElem?_eq_none (by simp;omega)]
theorem chunks_flat {ks:List IntKind}:∀{n:Nat} {cs:List (AL τ)} {rs:List (List Int)},chunks ks n cs=some rs→cs.length=n*ks.length→cs=rs.flatMap (rowCells ks)∧rs.length=n
 |0,cs,rs,h,hl=>by
  simp[chunks] at h;subst h;exact⟨List.eq_nil_of_length_eq_zero (by omega),rfl⟩
 |n+1,cs,rs,h,hl=>by
  simp only[chunks] at h
  split at h
  ·rename_i r hr
   split at h
   ·rename_i rs' hrs
    simp only[Option.some.injEq] at h;subst h;obtain⟨h1,h2⟩:=chunks_flat hrs (by rw[List.length_drop,hl,Nat.add_mul];omega);refine⟨?_,by simp[h2]⟩;rw[List.flatMap_cons,←h1,←asInts_row hr,List.take_append_drop]
   ·cases h
  ·cases h
theorem LO.typed_ok {ks:Option (List IntKind)}{sz:Nat}{o o':LO τ}(hf:o.fits sz=true)(hk:∀l,ks=some l→l.length=sz)(h:o.typed ks sz=some o'):o'.flat=o.flat∧o'.fits sz=true∧o'.len sz=o.len sz:=by
 cases o with
 |ints kd xs=>simp[LO.typed] at h;subst h;exact⟨rfl,hf,rfl⟩
 |rows kd xs=>simp[LO.typed] at h;subst h;exact⟨rfl,hf,rfl⟩
 |cells xs=>
  simp only[LO.typed] at h
  split at h
  ·simp at h;subst h;exact⟨rfl,hf,rfl⟩
  ·rename_i k
   split at h
   ·rename_i ys hys
    simp at h
    subst h
    have hs:sz=1:=by have:=hk _ rfl;simpa using this.symm
    subst hs;have h1:=asInts_flat hys;refine⟨by simp only[LO.flat];exact h1.symm,by simp[LO.fits],?_⟩;simp only[LO.len,Nat.div_one];rw[h1]
    simp
   ·cases h
  ·rename_i ks' _
   split at h
   ·rename_i rs hrs
    simp at h
    subst h;have hs:=hk _ rfl;subst hs;have hfl:=LO.flat_len hf;simp only[LO.flat,LO.len] at hfl;obtain⟨h1,h2⟩:=chunks_flat hrs hfl
    have hne:ks'.length≠0:=by simp[LO.fits] at hf;simpa using hf.2
    exact⟨by simp only[LO.flat];exact h1.symm,by simp[LO.fits];simpa using hne,by simp only[LO.len];exact h2⟩
   ·cases h
def LO.cat:LO τ→LO τ→Option (LO τ)
 |.ints k xs,.ints k' ys=>if k=k' then some (.ints k (xs++ys)) else none
 |.rows ks xs,.rows ks' ys=>if ks=ks' then some (.rows ks (xs++ys)) else none
 |.cells xs,.cells ys=>some (.cells (xs++ys))
 |_,_=>none
theorem LO.cat_ok {sz:Nat}{a b o:LO τ}(ha:a.fits sz=true)(hb:b.fits sz=true)(h:a.cat b=some o):o.flat=a.flat++b.flat∧o.fits sz=true∧o.len sz=a.len sz+b.len sz:=by
 cases a<;>cases b<;>simp [LO.cat] at h
 ·obtain⟨rfl,rfl⟩:=h;exact⟨by simp[LO.flat],ha,by simp[LO.len]⟩
 ·obtain⟨rfl,rfl⟩:=h;exact⟨by simp[LO.flat],ha,by simp[LO.len]⟩
 ·subst h
  rename_i xs ys;simp[LO.fits] at ha hb;refine⟨rfl,by simp[LO.fits,Nat.add_mod,ha,hb],?_⟩;simp only[LO.len,List.length_append];obtain⟨p,hp⟩:=Nat.dvd_of_mod_eq_zero ha.1;obtain⟨q,hq⟩:=Nat.dvd_of_mod_eq_zero hb.1;have hpos:0<sz:=Nat.pos_of_ne_zero ha.2;rw[hp,hq,←Nat.mul_add,Nat.mul_div_cancel_left _ hpos,Nat.mul_div_cancel_left _ hpos,Nat.mul_div_cancel_left _ hpos]
end
end Go.Beat
end
section
namespace Go.Beat
open Go
section
variable {τ:Type} {M M':Meta τ} {S S':Sto τ} {h:Heap} {c c':Cont τ} {t x y:τ} {cs:List Value} {w w':World}
theorem Holds.mta (H:Holds M S h c)(hM:∀t cs,c t=some cs→M'.ty t=M.ty t∧M'.sz t=M.sz t∧M'.fix t=M.fix t):Holds M' S h c:=fun t cs ht=>by
 obtain⟨h1,h2,h3⟩:=hM t cs ht;have Ht:=H t cs ht;exact⟨by rw[h2];exact Ht.len,Ht.cap,by rw[h2];exact Ht.pos,by rw[h3];exact Ht.fix,Ht.nil,by rw[h1,h2];exact Ht.blk⟩
open Classical in
/-- What was x's is y's. -/
noncomputable def Sto.ren (S:Sto τ) (x y:τ) (s:SL):Sto τ:={own:=fun b=>if S.own b=some x then some y else S.own b,loc:=fun t=>if t=y then s else S.loc t}
theorem Sto.ren_loc (S:Sto τ)(x y:τ)(s:SL):(S.ren x y s).loc y=s:=by simp[Sto.ren]
theorem Sto.ren_loc_ne (S:Sto τ)(x:τ){y t:τ}(s:SL)(h:t≠y):(S.ren x y s).loc t=S.loc t:=by simp[Sto.ren,h]
theorem Sto.ren_none (S:Sto τ)(x y:τ)(s:SL)(b:Nat):(S.ren x y s).own b=none↔S.own b=none:=by
 simp only[Sto.ren]
 split
 ·rename_i h
  simp[h]
 ·rfl
theorem Sto.ren_own (S:Sto τ){x y t:τ}(s:SL){b:Nat}(h:S.own b=some t)(ht:t≠x):(S.ren x y s).own b=some t:=by
 simp only[Sto.ren];rw[if_neg (by rw[h];simp[ht])];exact h
theorem Sto.ren_own_x (S:Sto τ){x y:τ}(s:SL){b:Nat}(h:S.own b=some x):(S.ren x y s).own b=some y:=by
 simp only[Sto.ren];rw[if_pos h]
open Classical in
noncomputable def renC (c:Cont τ) (x y:τ) (cs:List Value):Cont τ:=fun t=>if t=y then some cs else if t=x then none else c t
theorem Holds.ren (H:Holds M S h c)(hc:c x=some cs)(hxy:x≠y)(hM:M.ty y=M.ty x∧M.sz y=M.sz x∧M.fix y=M.fix x):Holds M (S.ren x y (S.loc x)) h (renC c x y cs):=by
 intro t cs' ht;unfold renC at ht
 by_cases hty:t=y
 ·subst hty
  simp only[if_true,Option.some.injEq] at ht;subst ht;have Ht:=H x cs hc;refine⟨?_,?_,?_,?_,?_,?_⟩
  ·rw[Sto.ren_loc,hM.2.1];exact Ht.len
  ·rw[Sto.ren_loc];exact Ht.cap
  ·rw[hM.2.1];exact Ht.pos
  ·rw[Sto.ren_loc,hM.2.2];exact Ht.fix
  ·rw[Sto.ren_loc];exact Ht.nil
  ·rw[Sto.ren_loc,hM.1,hM.2.1]
   intro hn;obtain⟨ho,hr⟩:=Ht.blk hn;exact⟨Sto.ren_own_x S _ ho,hr⟩
 ·rw[if_neg hty] at ht
  by_cases htx:t=x
  ·subst htx
   simp at ht
  ·rw[if_neg htx] at ht
   exact (H t cs' ht).other (Sto.ren_loc_ne S x _ hty) (fun b _ ho=>Sto.ren_own S _ ho htx) fun b _ _=>rfl
theorem Evn.ren (S:Sto τ)(x y:τ)(s:SL)(w:World):Evn S w (S.ren x y s) w:=⟨⟨rfl,rfl,rfl,Nat.le_refl _,fun b _=>Sto.ren_none S x y s b,fun _ _ _=>rfl⟩,fun _ _ _ h=>h⟩
theorem Fresh.ren (hf:Fresh S w)(x y:τ)(s:SL):Fresh (S.ren x y s) w:=fun b hb=>(Sto.ren_none S x y s b).2 (hf b hb)
theorem Holds.reloc (H:Holds M S h c)(hown:S'.own=S.own)(hl:∀t,c t≠none→S'.loc t=S.loc t):Holds M S' h c:=fun t cs ht=>
 (H t cs ht).other (hl t (by rw[ht];simp)) (fun b _ ho=>by rw[hown];exact ho) fun b _ _=>rfl
theorem later_zero (s:SL)(sz:Nat):s.later 0 sz=s:=by
 unfold SL.later
 split
 ·rename_i hc
  cases s
  simp_all
 ·cases s
  simp
theorem Holds.part (H:Holds M S h c)(hc:c x=some cs)(hxy:x≠y)(hM:M.ty y=M.ty x∧M.sz y=M.sz x∧M.fix y=M.fix x)(hfix:M.fix x=false)(k n:Nat)(hkn:(k+n)*M.sz x≤cs.length):
  Holds M (S.ren x y ((S.loc x).later k (M.sz x))) h (renC c x y ((cs.drop (k*M.sz x)).take (n*M.sz x))):=by
 have hk:k*M.sz x≤cs.length:=Nat.le_trans (Nat.mul_le_mul_right _ (Nat.le_add_right k n)) hkn;have H1:=H.ren hc hxy hM;have H2:=H1.later (t:=y) (cs:=cs) (by simp[renC]) k (by rw[hM.2.1];exact hk) (by rw[hM.2.2];exact hfix);have H3:=H2.shorter (t:=y) (cs:=cs.drop (k*M.sz y)) (upd_same _ _ _) n;rw[Sto.ren_loc,hM.2.1] at H3;intro t cs' ht
 by_cases hty:t=y
 ·subst hty
  simp only[renC,if_true,Option.some.injEq] at ht;subst ht;have:=H3 t _ (upd_same _ _ _)
  refine this.other (by rw[Sto.ren_loc,Sto.move_loc]) (fun b _ ho=>?_) fun b _ _=>rfl
  simpa [Sto.move,Sto.ren] using ho
 ·have h2:upd (upd (renC c x y cs) y (cs.drop (k*M.sz x))) y ((cs.drop (k*M.sz x)).take (n*M.sz x)) t=some cs':=by
   rw[upd_other _ _ hty,upd_other _ _ hty]
   simpa [renC,hty] using ht
  refine (H3 t cs' h2).other (by rw[Sto.ren_loc_ne _ _ _ hty,Sto.move_loc_ne _ _ hty,Sto.ren_loc_ne _ _ _ hty]) (fun b _ ho=>?_) fun b _ _=>rfl
  simpa [Sto.move,Sto.ren] using ho
theorem Holds.resl (H:Holds M S h c)(hc:c x=some cs)(hfix:M.fix x=false)(k n:Nat)(hkn:(k+n)*M.sz x≤cs.length):
  Holds M (S.move x ((S.loc x).later k (M.sz x))) h (upd c x ((cs.drop (k*M.sz x)).take (n*M.sz x))):=by
 have hk:k*M.sz x≤cs.length:=Nat.le_trans (Nat.mul_le_mul_right _ (Nat.le_add_right k n)) hkn;have H2:=H.later hc k hk hfix;have H3:=H2.shorter (t:=x) (cs:=cs.drop (k*M.sz x)) (upd_same _ _ _) n
 refine H3.congr fun t cs' ht=>?_
 by_cases htx:t=x
 ·subst htx
  rw[upd_same] at ht ⊢;exact ht
 ·rw[upd_other _ _ htx] at ht ⊢
  rw[upd_other _ _ htx];exact ht
theorem Evn.reloc (S:Sto τ)(w:World)(hown:S'.own=S.own):Evn S w S' w:=⟨⟨rfl,rfl,rfl,Nat.le_refl _,fun b _=>by rw[hown],fun _ _ _=>rfl⟩,fun _ _ _ h=>h⟩
theorem Holds.appendAt {P:Program}(H:Holds M S w.heap c)(hc:c x=some cs)(hxy:x≠y)(hM:M.ty y=M.ty x∧M.sz y=M.sz x∧M.fix y=M.fix x)(hfix:M.fix x=false)(k n:Nat)(hkn:(k+n)*M.sz x≤cs.length)(tt ty:TypeId)(i:TypeInfo)(z:Value)(ht:P.underlying tt=some (.slice (M.ty x)))(hi:P.info? (M.ty x)=some i)(hz:i.zero=some z)(hsize:i.size=M.sz x)(hzs:z.cells.size=M.sz x)(ad:Addr)(m mc:Nat)(news:List Value)(hl:news.length=m*M.sz x)(hnews:∀j u,news[j]?=some u→w.cell? (ad.add j)=some u)(h1:∀u∈news,u.oneCell'=true)(hbytes:(n+m)*i.bytes≤140737488355328)(h63:n+m≤9223372036854775807):
  ∃S' w',(Builtin.append_ #[tt,tt] ty #[((S.loc x).later k (M.sz x)).val n,.slice (some ad) m mc]).run P w=.ok ((S'.loc y).val (n+m)) w'∧Holds M S' w'.heap (renC c x y ((cs.drop (k*M.sz x)).take (n*M.sz x)++news))∧
   Evn S w S' w'∧(∀t,t≠y→S'.loc t=S.loc t)∧(Fresh S w→Fresh S' w')∧(∀b,b<w.heap.size→((S.loc x).nil=true∨b≠(S.loc x).b)→w'.heap[b]?=w.heap[b]?)∧(∀b,b<w.heap.size→S.own b≠some x→S'.own b=S.own b):=by
 have H1:=H.part hc hxy hM hfix k n hkn
 have hlen:((cs.drop (k*M.sz x)).take (n*M.sz x)).length=n*M.sz y:=by
  rw[hM.2.1,List.length_take,List.length_drop];rw[Nat.add_mul] at hkn;omega
 obtain⟨S',w',hr,hH,hk,hloc,hfr,hu1,hu2⟩:=H1.append (P:=P) (t:=y) (cs:=(cs.drop (k*M.sz x)).take (n*M.sz x)) (by simp[renC]) (by rw[hM.2.2];exact hfix) tt ty i z (by rw[hM.1];exact ht) (by rw[hM.1];exact hi) hz (by rw[hM.2.1];exact hsize) (by rw[hM.2.1];exact hzs)
  n hlen ad m mc news (by rw[hM.2.1];exact hl) hnews h1 hbytes h63
 have lb:((S.loc x).later k (M.sz x)).b=(S.loc x).b∧((S.loc x).later k (M.sz x)).nil=(S.loc x).nil:=by
  unfold SL.later
  split<;>exact ⟨rfl,rfl⟩
 refine⟨S',w',?_,?_,?_,?_,?_,fun b hb hor=>hu1 b hb (by rw[Sto.ren_loc,lb.1,lb.2];exact hor),fun b hb hne=>(hu2 b hb).trans (by simp[Sto.ren,hne])⟩
 ·unfold Sto.sv at hr
  rwa [Sto.ren_loc] at hr
 ·refine hH.congr fun t cs' ht'=>?_
  by_cases hty:t=y
  ·subst hty
   rw[upd_same]
   simpa [renC] using ht'
  ·rw[upd_other _ _ hty]
   simpa [renC,hty] using ht'
 ·exact (Evn.ren S x y _ w).trans hk
 ·intro t hty
  rw[hloc t hty,Sto.ren_loc_ne _ _ _ hty]
 ·exact fun hf=>hfr (Fresh.ren hf x y _)
theorem Holds.appendNil {P:Program}(H:Holds M S w.heap c)(hfix:M.fix y=false)(hpos:0<M.sz y)(tt ty:TypeId)(i:TypeInfo)(z:Value)(ht:P.underlying tt=some (.slice (M.ty y)))(hi:P.info? (M.ty y)=some i)(hz:i.zero=some z)(hsize:i.size=M.sz y)(hzs:z.cells.size=M.sz y)(ad:Addr)(m mc:Nat)(news:List Value)(hl:news.length=m*M.sz y)(hnews:∀j u,news[j]?=some u→w.cell? (ad.add j)=some u)(h1:∀u∈news,u.oneCell'=true)(hbytes:m*i.bytes≤140737488355328)(h63:m≤9223372036854775807):
  ∃S' w',(Builtin.append_ #[tt,tt] ty #[.slice none 0 0,.slice (some ad) m mc]).run P w=.ok ((S'.loc y).val m) w'∧Holds M S' w'.heap (upd c y news)∧
   Evn S w S' w'∧(∀t,t≠y→S'.loc t=S.loc t)∧(Fresh S w→Fresh S' w')∧(∀b,b<w.heap.size→w'.heap[b]?=w.heap[b]?)∧(∀b,b<w.heap.size→S'.own b=S.own b):=by
 have H1:=H.nilled y hpos hfix;obtain⟨S',w',hr,hH,hk,hloc,hfr,hu1,hu2⟩:=H1.append (P:=P) (t:=y) (cs:=[]) (upd_same _ _ _) hfix tt ty i z ht hi hz hsize hzs 0 (by simp) ad m mc news hl hnews h1 (by simpa using hbytes) (by simpa using h63);refine⟨S',w',?_,?_,(Kp.nilled S w y).trans hk,fun t hty=>by rw[hloc t hty,Sto.put_loc_ne S _ hty],fun hf=>hfr fun b hb=>by simpa [Sto.put,SL.none] using hf b hb,fun b hb=>hu1 b hb (.inl (by rw[Sto.put_loc];rfl)),fun b hb=>(hu2 b hb).trans (by simp[Sto.put,SL.none])⟩
 ·unfold Sto.sv at hr
  rw[Sto.put_loc] at hr
  simpa [SL.val,SL.none,SL.addr] using hr
 ·refine hH.congr fun t cs' ht'=>?_
  by_cases hty:t=y
  ·subst hty
   rw[upd_same] at ht' ⊢
   simpa using ht'
  ·rw[upd_other _ _ hty] at ht' ⊢
   rw[upd_other _ _ hty];exact ht'
theorem run_storeN {P:Program}:∀(vs:List Value) (i:Nat) (cs:List Value) (j:Nat) (w:World) (c:Cont τ),Holds M S w.heap c→c t=some cs→j+i+vs.length≤cs.length→(∀v∈vs,v.oneCell'=true)→
  ∃w',(storeCells ⟨(S.loc t).b,(S.loc t).off+j,none⟩ vs i).run P w=.ok () w'∧Holds M S w'.heap (upd c t (cs.take (j+i)++vs++cs.drop (j+i+vs.length)))∧Evn S w S w'∧w'.heap.size=w.heap.size∧∀b,b≠(S.loc t).b→w'.heap[b]?=w.heap[b]?
 |[],i,cs,j,w,c,H,hc,hl,_=>by
  refine⟨w,by simp[storeCells],?_,Evn.refl S w,rfl,fun _ _=>rfl⟩
  refine H.congr fun t' cs' ht'=>?_
  by_cases he:t'=t
  ·subst he
   rw[upd_same] at ht';rw[hc]
   simpa using ht'
  ·rwa [upd_other _ _ he] at ht'
 |v::vs,i,cs,j,w,c,H,hc,hl,h1=>by
  have hj:j+i<cs.length:=by simp at hl;omega
  have Ht:=H t cs hc;have hcell:=Ht.cell (j:=j+i) (v:=cs[j+i]) (by simp[hj]) rfl;have hfz:=Ht.frozen (Ht.notNil hj) ((S.loc t).off+(j+i)) rfl
  have hadd:(⟨(S.loc t).b,(S.loc t).off+j,none⟩:Addr).add i=⟨(S.loc t).b,(S.loc t).off+(j+i),none⟩:=by rw[Addr.add_lit];simp[Nat.add_assoc]
  have hst:(store ((⟨(S.loc t).b,(S.loc t).off+j,none⟩:Addr).add i) v).run P w=.ok () (w.setCell ⟨(S.loc t).b,(S.loc t).off+(j+i),none⟩ v):=by
   rw[hadd,run_store P w _ v _ (h1 v (by simp))];simp[hcell,hfz]
  have H1:=H.store hc hj v;have k1:=Kp.store H hc hj v ((S.loc t).off+(j+i));obtain⟨w',hr,H2,k2,hs,hb⟩:=run_storeN (P:=P) vs (i+1) (cs.set (j+i) v) j _ _ H1 (upd_same _ _ _) (by simp at hl ⊢;omega) (fun u hu=>h1 u (by simp[hu]));refine⟨w',?_,?_,k1.trans k2,by rw[hs];simp,fun b hne=>(hb b hne).trans (heap_setCell_ne w _ _ v hne)⟩
  ·simp only[storeCells,Sem.run_bind,hst,Result.andThen_ok,hr]
  ·refine H2.congr fun t' cs' ht'=>?_
   by_cases he:t'=t
   ·subst he
    rw[upd_same] at ht' ⊢;rw[←ht']
    congr 1
    have e1:(cs.set (j+i) v).take (j+(i+1))=cs.take (j+i)++[v]:=by
     rw[show j+(i+1)=(j+i)+1 from by omega,List.take_add_one];simp[List.getElem?_set,hj,List.take_set_of_le]
    have e2:(cs.set (j+i) v).drop (j+(i+1)+vs.length)=cs.drop (j+i+(v::vs).length):=by
     rw[List.drop_set_of_lt (by omega)]
     congr 1
     simp
     omega
    rw[e1,e2]
    simp
   ·rw[upd_other _ _ he] at ht' ⊢
    rw[upd_other _ _ he];exact ht'
end
end Go.Beat
end
section
namespace Go.Beat
open Go
structure LObj (τ:Type) where
  ty:TypeId
  sz:Nat
  fix:Bool
  o:Option (LO τ)
structure LkAt {τ:Type} (S:Sto (Tg τ)) (w:World) (b:Nat) (i:Int) (r:AL τ) (mp:τ):Prop where
 loc:(S.loc (.m mp)).b=b
 at_:∃es cl,w.heap[b]?=some (Obj.map es cl)∧(∀e∈es.toList,∃k:Int,e.key=.int .i64 k)∧(∀e∈es.toList,e.key=.int .i64 i→e.val=encL S r)∧((∀e∈es.toList,e.key≠.int .i64 i)→encL S r=.slice none 0 0)
structure Md where
  σ:Type
  τ:Type
  M:Meta τ
  kind:τ→Nat
  isro:τ→Bool
  exk:τ→Bool
  c:σ→τ→Option (List (AL τ))
  ro:σ→τ→Option (List (AL τ))
  ex:σ→Sto (Tg τ)→World→Prop
  rd:{R:Type}→σ→τ→Nat→Nat→Nat→(List (AL τ)→Option R)→Option R
  ln:{R:Type}→σ→τ→(Nat→Option R)→Option R
  gt:{R:Type}→σ→τ→(LO τ→Option R)→Option R
  wr:{R:Type}→σ→τ→Nat→Nat→List (AL τ)→(σ→Option R)→Option R
  hm:τ→Nat→Option τ
  hs:{R:Type}→σ→τ→Nat→τ→LO τ→Nat→(σ→Option R)→Option R
  em:τ→LO τ
  deq:DecidableEq τ
  live:σ→τ→Bool
  mp:τ
  lk:{R:Type}→σ→Value→Int→(AL τ→Option R)→Option R
  larg:τ
  ls:{R:Type}→σ→LO τ→(σ→Option R)→Option R
  lu:σ→σ→σ
def mcell (D:Md):AL D.τ→Prop
 |.v _=>True
 |.p (.m z) _ _ _=>D.M.fix z=true
 |.sl (.m _) _ _ _=>True
 |_=>False
def rcell (D:Md):AL D.τ→Prop
 |.v _=>True
 |.sl (.m z) _ _ _=>D.isro z=true
 |_=>False
open Classical in
structure MdOk (D:Md):Prop where
 cell:∀st t cs,D.c st t=some cs→∀a∈cs,mcell D a
 home:∀(st:D.σ) (t:D.τ) (cs:List (AL D.τ)) (i k s n:Nat) (z:D.τ),D.c st t=some cs→cs[i]?=some (.sl (.m z) k s n)→D.isro z=false→D.hm t i=some z
 inj:∀t i t' i' z,D.hm t i=some z→D.hm t' i'=some z→t=t'∧i=i'
 rocell:∀st t cs,D.ro st t=some cs→∀a∈cs,rcell D a
 rois:∀st t cs,D.ro st t=some cs→D.isro t=true
 cis:∀st t cs,D.c st t=some cs→D.isro t=false
 rd:∀{R:Type} (st:D.σ) (t:D.τ) (k f n:Nat) (κ:List (AL D.τ)→Option R) (x:R),D.rd st t k f n κ=some x→
  ∃cs as,(D.c st t=some cs∨D.ro st t=some cs)∧as.length=n∧(∀j a,as[j]?=some a→cs[k*D.M.sz t+f+j]?=some a)∧κ as=some x
 ln:∀{R:Type} (st:D.σ) (t:D.τ) (κ:Nat→Option R) (x:R),D.ln st t κ=some x→∃cs n,(D.c st t=some cs∨D.ro st t=some cs)∧cs.length=n*D.M.sz t∧κ n=some x
 gt:∀{R:Type} (st:D.σ) (t:D.τ) (κ:LO D.τ→Option R) (x:R),D.gt st t κ=some x→∃o,(D.c st t=some o.flat∨D.ro st t=some o.flat)∧o.fits (D.M.sz t)=true∧κ o=some x
 wr:∀{R:Type} (st:D.σ) (t:D.τ) (k f:Nat) (as:List (AL D.τ)) (κ:D.σ→Option R) (x:R),D.wr st t k f as κ=some x→
  ∃st' cs,D.c st t=some cs∧κ st'=some x∧as.all isV=true∧k*D.M.sz t+f+as.length≤cs.length∧(∀u,D.c st' u=if u=t then some (setN cs (k*D.M.sz t+f) as) else D.c st u)∧D.ro st'=D.ro st∧∀S w,D.ex st S w→D.ex st' S w
 hs:∀{R:Type} (st:D.σ) (t:D.τ) (i:Nat) (z:D.τ) (o:LO D.τ) (n:Nat) (κ:D.σ→Option R) (x:R),D.hs st t i z o n κ=some x→D.hm t i=some z→
  ∃st' cs,D.c st t=some cs∧κ st'=some x∧i<cs.length∧(∀u,D.c st' u=if u=z then some o.flat else if u=t then some (cs.set i (.sl (.m z) 0 (D.M.sz z) n)) else D.c st u)∧D.ro st'=D.ro st∧∀S w,D.ex st S w→D.ex st' S w
 lk:∀{R:Type} (st:D.σ) (v:Value) (i:Int) (κ:AL D.τ→Option R) (x:R),D.lk st v i κ=some x→∃b r,v=.map (some b)∧κ r=some x∧∀S w,D.ex st S w→LkAt S w b i r D.mp
 larg:D.isro D.larg=true∧D.exk D.larg=false∧D.M.fix D.larg=false∧(∀st t cs,D.c st t=some cs→∀k s n,AL.sl (.m D.larg) k s n∉cs)∧(∀st t cs,D.ro st t=some cs→∀k s n,AL.sl (.m D.larg) k s n∉cs)
 ls:∀{R:Type} (st:D.σ) (o:LO D.τ) (κ:D.σ→Option R) (x:R),D.ls st o κ=some x→∃st1,κ st1=some x∧D.c st1=D.c st∧(∀u,D.ro st1 u=if u=D.larg then some o.flat else D.ro st u)∧(∀S w,D.ex st S w→D.ex st1 S w)∧∀t,D.live st1 t=D.live st t
 lu:∀a b:D.σ,D.c (D.lu a b)=D.c b∧(∀u,D.ro (D.lu a b) u=if u=D.larg then D.ro a u else D.ro b u)∧∀S w,D.ex b S w→D.ex (D.lu a b) S w
 hmk:∀t i z,D.hm t i=some z→D.M.fix t=true∧D.M.fix z=false∧D.isro z=false∧D.exk z=false∧z≠t∧0<D.M.sz z∧D.M.sz t=1
 live:∀st t,D.live st t=true→D.M.fix t=true∧(D.c st t).isSome=true
 em:∀t i z,D.hm t i=some z→(D.em z).flat=[]∧(D.em z).fits (D.M.sz z)=true
 ex:∀st S w S' w',D.ex st S w→Evn S w S' w'→(∀t,D.exk t=true→S'.loc (.m t)=S.loc (.m t))→D.ex st S' w'
 exd:∀st S w S',D.ex st S w→(∀b,(∀cells e f,w.heap[b]?≠some (.cells cells e f))→(S'.own b=none↔S.own b=none))→(∀t,D.exk t=true→S'.loc (.m t)=S.loc (.m t))→D.ex st S' w
section
variable {D:Md}
def metaA (D:Md)(L:List (LObj D.τ)):Meta (Tg D.τ) where
 ty|.m t=>D.M.ty t|.loc j=>match L[j]? with|some o=>o.ty|none=>0
 sz|.m t=>D.M.sz t|.loc j=>match L[j]? with|some o=>o.sz|none=>1
 fix|.m t=>D.M.fix t|.loc j=>match L[j]? with|some o=>o.fix|none=>false
open Classical in
/-- What all things hold. -/
noncomputable def contA (st:D.σ) (dk:List D.τ) (L:List (LObj D.τ)):Tg D.τ→Option (List (AL D.τ))
 |.m t=>if t∈dk then none else D.c st t
 |.loc j=>match L[j]? with
  |some ob=>ob.o.map LO.flat
  |none=>none
def encC {τ:Type}(S:Sto (Tg τ))(c:Tg τ→Option (List (AL τ))):Cont (Tg τ):=fun t=>(c t).map (List.map (encL S))
structure RoAt {τ:Type} (S:Sto (Tg τ)) (w:World) (t:τ) (sz:Nat) (cs:List (AL τ)):Prop where
 cell:∀(j:Nat) (a:AL τ),cs[j]?=some a→w.cell? ⟨(S.loc (.m t)).b,(S.loc (.m t)).off+j,none⟩=some (encL S a)
 own:cs≠[]→S.own (S.loc (.m t)).b=none∧(S.loc (.m t)).nil=false
 cap:cs.length≤(S.loc (.m t)).cap*sz
structure Base (D:Md) where
  S:Sto (Tg D.τ)
  w:World
  st:D.σ
  pk:List Nat
  gk:List Nat
structure Rel (B:Base D) (st:D.σ) (L:List (LObj D.τ)) (dk:List D.τ) (S:Sto (Tg D.τ)) (w:World):Prop where
  H:Holds (metaA D L) S w.heap (encC S (contA st dk L))
  fresh:Fresh S w
  kp:Kp B.S B.w S w
  ro:∀t cs,D.ro st t=some cs→RoAt S w t (D.M.sz t) cs
  ex:D.ex st S w
  stab:∀t,(D.M.fix t=true∧(D.c B.st t).isSome=true)∨D.isro t=true→S.loc (.m t)=B.S.loc (.m t)
  mono:∀t,D.M.fix t=true→(D.c B.st t).isSome=true→(D.c st t).isSome=true
  rob:D.ro st=D.ro B.st
  turn:∀t,B.pk.contains (D.kind t)=false→(B.gk.contains (D.kind t)=true→D.M.fix t=true∧(D.c B.st t).isSome=true)→S.loc (.m t)=B.S.loc (.m t)
theorem RoAt.kp {τ:Type}{S S':Sto (Tg τ)}{w w':World}{t:τ}{sz:Nat}{cs:List (AL τ)}(r:RoAt S w t sz cs)(k:Kp S w S' w')(hl:S'.loc (.m t)=S.loc (.m t))(he:∀a∈cs,encL S' a=encL S a):RoAt S' w' t sz cs:=by
 have hlt:∀(j:Nat) (a:AL τ),cs[j]?=some a→(S.loc (.m t)).b<w.heap.size:=fun j a ha=>World.block_lt_of_cell? w _ (r.cell j a ha)
 have hne:∀(j:Nat) (a:AL τ),cs[j]?=some a→cs≠[]:=fun j a ha h=>by rw[h] at ha;cases ha
 refine⟨fun j a ha=>?_,fun h=>?_,by rw[hl];exact r.cap⟩
 ·have hb:=k.keep _ (hlt j a ha) (r.own (hne j a ha)).1
  have hc:=r.cell j a ha;rw[hl,he a (List.mem_of_getElem? ha)];unfold World.cell? at hc ⊢;rw[hb];exact hc
 ·obtain⟨a,l,rfl⟩:=List.exists_cons_of_ne_nil h
  rw[hl];exact⟨(k.own _ (hlt 0 a rfl)).2 (r.own h).1,(r.own h).2⟩
variable {B:Base D} {st st':D.σ} {L L':List (LObj D.τ)} {dk dk':List D.τ} {S S':Sto (Tg D.τ)} {w w':World}
theorem Rel.same (R:Rel B st L dk S w)(hs:SameH w w')(O:MdOk D):Rel B st L dk S w':=by
 have k:Evn S w S w':=⟨⟨hs.os,hs.tape,hs.output,by rw[hs.heap];exact Nat.le_refl _,fun _ _=>Iff.rfl,fun _ _ _=>by rw[hs.heap]⟩,fun _ _ _ h=>by rw[hs.heap];exact h⟩;exact⟨by rw[hs.heap];exact R.H,by unfold Fresh;rw[hs.heap];exact R.fresh,R.kp.same hs,fun t cs h=>(R.ro t cs h).kp k.toKp rfl fun _ _=>rfl,O.ex _ _ _ _ _ R.ex k fun _ _=>rfl,R.stab,R.mono,R.rob,R.turn⟩
theorem Rel.step (R:Rel B st L dk S w)(O:MdOk D)(k:Evn S w S' w')(hH:Holds (metaA D L') S' w'.heap (encC S' (contA st' dk' L')))(hf:Fresh S' w')(hl:∀t,(D.M.fix t=true∨D.isro t=true∨D.exk t=true∨B.pk.contains (D.kind t)=false)→S'.loc (.m t)=S.loc (.m t))(hro:D.ro st'=D.ro st)(hex:∀S w,D.ex st S w→D.ex st' S w)(hm:∀t,D.M.fix t=true→(D.c st t).isSome=true→(D.c st' t).isSome=true):Rel B st' L' dk' S' w':=by
 refine⟨hH,hf,R.kp.trans k.toKp,fun t cs h=>?_,hex _ _ (O.ex _ _ _ _ _ R.ex k fun t ht=>hl t (.inr (.inr (.inl ht)))),fun t ht=>?_,fun t h1 h2=>hm t h1 (R.mono t h1 h2),hro.trans R.rob,fun t h1 h2=>(hl t (.inr (.inr (.inr h1)))).trans (R.turn t h1 h2)⟩
 ·rw[hro] at h
  refine (R.ro t cs h).kp k.toKp (hl t (.inr (.inl (O.rois _ _ _ h)))) fun a ha=>?_
  have:=O.rocell _ _ _ h a ha
  cases a with
  |v x=>rfl
  |p t k sz f=>cases t<;>exact absurd this (by simp[rcell])
  |sl t k sz n=>
   cases t with
   |m z=>simp only[encL,hl z (.inr (.inl this))]
   |loc j=>exact absurd this (by simp[rcell])
 ·rw[hl t (ht.imp And.left fun h=>.inl h),R.stab t ht]
def LObj.has {τ:Type}(q:Tg τ→Bool)(ob:LObj τ):Bool:=match ob.o with
 |some (.cells xs)=>xs.any (·.has q)
 |_=>false
def isLoc {τ:Type}(j:Nat):Tg τ→Bool
 |.loc i=>Nat.beq i j
 |.m _=>false
theorem flat_enc {τ:Type}{S S':Sto (Tg τ)}{q:Tg τ→Bool}(hl:∀t,q t=false→S'.loc t=S.loc t){ob:LObj τ}(h:ob.has q=false){o:LO τ}(ho:ob.o=some o):o.flat.map (encL S')=o.flat.map (encL S):=by
 cases o with
 |ints k xs=>simp[LO.flat,encL,Function.comp_def]
 |rows ks xs=>
  simp only[LO.flat]
  refine List.map_congr_left fun a ha=>?_
  simp only[List.mem_flatMap,rowCells,List.mem_map] at ha;obtain⟨r,_,p,_,rfl⟩:=ha;rfl
 |cells xs=>
  refine encLs_eq hl ?_
  simp only[LObj.has,ho] at h;exact h
theorem cont_new (O:MdOk D){j:Nat}(hl:∀t,isLoc j t=false→S'.loc t=S.loc t)(hL:L.any (·.has (isLoc j))=false):encC S' (contA st dk L)=encC S (contA st dk L):=by
 funext t
 unfold encC
 cases hc:contA st dk L t with
 |none=>rfl
 |some cs=>
  simp only[Option.map_some,Option.some.injEq]
  cases t with
  |m t=>
   by_cases hd:t∈dk
   ·simp[contA,hd] at hc
   ·simp only[contA,hd,if_false] at hc
    refine List.map_congr_left fun a ha=>encL_eq hl ?_
    have:=O.cell _ _ _ hc a ha
    cases a with
    |v x=>rfl
    |p t k sz f=>cases t<;>simp_all [mcell,AL.has,isLoc]
    |sl t k sz n=>cases t<;>simp_all [mcell,AL.has,isLoc]
  |loc i=>
   simp only[contA] at hc
   split at hc
   ·rename_i ob hob
    obtain⟨o,ho,rfl⟩:=Option.map_eq_some_iff.1 hc
    refine flat_enc hl ?_ ho
    simp only[List.any_eq_false] at hL;have:=hL ob (List.mem_of_getElem? hob)
    simpa using this
   ·cases hc
open Classical in
/-- The state with one object more. -/
theorem cont_push (ob:LObj D.τ) (o:LO D.τ) (ho:ob.o=some o) (c':Cont (Tg D.τ)) (hc:∀t,c' t=if t=.loc L.length then some (o.flat.map (encL S')) else encC S' (contA st dk L) t):encC S' (contA st dk (L++[ob]))=c':=by
 funext t
 rw[hc];unfold encC
 cases t with
 |m t=>simp[contA]
 |loc i=>
  by_cases hi:i=L.length
  ·subst hi
   simp[contA,ho]
  ·rw[if_neg (by simpa using hi)]
   simp only[contA]
   rcases Nat.lt_or_gt_of_ne hi with h|h
   ·rw[List.getElem?_append_left h]
   ·rw[List.getElem?_eq_none (by simp;omega),List.getElem?_eq_none (by omega)]
theorem meta_push (H:Holds (metaA D L) S w.heap (encC S (contA st dk L)))(ob:LObj D.τ):Holds (metaA D (L++[ob])) S w.heap (encC S (contA st dk L)):=by
 refine H.mta fun t cs ht=>?_
 cases t with
 |m t=>exact⟨rfl,rfl,rfl⟩
 |loc i=>
  have hi:i<L.length:=by
   simp only[encC,contA] at ht
   cases hL:L[i]? with
   |none=>simp[hL] at ht
   |some ob=>exact (List.getElem?_eq_some_iff.1 hL).1
  simp only[metaA,List.getElem?_append_left hi];exact⟨trivial,trivial,trivial⟩
end
end Go.Beat
end
section
namespace Go.Beat
open Go
section
variable {D:Md} {B:Base D} {st st':D.σ} {L L':List (LObj D.τ)} {dk dk':List D.τ} {S S':Sto (Tg D.τ)} {w w':World} {P:Program}
theorem setN_eq {τ:Type}:∀(as cs:List (AL τ)) (i:Nat),i+as.length≤cs.length→setN cs i as=cs.take i++as++cs.drop (i+as.length)
 |[],cs,i,_=>by simp[setN]
 |a::as,cs,i,h=>by
  simp only[List.length_cons] at h;rw[setN,setN_eq as _ _ (by simp;omega)]
  have e1:(cs.set i a).take (i+1)=cs.take i++[a]:=by
   rw[List.take_add_one];simp[List.getElem?_set,show i<cs.length from by omega,List.take_set_of_le]
  have e2:(cs.set i a).drop (i+1+as.length)=cs.drop (i+(a::as).length):=by
   rw[List.drop_set_of_lt (by omega)]
   congr 1
   simp
   omega
  rw[e1,e2]
  simp
theorem oneC_enc {τ:Type}(S:Sto (Tg τ)){as:List (AL τ)}(h:as.all oneC=true):∀v∈as.map (encL S),v.oneCell'=true:=by
 intro v hv;obtain⟨a,ha,rfl⟩:=List.mem_map.1 hv;have:=List.all_eq_true.1 h a ha
 cases a with
 |v x=>exact this
 |p t k sz f=>rfl
 |sl t k sz n=>rfl
theorem isV_has {τ:Type}(q:Tg τ→Bool){as:List (AL τ)}(h:as.all isV=true):as.any (·.has q)=false:=by
 rw[List.any_eq_false];intro a ha;have:=List.all_eq_true.1 h a ha
 cases a with
 |v x=>simp[AL.has]
 |p t k sz f=>cases this
 |sl t k sz n=>cases this
theorem locne {j:Nat}{t:Tg D.τ}(h:isLoc j t=false):t≠.loc j:=by
 intro e;subst e;simp[isLoc] at h
theorem Rel.new (R:Rel B st L dk S w)(O:MdOk D)(ob:LObj D.τ)(o:LO D.τ)(ho:ob.o=some o)(hf:o.fits ob.sz=true)(hcap:o.len ob.sz≤9223372036854775807)(hpos:0<ob.sz)(hL:L.any (·.has (isLoc L.length))=false)(hob:ob.has (isLoc L.length)=false):
  Rel B st (L++[ob]) dk (S.put (.loc L.length) ⟨w.heap.size,0,o.len ob.sz,false,none⟩) (w.alloc (.cells (o.flat.map (encL S)).toArray ob.ty))∧∀t,isLoc L.length t=false→(S.put (.loc L.length) ⟨w.heap.size,0,o.len ob.sz,false,none⟩).loc t=S.loc t:=by
 have hl:∀t,isLoc L.length t=false→(S.put (.loc L.length) ⟨w.heap.size,0,o.len ob.sz,false,none⟩).loc t=S.loc t:=fun t ht=>Sto.put_loc_ne S _ (locne ht)
 refine⟨?_,hl⟩;have H1:=meta_push R.H ob
 have hty:(metaA D (L++[ob])).ty (.loc L.length)=ob.ty:=by simp[metaA]
 have hsz:(metaA D (L++[ob])).sz (.loc L.length)=ob.sz:=by simp[metaA]
 have H2:=H1.made (.loc L.length) (o.flat.map (encL S)) (o.len ob.sz) (by rw[hsz,List.length_map,LO.flat_len hf]) hcap (by rw[hsz];exact hpos);rw[hty] at H2
 refine R.step O (Kp.made S w _ _ _ 0) ?_ (fun b hb=>?_) (fun t _=>hl _ rfl) rfl (fun _ _ h=>h) fun _ _ h=>h
 ·refine H2.eq (cont_push ob o ho _ fun t=>?_)
  rw[upd_apply]
  by_cases ht:t=.loc L.length
  ·subst ht
   simp only[if_true];rw[flat_enc hl hob ho]
  ·rw[if_neg ht,if_neg ht]
   exact (congrFun (cont_new O hl hL) t).symm
 ·have hb':w.heap.size<b:=by have h1:=hb;simp at h1;omega
  rw[Sto.put_own S _ _ (by simp;omega)];exact R.fresh b (by omega)
theorem Rel.cell (R:Rel B st L dk S w){t:Tg D.τ}{cs:List (AL D.τ)}(hc:contA st dk L t=some cs){i:Nat}{a:AL D.τ}(ha:cs[i]?=some a):w.cell? ⟨(S.loc t).b,(S.loc t).off+i,none⟩=some (encL S a):=by
 refine (R.H t (cs.map (encL S)) (by simp[encC,hc])).cell ?_ rfl
 simp[ha]
theorem Rel.store (R:Rel B st L dk S w)(O:MdOk D){t:Tg D.τ}{cs:List (AL D.τ)}(hc:contA st dk L t=some cs)(i:Nat)(as:List (AL D.τ))(hv:as.all oneC=true)(hi:i+as.length≤cs.length)(hcont:∀u,u≠t→contA st' dk L' u=contA st dk L u)(hct:contA st' dk L' t=some (setN cs i as))(hmeta:metaA D L'=metaA D L)(hro:D.ro st'=D.ro st)(hex:∀S w,D.ex st S w→D.ex st' S w)(hm:∀t,D.M.fix t=true→(D.c st t).isSome=true→(D.c st' t).isSome=true):
  ∃w',(storeCells ⟨(S.loc t).b,(S.loc t).off+i,none⟩ (as.map (encL S)) 0).run P w=.ok () w'∧Rel B st' L' dk S w'∧(w'.heap.size=w.heap.size∧MapsStay w w')∧∀b,b≠(S.loc t).b→w'.heap[b]?=w.heap[b]?:=by
 obtain⟨w',hr,H1,k,hs,hblk⟩:=run_storeN (P:=P) (t:=t) (as.map (encL S)) 0 (cs.map (encL S)) i w _ R.H (by simp[encC,hc]) (by simpa using hi) (oneC_enc S hv);refine⟨w',hr,R.step O k ?_ (fun b hb=>R.fresh b (by rw[←hs];exact hb)) (fun _ _=>rfl) hro hex hm,⟨hs,k.nc⟩,hblk⟩;rw[hmeta]
 refine H1.eq ?_
 funext u
 rw[upd_apply]
 by_cases hu:u=t
 ·subst hu
  rw[if_pos rfl];simp only[encC,hct,Option.map_some];rw[setN_eq as cs i hi];simp[List.map_take,List.map_drop]
 ·rw[if_neg hu]
  simp only[encC,hcont u hu]
theorem Rel.wrM (R:Rel B st L dk S w)(O:MdOk D){X:Type}{t:D.τ}(hd:t∉dk){k f:Nat}{as:List (AL D.τ)}{κ:D.σ→Option X}{x:X}(h:D.wr st t k f as κ=some x):
  ∃st',κ st'=some x∧as.all isV=true∧∃w',(storeCells ⟨(S.loc (.m t)).b,(S.loc (.m t)).off+(k*D.M.sz t+f),none⟩ (as.map (encL S)) 0).run P w=.ok () w'∧Rel B st' L dk S w'∧(w'.heap.size=w.heap.size∧MapsStay w w')∧∀b,b≠(S.loc (.m t)).b→w'.heap[b]?=w.heap[b]?:=by
 obtain⟨st',cs,h1,h2,h3,h4,h5,h6,h7⟩:=O.wr _ _ _ _ _ _ _ h
 have e1:∀u,u≠.m t→contA st' dk L u=contA st dk L u:=fun u hu=>by
  cases u with
  |m u=>
   have hne:u≠t:=fun e=>hu (by rw[e])
   simp[contA,h5,hne]
  |loc j=>rfl
 have e2:∀u,D.M.fix u=true→(D.c st u).isSome=true→(D.c st' u).isSome=true:=fun u _ hu=>by
  rw[h5]
  split
  ·rfl
  ·exact hu
 obtain⟨w',hr,hR,hsb⟩:=R.store (P:=P) O (st':=st') (L':=L) (t:=.m t) (cs:=cs) (by simp[contA,hd,h1]) (k*D.M.sz t+f) as (isV_one h3) h4 e1 (by simp[contA,hd,h5]) rfl h6 h7 e2;exact⟨st',h2,h3,w',hr,hR,hsb⟩
theorem meta_set {j:Nat}{ob:LObj D.τ}(hj:L[j]?=some ob)(o':Option (LO D.τ)):metaA D (L.set j {ob with o:=o'})=metaA D L:=by
 have hlt:=(List.getElem?_eq_some_iff.1 hj).1
 have key:∀i,i=j∨(L.set j {ob with o:=o'})[i]?=L[i]?:=fun i=>by
  by_cases h:i=j
  ·exact .inl h
  ·exact .inr (List.getElem?_set_ne (fun e=>h e.symm))
 unfold metaA
 congr 1<;>funext t<;>cases t with
 |m t=>rfl
 |loc i=>
  rcases key i with rfl|h
  ·simp only[List.getElem?_set_self hlt,hj]
  ·simp only[h]
theorem Rel.wrL (R:Rel B st L dk S w)(O:MdOk D){X:Type}{j:Nat}{ob:LObj D.τ}(hj:L[j]?=some ob){o:LO D.τ}(ho:ob.o=some o)(hf:o.fits ob.sz=true){k f:Nat}{as:List (AL D.τ)}{κ:LO D.τ→Option X}{x:X}(h:o.wr ob.sz k f as κ=some x):
  ∃o',κ o'=some x∧o'.fits ob.sz=true∧as.all oneC=true∧∃w',(storeCells ⟨(S.loc (.loc j)).b,(S.loc (.loc j)).off+(k*ob.sz+f),none⟩ (as.map (encL S)) 0).run P w=.ok () w'∧Rel B st (L.set j {ob with o:=some o'}) dk S w':=by
 obtain⟨o',h1,h2,_,h4,h5,h6⟩:=LO.wr_ok hf h;have hlt:=(List.getElem?_eq_some_iff.1 hj).1
 have e1:∀u,u≠.loc j→contA st dk (L.set j {ob with o:=some o'}) u=contA st dk L u:=fun u hu=>by
  cases u with
  |m u=>rfl
  |loc i=>
   have hij:i≠j:=fun e=>hu (by rw[e])
   simp only[contA,List.getElem?_set_ne (Ne.symm hij)]
 obtain⟨w',hr,hR,_⟩:=R.store (P:=P) O (st':=st) (L':=L.set j {ob with o:=some o'}) (t:=.loc j) (cs:=o.flat) (by simp[contA,hj,ho]) (k*ob.sz+f) as h5 h4 e1 (by simp[contA,hlt,h6]) (meta_set hj _) rfl (fun _ _ h=>h) (fun _ _ h=>h);exact⟨o',h1,h2,h5,w',hr,hR⟩
theorem meta_of_push {L1:List (LObj D.τ)}(hlen:L1.length=L.length)(hmeta:metaA D L1=metaA D L)(nb:LObj D.τ):metaA D (L1++[nb])=metaA D (L++[nb]):=by
 have key:∀i,(i<L.length∧(L1++[nb])[i]?=L1[i]?∧(L++[nb])[i]?=L[i]?)∨(L1++[nb])[i]?=(L++[nb])[i]?:=fun i=>by
  rcases Nat.lt_or_ge i L.length with h|h
  ·exact .inl ⟨h,List.getElem?_append_left (by omega),List.getElem?_append_left h⟩
  ·refine .inr ?_
   rw[List.getElem?_append_right (by omega),List.getElem?_append_right h,hlen]
 unfold metaA at hmeta ⊢;simp only[Meta.mk.injEq] at hmeta ⊢;obtain⟨h1,h2,h3⟩:=hmeta
 refine⟨?_,?_,?_⟩<;>funext t<;>cases t with
 |m t=>rfl
 |loc i=>
  rcases key i with ⟨_,h5,h6⟩|h5
  ·first
   |(have:=congrFun h1 (.loc i);simpa only[h5,h6] using this)
   |(have:=congrFun h2 (.loc i);simpa only[h5,h6] using this)
   |(have:=congrFun h3 (.loc i);simpa only[h5,h6] using this)
  ·simp only[h5]
theorem Rel.outcome (R:Rel B st L dk S w)(O:MdOk D){L1:List (LObj D.τ)}(hlen:L1.length=L.length)(hmeta:metaA D L1=metaA D L){nb:LObj D.τ}{on:LO D.τ}(hon:nb.o=some on)(hnb:nb.has (isLoc L.length)=false)(hL:L.any (·.has (isLoc L.length))=false){c':Cont (Tg D.τ)}(hH:Holds (metaA D (L++[nb])) S' w'.heap c')(hk:Evn S w S' w')(hloc:∀t,t≠.loc L.length→S'.loc t=S.loc t)(hfr:Fresh S w→Fresh S' w')(hy:c' (.loc L.length)=some (on.flat.map (encL S)))(hx:∀t,t≠.loc L.length→contA st dk' (L1++[nb]) t=none∨(contA st dk' (L1++[nb]) t=contA st dk L t∧c' t=encC S (contA st dk L) t)):
  Rel B st (L1++[nb]) dk' S' w':=by
 have hl:∀t,isLoc L.length t=false→S'.loc t=S.loc t:=fun t ht=>hloc t (locne ht)
 refine R.step O hk ?_ (hfr R.fresh) (fun t _=>hl _ rfl) rfl (fun _ _ h=>h) fun _ _ h=>h
 rw[meta_of_push hlen hmeta nb]
 refine hH.congr fun t cs ht=>?_
 by_cases he:t=.loc L.length
 ·subst he
  rw[hy];simp only[encC,contA] at ht;rw[List.getElem?_append_right (by omega)] at ht;simp only[hlen,Nat.sub_self,List.getElem?_cons_zero,hon,Option.map_some,Option.some.injEq] at ht;rw[←ht,flat_enc hl hnb hon]
 ·rcases hx t he with h1|⟨h1,h2⟩
  ·simp[encC,h1] at ht
  ·rw[h2,←cont_new O hl hL]
   simp only[encC,h1] at ht ⊢;exact ht
theorem Rel.append (R:Rel B st L dk S w)(O:MdOk D){x:Tg D.τ}{cs:List (AL D.τ)}(hc:contA st dk L x=some cs)(hxl:x≠.loc L.length)(hfix:(metaA D L).fix x=false)(k n:Nat)(hkn:(k+n)*(metaA D L).sz x≤cs.length){L1:List (LObj D.τ)}(hlen:L1.length=L.length)(hmeta:metaA D L1=metaA D L){nb:LObj D.τ}{on:LO D.τ}(hon:nb.o=some on)(hnb:nb.has (isLoc L.length)=false)(hL:L.any (·.has (isLoc L.length))=false)(hty:nb.ty=(metaA D L).ty x)(hsz:nb.sz=(metaA D L).sz x)(hnf:nb.fix=false)(src:List (AL D.τ))(hflat:on.flat=(cs.drop (k*nb.sz)).take (n*nb.sz)++src)(hdk:∀t,t≠.loc L.length→t≠x→contA st dk' (L1++[nb]) t=contA st dk L t)(hdx:contA st dk' (L1++[nb]) x=none)(tt ty:TypeId)(i:TypeInfo)(z:Value)(ht:P.underlying tt=some (.slice nb.ty))(hi:P.info? nb.ty=some i)(hz:i.zero=some z)(hsize:i.size=nb.sz)(hzs:z.cells.size=nb.sz)(ad:Addr)(m mc:Nat)(hl:src.length=m*nb.sz)(hnews:∀j u,(src.map (encL S))[j]?=some u→w.cell? (ad.add j)=some u)(h1:∀u∈src.map (encL S),u.oneCell'=true)(hbytes:(n+m)*i.bytes≤140737488355328)(h63:n+m≤9223372036854775807):
  ∃S' w',(Builtin.append_ #[tt,tt] ty #[encL S (.sl x k nb.sz n),.slice (some ad) m mc]).run P w=.ok (encL S' (.sl (.loc L.length) 0 nb.sz (n+m))) w'∧Rel B st (L1++[nb]) dk' S' w'∧(∀t,isLoc L.length t=false→S'.loc t=S.loc t)∧(w.heap.size≤w'.heap.size∧MapsStay w w')∧∀b,b<w.heap.size→S.own b≠some x→w'.heap[b]?=w.heap[b]?∧S'.own b=S.own b:=by
 have H1:=meta_push R.H nb
 have hxm:∀f:Tg D.τ→Prop,True:=fun _=>trivial
 have mx:(metaA D (L++[nb])).ty x=(metaA D L).ty x∧(metaA D (L++[nb])).sz x=(metaA D L).sz x∧(metaA D (L++[nb])).fix x=(metaA D L).fix x:=by
  cases x with
  |m t=>exact⟨rfl,rfl,rfl⟩
  |loc q=>
   have hq:q<L.length:=by
    simp only[contA] at hc
    cases hLq:L[q]? with
    |none=>simp[hLq] at hc
    |some ob=>exact (List.getElem?_eq_some_iff.1 hLq).1
   simp only[metaA,List.getElem?_append_left hq];exact⟨trivial,trivial,trivial⟩
 have my:(metaA D (L++[nb])).ty (.loc L.length)=nb.ty∧(metaA D (L++[nb])).sz (.loc L.length)=nb.sz∧(metaA D (L++[nb])).fix (.loc L.length)=false:=by simp[metaA,hnf]
 obtain⟨S',w',hr,hH,hk,hloc,hfr,hu1,hu2⟩:=H1.appendAt (P:=P) (x:=x) (y:=.loc L.length) (cs:=cs.map (encL S)) (by simp[encC,hc]) hxl ⟨by rw[my.1,mx.1,hty],by rw[my.2.1,mx.2.1,hsz],by rw[my.2.2,mx.2.2,hfix]⟩ (by rw[mx.2.2];exact hfix) k n
  (by rw[mx.2.1,List.length_map];exact hkn) tt ty i z (by rw[mx.1,←hty];exact ht) (by rw[mx.1,←hty];exact hi) hz (by rw[mx.2.1,←hsz];exact hsize) (by rw[mx.2.1,←hsz];exact hzs) ad m mc (src.map (encL S)) (by rw[mx.2.1,←hsz,List.length_map];exact hl) hnews h1 hbytes h63
 have hx:(S.loc x).nil=false→S.own (S.loc x).b=some x:=fun hn=>((R.H x (cs.map (encL S)) (by simp[encC,hc])).blk hn).1
 refine⟨S',w',?_,?_,fun t ht'=>hloc t (locne ht'),⟨hk.size,hk.nc⟩,fun b hb hne=>⟨hu1 b hb ?_,hu2 b hb hne⟩⟩
 rotate_left 2
 ·cases hn:(S.loc x).nil with
  |true=>exact .inl rfl
  |false=>exact .inr fun e=>hne (e ▸ hx hn)
 ·rw[mx.2.1,←hsz] at hr
  rw[show encL S (.sl x k nb.sz n)=((S.loc x).later k nb.sz).val n from rfl,hr];simp[encL,later_zero]
 ·refine R.outcome O hlen hmeta hon hnb hL hH hk hloc hfr ?_ fun t ht'=>?_
  ·simp only[renC,if_true]
   rw[mx.2.1,←hsz,hflat];simp[List.map_take,List.map_drop]
  ·by_cases htx:t=x
   ·subst htx
    exact .inl hdx
   ·exact .inr ⟨hdk t ht' htx,by simp[renC,ht',htx]⟩
theorem Rel.appendNil (R:Rel B st L dk S w)(O:MdOk D){nb:LObj D.τ}{on:LO D.τ}(hon:nb.o=some on)(hnb:nb.has (isLoc L.length)=false)(hL:L.any (·.has (isLoc L.length))=false)(hnf:nb.fix=false)(hpos:0<nb.sz)(tt ty:TypeId)(i:TypeInfo)(z:Value)(ht:P.underlying tt=some (.slice nb.ty))(hi:P.info? nb.ty=some i)(hz:i.zero=some z)(hsize:i.size=nb.sz)(hzs:z.cells.size=nb.sz)(ad:Addr)(m mc:Nat)(hl:on.flat.length=m*nb.sz)(hnews:∀j u,(on.flat.map (encL S))[j]?=some u→w.cell? (ad.add j)=some u)(h1:∀u∈on.flat.map (encL S),u.oneCell'=true)(hbytes:m*i.bytes≤140737488355328)(h63:m≤9223372036854775807):
  ∃S' w',(Builtin.append_ #[tt,tt] ty #[.slice none 0 0,.slice (some ad) m mc]).run P w=.ok (encL S' (.sl (.loc L.length) 0 nb.sz m)) w'∧Rel B st (L++[nb]) dk S' w'∧(∀t,isLoc L.length t=false→S'.loc t=S.loc t)∧(w.heap.size≤w'.heap.size∧MapsStay w w')∧∀b,b<w.heap.size→w'.heap[b]?=w.heap[b]?∧S'.own b=S.own b:=by
 have H1:=meta_push R.H nb
 have my:(metaA D (L++[nb])).ty (.loc L.length)=nb.ty∧(metaA D (L++[nb])).sz (.loc L.length)=nb.sz∧(metaA D (L++[nb])).fix (.loc L.length)=false:=by simp[metaA,hnf]
 obtain⟨S',w',hr,hH,hk,hloc,hfr,hu1,hu2⟩:=H1.appendNil (P:=P) (y:=.loc L.length) my.2.2 (by rw[my.2.1];exact hpos) tt ty i z (by rw[my.1];exact ht) (by rw[my.1];exact hi) hz (by rw[my.2.1];exact hsize) (by rw[my.2.1];exact hzs) ad m mc (on.flat.map (encL S)) (by rw[my.2.1,List.length_map];exact hl) hnews h1 hbytes h63;refine⟨S',w',?_,?_,fun t ht'=>hloc t (locne ht'),⟨hk.size,hk.nc⟩,fun b hb=>⟨hu1 b hb,hu2 b hb⟩⟩
 ·rw[hr]
  simp[encL,later_zero]
 ·refine R.outcome O rfl rfl hon hnb hL hH hk hloc hfr (upd_same _ _ _) fun t ht'=>.inr ⟨?_,upd_other _ _ ht'⟩
  cases t with
  |m t=>rfl
  |loc q=>
   have hq:q≠L.length:=fun e=>ht' (by rw[e])
   simp only[contA]
   rcases Nat.lt_or_gt_of_ne hq with h|h
   ·rw[List.getElem?_append_left h]
   ·rw[List.getElem?_eq_none (by simp;omega),List.getElem?_eq_none (by omega)]
end
end Go.Beat
end
section
namespace Go.Beat
open Go
section
variable {D:Md} {B:Base D} {st st':D.σ} {L L':List (LObj D.τ)} {dk dk':List D.τ} {S S':Sto (Tg D.τ)} {w w':World} {P:Program}
def LObj.free (D:Md)(z:D.τ)(ob:LObj D.τ):Prop:=ob.has (fun|.m u=>Nat.beq (D.kind u) (D.kind z)|.loc _=>false)=false
theorem enc_off {S S':Sto (Tg D.τ)}{z:D.τ}(hl:∀u,u≠.m z→S'.loc u=S.loc u){a:AL D.τ}(hp:∀k s f,a≠.p (.m z) k s f)(hs:∀k s n,a≠.sl (.m z) k s n):encL S' a=encL S a:=by
 cases a with
 |v x=>rfl
 |p t k sz f=>simp only[encL,hl t (fun e=>hp k sz f (by rw[e]))]
 |sl t k sz n=>simp only[encL,hl t (fun e=>hs k sz n (by rw[e]))]
open Classical in
theorem Rel.homeFin (R:Rel B st L dk S w) (O:MdOk D) {t z:D.τ} {i:Nat} (hpk:B.pk.contains (D.kind z)=true) (hz:D.hm t i=some z) (htd:t∉dk) {cs:List (AL D.τ)} (hc:D.c st t=some cs) (hi:i<cs.length) {n:Nat} {os:LO D.τ} (hv:os.flat.all isV=true)
  (hst:∀u,D.c st' u=if u=z then some os.flat else if u=t then some (cs.set i (.sl (.m z) 0 (D.M.sz z) n)) else D.c st u) (hro:D.ro st'=D.ro st) (hex:∀S w,D.ex st S w→D.ex st' S w)
  (hdk:∀u,u≠z→(u∈dk'↔u∈dk)) (hzd:z∉dk') (hlm:metaA D L'=metaA D L) (hL:∀j,contA st dk L' (.loc j)=none∨contA st dk L' (.loc j)=contA st dk L (.loc j)) (hfree:∀ob∈L,ob.free D z)
  {c1:Cont (Tg D.τ)} (H1:Holds (metaA D L) S' w.heap c1) (hl:∀u,u≠.m z→S'.loc u=S.loc u) (hk:Evn S w S' w) (hfr:Fresh S' w)
  (h1z:c1 (.m z)=some (os.flat.map (encL S))) (h1:∀u cs',u≠.m z→contA st' dk' L' u=some cs'→c1 u=encC S (contA st dk L) u) (h1t:c1 (.m t)=encC S (contA st dk L) (.m t)):
  Rel B st' L' dk' S' (w.setCell ⟨(S.loc (.m t)).b,(S.loc (.m t)).off+i,none⟩ (encL S' (.sl (.m z) 0 (D.M.sz z) n)))∧w.cell? ⟨(S.loc (.m t)).b,(S.loc (.m t)).off+i,none⟩=some (encL S (cs[i]))∧w.frozen? ⟨(S.loc (.m t)).b,(S.loc (.m t)).off+i,none⟩=false:=by
 obtain⟨kft,kfz,kroz,kexz,kne,kpos,ksz⟩:=O.hmk _ _ _ hz
 have hct:contA st dk L (.m t)=some cs:=by simp[contA,htd,hc]
 have hc1t:c1 (.m t)=some (cs.map (encL S)):=by rw[h1t];simp[encC,hct]
 have hlt:S'.loc (.m t)=S.loc (.m t):=hl _ (fun e=>kne (by injection e with e;exact e.symm));have H2:=H1.store hc1t (j:=i) (by simpa using hi) (encL S' (.sl (.m z) 0 (D.M.sz z) n));have k2:=Kp.store H1 hc1t (j:=i) (by simpa using hi) (encL S' (.sl (.m z) 0 (D.M.sz z) n)) ((S'.loc (.m t)).off+i);rw[hlt] at H2 k2;refine⟨R.step O (hk.trans k2) ?_ (fun b hb=>hfr b (by simpa using hb)) (fun u hu=>hl _ fun e=>?_) hro hex fun u hu1 hu2=>?_,?_,?_⟩
 ·rw[hlm]
  refine H2.congr fun u cs' hu=>?_
  by_cases huz:u=.m z
  ·subst huz
   rw[upd_other _ _ (fun e=>kne (by injection e)),h1z];simp only[encC,contA,hzd,if_false] at hu;rw[hst,if_pos rfl] at hu;simp only[Option.map_some,Option.some.injEq] at hu;rw[←hu]
   congr 1
   refine (encLs_eq (q:=fun _=>true) (fun _ h=>by cases h) ?_).symm
   rw[List.any_eq_false];intro a ha;have:=List.all_eq_true.1 hv a ha
   cases a<;>simp_all [AL.has,isV]
  ·by_cases hut:u=.m t
   ·subst hut
    rw[upd_same]
    have htd':t∉dk':=fun h=>htd ((hdk t (fun e=>kne e.symm)).1 h)
    simp only[encC,contA,htd',if_false] at hu;rw[hst,if_neg (fun e=>kne e.symm),if_pos rfl] at hu;simp only[Option.map_some,Option.some.injEq] at hu;rw[←hu,List.map_set]
    congr 1
    apply List.ext_getElem?
    intro j
    by_cases hij:i=j
    ·subst hij
     simp[hi]
    ·rw[List.getElem?_set_ne hij,List.getElem?_set_ne hij]
     simp only[List.getElem?_map]
     cases hcj:cs[j]? with
     |none=>rfl
     |some a=>
      simp only[Option.map_some,Option.some.injEq]
      refine (enc_off hl (fun k s f e=>?_) fun k s m e=>?_).symm
      ·have:=O.cell _ _ _ hc a (List.mem_of_getElem? hcj)
       rw[e] at this;simp only[mcell] at this;rw[kfz] at this
       cases this
      ·rw[e] at hcj
       have:=O.home _ _ _ _ _ _ _ _ hc hcj kroz;exact hij (O.inj _ _ _ _ _ hz this).2
   ·rw[upd_other _ _ hut]
    have hu':=hu;unfold encC at hu'
    cases hcu:contA st' dk' L' u with
    |none=>rw[hcu] at hu';cases hu'
    |some xs=>
     rw[hcu] at hu';simp only[Option.map_some,Option.some.injEq] at hu';rw[h1 u xs huz hcu];subst hu'
     cases u with
     |m u=>
      have huz':u≠z:=fun e=>huz (by rw[e])
      have hut':u≠t:=fun e=>hut (by rw[e])
      by_cases hud:u∈dk'
      ·simp[contA,hud] at hcu
      ·have hud2:u∉dk:=fun h=>hud ((hdk u huz').2 h)
       simp only[contA,hud,if_false] at hcu;rw[hst,if_neg huz',if_neg hut'] at hcu;simp only[encC,contA,hud2,if_false,hcu,Option.map_some,Option.some.injEq]
       refine List.map_congr_left fun a ha=>?_
       refine (enc_off hl (fun k s f e=>?_) fun k s m e=>?_).symm
       ·have:=O.cell _ _ _ hcu a ha
        rw[e] at this;simp only[mcell] at this;rw[kfz] at this
        cases this
       ·obtain⟨j,hj⟩:=List.getElem?_of_mem ha
        rw[e] at hj;have:=O.home _ _ _ _ _ _ _ _ hcu hj kroz;exact hut' (O.inj _ _ _ _ _ hz this).1.symm
     |loc j=>
      have hcu2:contA st dk L' (.loc j)=some xs:=hcu
      rcases hL j with h|h
      ·rw[h] at hcu2;cases hcu2
      ·rw[h] at hcu2
       simp only[encC,hcu2,Option.map_some,Option.some.injEq];simp only[contA] at hcu2
       cases hLj:L[j]? with
       |none=>simp[hLj] at hcu2
       |some ob=>
        simp only[hLj] at hcu2;obtain⟨o,ho,rfl⟩:=Option.map_eq_some_iff.1 hcu2
        refine (flat_enc (q:=fun|.m u=>Nat.beq (D.kind u) (D.kind z)|.loc _=>false) (fun u hu=>hl u fun e=>?_) (hfree ob (List.mem_of_getElem? hLj)) ho).symm
        subst e
        simp at hu
 ·injection e with e
  subst e
  rcases hu with hu|hu|hu|hu
  ·rw[kfz] at hu;cases hu
  ·rw[kroz] at hu;cases hu
  ·rw[kexz] at hu;cases hu
  ·rw[hpk] at hu;cases hu
 ·rw[hst]
  split
  ·rfl
  ·split
   ·rfl
   ·exact hu2
 ·have:=R.cell hct (i:=i) (a:=cs[i]) (by simp[hi])
  exact this
 ·have Ht:=H1 _ _ hc1t
  have:=Ht.frozen (Ht.notNil (j:=i) (by simpa using hi)) ((S'.loc (.m t)).off+i) rfl
  rwa [hlt] at this
theorem enc_sl0 (S':Sto (Tg D.τ))(z:D.τ)(sz n:Nat):encL S' (.sl (.m z) 0 sz n)=(S'.loc (.m z)).val n:=by simp[encL,later_zero]
structure Homed (B:Base D) (st':D.σ) (L':List (LObj D.τ)) (dk':List D.τ) (S S':Sto (Tg D.τ)) (w:World) (t z:D.τ) (i:Nat) (v:Value):Prop where
 R:Rel B st' L' dk' S' (w.setCell ⟨(S.loc (.m t)).b,(S.loc (.m t)).off+i,none⟩ v)
 cell:∃u,w.cell? ⟨(S.loc (.m t)).b,(S.loc (.m t)).off+i,none⟩=some u
 fz:w.frozen? ⟨(S.loc (.m t)).b,(S.loc (.m t)).off+i,none⟩=false
 loc:∀u,u≠.m z→S'.loc u=S.loc u
theorem Rel.homeL (R:Rel B st L dk S w)(O:MdOk D){X:Type}{t z:D.τ}{i:Nat}(hpk:B.pk.contains (D.kind z)=true)(hz:D.hm t i=some z)(htd:t∉dk){j:Nat}{ob:LObj D.τ}(hj:L[j]?=some ob){o:LO D.τ}(ho:ob.o=some o)(hf:o.fits ob.sz=true)(hty:ob.ty=D.M.ty z)(hsz:ob.sz=D.M.sz z)(hnf:ob.fix=false)(k n:Nat)(hkn:k+n≤o.len ob.sz)(hv:(o.slc ob.sz k n).flat.all isV=true){κ:D.σ→Option X}{x:X}(hs:D.hs st t i z (o.slc ob.sz k n) n κ=some x)(hdk:∀u,u≠z→(u∈dk'↔u∈dk))(hzd:z∉dk')(hfree:∀ob∈L,ob.free D z):
  ∃st',κ st'=some x∧∃S',Homed B st' (L.set j {ob with o:=none}) dk' S S' w t z i (encL S (.sl (.loc j) k ob.sz n)):=by
 obtain⟨st',cs,hc,hκ,hi,hst,hro,hex⟩:=O.hs _ _ _ _ _ _ _ _ hs hz;obtain⟨kft,kfz,kroz,kexz,kne,kpos,ksz⟩:=O.hmk _ _ _ hz;have hlt:=(List.getElem?_eq_some_iff.1 hj).1
 have hcj:contA st dk L (.loc j)=some o.flat:=by simp[contA,hj,ho]
 have mj:(metaA D L).ty (.loc j)=ob.ty∧(metaA D L).sz (.loc j)=ob.sz∧(metaA D L).fix (.loc j)=ob.fix:=by simp[metaA,hj]
 have hne:(Tg.loc j:Tg D.τ)≠.m z:=fun e=>by cases e
 have H1:=R.H.part (x:=.loc j) (y:=.m z) (cs:=o.flat.map (encL S)) (by simp[encC,hcj]) hne ⟨by rw[mj.1,hty];rfl,by rw[mj.2.1,hsz];rfl,by rw[mj.2.2,hnf];exact kfz⟩ (by rw[mj.2.2,hnf]) k n
  (by rw[mj.2.1,List.length_map,LO.flat_len hf];exact Nat.mul_le_mul_right _ hkn)
 rw[mj.2.1] at H1
 have hl:∀u,u≠.m z→(S.ren (.loc j) (.m z) ((S.loc (.loc j)).later k ob.sz)).loc u=S.loc u:=fun u hu=>Sto.ren_loc_ne S _ _ hu
 have hL:∀q,contA st dk (L.set j {ob with o:=none}) (.loc q)=none∨contA st dk (L.set j {ob with o:=none}) (.loc q)=contA st dk L (.loc q):=fun q=>by
  by_cases hq:q=j
  ·subst hq
   exact .inl (by simp[contA,hlt])
  ·exact .inr (by simp[contA,List.getElem?_set_ne (Ne.symm hq)])
 obtain⟨hR,hcell,hfz⟩:=R.homeFin O (L':=L.set j {ob with o:=none}) (dk':=dk') hpk hz htd hc hi hv hst hro hex hdk hzd (meta_set hj _) hL hfree H1 hl (Evn.ren S _ _ _ w) (Fresh.ren R.fresh _ _ _) (by simp[renC,LO.slc_ok k n hf,List.map_take,List.map_drop])
  (fun u cs' hu hcu=>by
   have huj:u≠.loc j:=fun e=>by subst e;simp[contA,hlt] at hcu
   simp[renC,hu,huj]) (by
   have e1:(Tg.m t:Tg D.τ)≠.m z:=fun e=>kne (by injection e with e;exact e.symm)
   have e2:(Tg.m t:Tg D.τ)≠.loc j:=fun e=>by cases e
   simp[renC,e1,e2])
 rw[enc_sl0,Sto.ren_loc] at hR;exact⟨st',hκ,_,hR,⟨_,hcell⟩,hfz,hl⟩
theorem Rel.homeM (R:Rel B st L dk S w)(O:MdOk D){X:Type}{t z:D.τ}{i:Nat}(hpk:B.pk.contains (D.kind z)=true)(hz:D.hm t i=some z)(htd:t∉dk)(hzd0:z∉dk){o:LO D.τ}(hcz:D.c st z=some o.flat)(hf:o.fits (D.M.sz z)=true)(k n:Nat)(hkn:k+n≤o.len (D.M.sz z))(hv:(o.slc (D.M.sz z) k n).flat.all isV=true){κ:D.σ→Option X}{x:X}(hs:D.hs st t i z (o.slc (D.M.sz z) k n) n κ=some x)(hfree:∀ob∈L,ob.free D z):
  ∃st',κ st'=some x∧∃S',Homed B st' L dk S S' w t z i (encL S (.sl (.m z) k (D.M.sz z) n)):=by
 obtain⟨st',cs,hc,hκ,hi,hst,hro,hex⟩:=O.hs _ _ _ _ _ _ _ _ hs hz;obtain⟨kft,kfz,kroz,kexz,kne,kpos,ksz⟩:=O.hmk _ _ _ hz;have H1:=R.H.resl (x:=.m z) (cs:=o.flat.map (encL S)) (by simp[encC,contA,hzd0,hcz]) (show (metaA D L).fix (.m z)=false from kfz) k n (by rw[List.length_map];show (k+n)*D.M.sz z≤_;rw[LO.flat_len hf];exact Nat.mul_le_mul_right _ hkn)
 have hl:∀u,u≠.m z→(S.move (.m z) ((S.loc (.m z)).later k (D.M.sz z))).loc u=S.loc u:=fun u hu=>Sto.move_loc_ne S _ hu
 obtain⟨hR,hcell,hfz⟩:=R.homeFin O (L':=L) (dk':=dk) (S':=S.move (.m z) ((S.loc (.m z)).later k (D.M.sz z))) hpk hz htd hc hi hv hst hro hex (fun _ _=>Iff.rfl) hzd0 rfl (fun q=>.inr rfl) hfree H1 hl (Evn.reloc S w rfl) R.fresh
  (by rw[upd_same,LO.slc_ok k n hf];simp only[List.map_take,List.map_drop];rfl) (fun u cs' hu _=>upd_other _ _ hu) (upd_other _ _ (fun e=>kne (by injection e with e;exact e.symm)))
 rw[enc_sl0,Sto.move_loc] at hR;exact⟨st',hκ,_,hR,⟨_,hcell⟩,hfz,hl⟩
theorem Rel.homeN (R:Rel B st L dk S w)(O:MdOk D){X:Type}{t z:D.τ}{i:Nat}(hpk:B.pk.contains (D.kind z)=true)(hz:D.hm t i=some z)(htd:t∉dk){κ:D.σ→Option X}{x:X}(hs:D.hs st t i z (D.em z) 0 κ=some x)(hdk:∀u,u≠z→(u∈dk'↔u∈dk))(hzd:z∉dk')(hfree:∀ob∈L,ob.free D z):
  ∃st',κ st'=some x∧∃S',Homed B st' L dk' S S' w t z i (.slice none 0 0):=by
 obtain⟨st',cs,hc,hκ,hi,hst,hro,hex⟩:=O.hs _ _ _ _ _ _ _ _ hs hz;obtain⟨kft,kfz,kroz,kexz,kne,kpos,ksz⟩:=O.hmk _ _ _ hz;have hem:=(O.em _ _ _ hz).1;have H1:=R.H.nilled (.m z) kpos kfz
 have hl:∀u,u≠.m z→(S.put (.m z) SL.none).loc u=S.loc u:=fun u hu=>Sto.put_loc_ne S _ hu
 obtain⟨hR,hcell,hfz⟩:=R.homeFin O (L':=L) (dk':=dk') hpk hz htd hc hi (by rw[hem];rfl) hst hro hex hdk hzd rfl (fun q=>.inr rfl) hfree H1 hl (Kp.nilled S w _) (fun b hb=>by simpa [Sto.put,SL.none] using R.fresh b hb)
  (by rw[upd_same,hem];rfl) (fun u cs' hu _=>upd_other _ _ hu) (upd_other _ _ (fun e=>kne (by injection e with e;exact e.symm)))
 rw[enc_sl0,Sto.put_loc] at hR;exact⟨st',hκ,_,by simpa [SL.val,SL.none,SL.addr] using hR,⟨_,hcell⟩,hfz,hl⟩
theorem Rel.steal (R:Rel B st L dk S w)(O:MdOk D){z:D.τ}(hzd:z∉dk){o:LO D.τ}(hcz:D.c st z=some o.flat)(hfz:D.M.fix z=false)(hro:D.isro z=false)(hex:D.exk z=false)(hL:L.any (·.has (isLoc L.length))=false):
  ∃S',Rel B st (L++[⟨D.M.ty z,D.M.sz z,false,some o⟩]) (z::dk) S' w∧(∀t,isLoc L.length t=false→S'.loc t=S.loc t)∧S'.loc (.loc L.length)=S.loc (.m z):=by
 let nb:LObj D.τ:=⟨D.M.ty z,D.M.sz z,false,some o⟩
 have hne:(Tg.m z:Tg D.τ)≠.loc L.length:=fun e=>by cases e
 have H1:=(meta_push R.H nb).ren (x:=.m z) (y:=.loc L.length) (cs:=o.flat.map (encL S)) (by simp[encC,contA,hzd,hcz]) hne (by simp[metaA,nb,hfz])
 have hnb:nb.has (isLoc L.length)=false:=by
  show LObj.has _ _=false
  cases ho:o with
  |ints k xs=>simp[LObj.has,nb,ho]
  |rows ks xs=>simp[LObj.has,nb,ho]
  |cells xs=>
   simp only[LObj.has,nb,ho];rw[List.any_eq_false];intro a ha;have:=O.cell _ _ _ hcz a (by rw[ho];exact ha)
   cases a with
   |v x=>simp[AL.has]
   |p t k s f=>cases t<;>simp_all [mcell,AL.has,isLoc]
   |sl t k s n=>cases t<;>simp_all [mcell,AL.has,isLoc]
 refine⟨S.ren (.m z) (.loc L.length) (S.loc (.m z)),?_,fun t ht=>Sto.ren_loc_ne S _ _ (locne ht),Sto.ren_loc _ _ _ _⟩
 refine R.outcome O (L1:=L) rfl rfl (nb:=nb) (on:=o) rfl hnb hL H1 (Evn.ren S _ _ _ w) (fun t ht=>Sto.ren_loc_ne S _ _ ht) (fun hf=>Fresh.ren hf _ _ _) (by simp[renC]) fun t ht=>?_
 by_cases htz:t=.m z
 ·subst htz
  exact .inl (by simp[contA])
 ·refine .inr ⟨?_,by simp[renC,ht,htz]⟩
  cases t with
  |m t=>
   have h1:t≠z:=fun e=>htz (by rw[e])
   by_cases htd:t∈dk
   ·simp[contA,htd]
   ·simp[contA,htd,h1]
  |loc q=>
   have hq:q≠L.length:=fun e=>ht (by rw[e])
   simp only[contA]
   rcases Nat.lt_or_gt_of_ne hq with h|h
   ·rw[List.getElem?_append_left h]
   ·rw[List.getElem?_eq_none (by simp;omega),List.getElem?_eq_none (by omega)]
end
end Go.Beat
end
section
namespace Go.Beat
open Go
section
variable {τ:Type}
def shTg (n:Nat):Tg τ→Tg τ
 |.m t=>.m t
 |.loc j=>.loc (n+j)
def shL (n:Nat):AL τ→AL τ
 |.v x=>.v x
 |.p t k sz f=>.p (shTg n t) k sz f
 |.sl t k sz m=>.sl (shTg n t) k sz m
def shT (n:Nat):TV τ→TV τ
 |.l a=>.l (shL n a)
 |.agg xs=>.agg (xs.map (shL n))
 |.tup xs=>.tup (xs.map fun|.inl a=>.inl (shL n a)|.inr ys=>.inr (ys.map (shL n)))
 |.x=>.x
theorem enc_shL {S S':Sto (Tg τ)}{n:Nat}(h:∀t,S'.loc (shTg n t)=S.loc t)(a:AL τ):encL S' (shL n a)=encL S a:=by
 cases a<;>simp [shL,encL,h]
theorem enc_shT {S S':Sto (Tg τ)}{n:Nat}(h:∀t,S'.loc (shTg n t)=S.loc t)(v:TV τ):encT S' (shT n v)=encT S v:=by
 cases v with
 |l a=>exact enc_shL h a
 |agg xs=>
  simp only[shT,encT,List.map_map]
  congr 2
  exact List.map_congr_left fun a _=>enc_shL h a
 |tup xs=>
  simp only[shT,encT,List.map_map]
  congr 2
  refine List.map_congr_left fun e _=>?_
  cases e with
  |inl a=>exact enc_shL h a
  |inr ys=>
   simp only[Function.comp,encE,List.map_map]
   congr 2
   exact List.map_congr_left fun a _=>enc_shL h a
 |x=>rfl
end
section
variable {D:Md} {B:Base D} {st st':D.σ} {L L':List (LObj D.τ)} {S S' S1:Sto (Tg D.τ)} {w w' w1:World} {P:Program}
def LiveB (L:List (LObj D.τ))(S:Sto (Tg D.τ))(b:Nat):Prop:=∃(j:Nat) (ob:LObj D.τ) (o:LO D.τ),L[j]?=some ob∧ob.o=some o∧(S.loc (.loc j)).nil=false∧(S.loc (.loc j)).b=b
theorem Rel.atLoc (R:Rel B st L [] S w){j:Nat}{ob:LObj D.τ}{o:LO D.τ}(hj:L[j]?=some ob)(ho:ob.o=some o):HoldsAt (metaA D L) S w.heap (.loc j) (o.flat.map (encL S)):=R.H _ _ (by simp[encC,contA,hj,ho])
theorem Rel.liveOwn (R:Rel B st L [] S w){b:Nat}(h:LiveB L S b):(∃j,S.own b=some (.loc j))∧b<w.heap.size∧∃cells e f,w.heap[b]?=some (.cells cells e f):=by
 obtain⟨j,ob,o,hj,ho,hn,rfl⟩:=h;obtain⟨h1,pre,post,h2,_⟩:=(R.atLoc hj ho).blk hn;exact⟨⟨j,h1⟩,(Array.getElem?_eq_some_iff.1 h2).1,_,_,_,h2⟩
open Classical in
noncomputable def Sto.down (L:List (LObj D.τ)) (S:Sto (Tg D.τ)):Sto (Tg D.τ):={own:=fun b=>if LiveB L S b then none else S.own b,loc:=S.loc}
open Classical in
noncomputable def Sto.up (L:List (LObj D.τ)) (S S1:Sto (Tg D.τ)):Sto (Tg D.τ):=
 {own:=fun b=>if LiveB L S b then S.own b else (S1.own b).map (shTg L.length),loc:=fun t=>match t with|.m t=>S1.loc (.m t)|.loc j=>if j<L.length then S.loc (.loc j) else S1.loc (.loc (j - L.length))}
theorem Rel.down (R:Rel B st L [] S w)(O:MdOk D)(pk gk:List Nat):Rel ⟨S.down L,w,st,pk,gk⟩ st [] [] (S.down L) w:=by
 refine⟨fun t cs ht=>?_,fun b hb=>?_,Kp.refl _ _,fun t cs h=>?_,?_,fun _ _=>rfl,fun _ _ h=>h,rfl,fun _ _ _=>rfl⟩
 ·cases t with
  |loc j=>simp[encC,contA] at ht
  |m t=>
   have ht':encC S (contA st [] L) (.m t)=some cs:=by
    rw[←ht];simp only[encC,contA]
    congr 1
   have Ht:=R.H _ _ ht';refine⟨Ht.len,Ht.cap,Ht.pos,Ht.fix,Ht.nil,fun hn=>?_⟩;obtain⟨ho,hr⟩:=Ht.blk hn;refine⟨?_,hr⟩
   have hnl:¬LiveB L S (S.loc (.m t)).b:=fun hlb=>by
    obtain⟨⟨j,hj⟩,_⟩:=R.liveOwn hlb;rw[ho] at hj
    cases hj
   simp only[Sto.down,hnl,if_false];exact ho
 ·have hnl:¬LiveB L S b:=fun hlb=>by
   have:=(R.liveOwn hlb).2.1;omega
  simp only[Sto.down,hnl,if_false];exact R.fresh b hb
 ·have r:=R.ro t cs h
  refine⟨fun j a ha=>r.cell j a ha,fun hne=>⟨?_,(r.own hne).2⟩,r.cap⟩;have:=(r.own hne).1;simp only[Sto.down]
  split
  ·rfl
  ·exact this
 ·refine O.exd _ _ _ _ R.ex (fun b hb=>?_) fun _ _=>rfl
  have hnl:¬LiveB L S b:=fun hlb=>by
   obtain⟨_,_,cells,e,f,hc⟩:=R.liveOwn hlb;exact hb cells e f hc
  simp only[Sto.down,hnl,if_false]
theorem Rel.up (R:Rel B st L [] S w)(O:MdOk D){pk gk:List Nat}(hpk:∀k,pk.contains k=true→B.pk.contains k=true)(hgk:∀k,gk.contains k=true→B.gk.contains k=true∨B.pk.contains k=true)(R1:Rel ⟨S.down L,w,st,pk,gk⟩ st' L' [] S1 w1)(q:Tg D.τ→Bool)(hq:∀t,q (.m t)=false→S1.loc (.m t)=S.loc (.m t))(hql:∀j,L.length≤j→q (.loc j)=true)(hL:L.any (·.has q)=false)(hL':L'.all (fun ob=>match ob.o with|some (.cells xs)=>xs.all isV|_=>true)=true):
  Rel B st' (L++L') [] (S.up L S1) w1∧(∀t,q t=false→(S.up L S1).loc t=S.loc t)∧∀t,(S.up L S1).loc (shTg L.length t)=S1.loc t:=by
 have hk1:Kp (S.down L) w S1 w1:=R1.kp
 have hloc:∀t,q t=false→(S.up L S1).loc t=S.loc t:=fun t ht=>by
  cases t with
  |m t=>exact hq t ht
  |loc j=>
   have hj:j<L.length:=Nat.lt_of_not_le fun h=>by rw[hql j h] at ht;cases ht
   simp[Sto.up,hj]
 have hsh:∀t,(S.up L S1).loc (shTg L.length t)=S1.loc t:=fun t=>by
  cases t with
  |m t=>rfl
  |loc j=>
   simp only[Sto.up,shTg,Nat.add_sub_cancel_left];rw[if_neg (by omega)]
 have hlive:∀b,LiveB L S b→S1.own b=none∧b<w.heap.size∧w1.heap[b]?=w.heap[b]?:=fun b hb=>by
  have hd:(S.down L).own b=none:=by simp[Sto.down,hb]
  have hlt:=(R.liveOwn hb).2.1;exact⟨(hk1.own b hlt).2 hd,hlt,hk1.keep b hlt hd⟩
 have hup:∀b,¬LiveB L S b→(S.up L S1).own b=(S1.own b).map (shTg L.length):=fun b hb=>by simp[Sto.up,hb]
 have kp1:Kp S w (S.up L S1) w1:=by
  refine⟨hk1.os,hk1.tape,hk1.output,hk1.size,fun b hb=>?_,fun b hb hn=>?_⟩
  ·by_cases hlb:LiveB L S b
   ·simp[Sto.up,hlb]
   ·rw[hup b hlb,Option.map_eq_none_iff,hk1.own b hb]
    simp[Sto.down,hlb]
  ·refine hk1.keep b hb ?_
   simp only[Sto.down]
   split
   ·rfl
   ·exact hn
 refine⟨⟨fun t cs ht=>?_,fun b hb=>?_,R.kp.trans kp1,fun t cs h=>?_,?_,fun t ht=>?_,fun t h1 h2=>R1.mono t h1 (R.mono t h1 h2),R1.rob.trans R.rob,fun t h1 h2=>?_⟩,hloc,hsh⟩
 ·cases t with
  |m t=>
   have ht':encC S1 (contA st' [] L') (.m t)=some cs:=by
    rw[←ht];simp only[encC,contA]
    by_cases hd:t∈([]:List D.τ)
    ·simp at hd
    ·simp only[hd,if_false]
     cases hc:D.c st' t with
     |none=>rfl
     |some xs=>
      simp only[Option.map_some,Option.some.injEq]
      refine List.map_congr_left fun a ha=>?_
      have:=O.cell _ _ _ hc a ha
      cases a with
      |v x=>rfl
      |p u k s f=>cases u<;>simp_all [mcell,encL,Sto.up]
      |sl u k s n=>cases u<;>simp_all [mcell,encL,Sto.up]
   have Ht:=R1.H _ _ ht';refine⟨Ht.len,Ht.cap,Ht.pos,Ht.fix,Ht.nil,fun hn=>?_⟩;obtain⟨ho,hr⟩:=Ht.blk hn;refine⟨?_,hr⟩;have ho':S1.own (S1.loc (.m t)).b=some (.m t):=ho
   show (S.up L S1).own (S1.loc (.m t)).b=some (.m t)
   rw[hup _ (fun hlb=>by rw[(hlive _ hlb).1] at ho';cases ho'),ho'];rfl
  |loc j=>
   rcases Nat.lt_or_ge j L.length with hj|hj
   ·simp only[encC,contA,List.getElem?_append_left hj] at ht
    cases hLj:L[j]? with
    |none=>simp[hLj] at ht
    |some ob=>
     simp only[hLj] at ht
     cases ho:ob.o with
     |none=>simp[ho] at ht
     |some o=>
      simp only[ho,Option.map_some,Option.some.injEq] at ht
      have hob:ob.has q=false:=by
       simp only[List.any_eq_false] at hL
       simpa using hL ob (List.mem_of_getElem? hLj)
      rw[flat_enc hloc hob ho] at ht;subst ht;have Ht:=R.atLoc hLj ho
      have hl:(S.up L S1).loc (.loc j)=S.loc (.loc j):=by simp[Sto.up,hj]
      have hm:(metaA D (L++L')).ty (.loc j)=(metaA D L).ty (.loc j)∧(metaA D (L++L')).sz (.loc j)=(metaA D L).sz (.loc j)∧(metaA D (L++L')).fix (.loc j)=(metaA D L).fix (.loc j):=by
       simp only[metaA,List.getElem?_append_left hj];exact⟨trivial,trivial,trivial⟩
      refine⟨?_,?_,?_,?_,?_,?_⟩
      ·rw[hl,hm.2.1];exact Ht.len
      ·rw[hl];exact Ht.cap
      ·rw[hm.2.1];exact Ht.pos
      ·rw[hl,hm.2.2];exact Ht.fix
      ·rw[hl];exact Ht.nil
      ·rw[hl,hm.1,hm.2.1]
       intro hn;obtain⟨h1,pre,post,h2,h3⟩:=Ht.blk hn;have hlb:LiveB L S (S.loc (.loc j)).b:=⟨j,ob,o,hLj,ho,hn,rfl⟩;exact⟨by simp only[Sto.up,hlb,if_true];exact h1,pre,post,by rw[(hlive _ hlb).2.2];exact h2,h3⟩
   ·obtain⟨i,rfl⟩:=Nat.exists_eq_add_of_le hj
    simp only[encC,contA,List.getElem?_append_right hj,Nat.add_sub_cancel_left] at ht
    cases hLi:L'[i]? with
    |none=>simp[hLi] at ht
    |some ob=>
     simp only[hLi] at ht
     cases ho:ob.o with
     |none=>simp[ho] at ht
     |some o=>
      simp only[ho,Option.map_some,Option.some.injEq] at ht
      have hob:ob.has (fun _=>true)=false:=by
       have:=List.all_eq_true.1 hL' ob (List.mem_of_getElem? hLi);simp only[ho] at this
       cases o with
       |ints k xs=>simp[LObj.has,ho]
       |rows ks xs=>simp[LObj.has,ho]
       |cells xs=>
        simp only[LObj.has,ho];exact isV_has _ this
      rw[flat_enc (S:=S1) (q:=fun _=>true) (fun _ h=>by cases h) hob ho] at ht;subst ht;have Ht:=R1.atLoc hLi ho;have hl:(S.up L S1).loc (.loc (L.length+i))=S1.loc (.loc i):=hsh (.loc i)
      have hm:(metaA D (L++L')).ty (.loc (L.length+i))=(metaA D L').ty (.loc i)∧(metaA D (L++L')).sz (.loc (L.length+i))=(metaA D L').sz (.loc i)∧(metaA D (L++L')).fix (.loc (L.length+i))=(metaA D L').fix (.loc i):=by
       simp only[metaA,List.getElem?_append_right hj,Nat.add_sub_cancel_left];exact⟨trivial,trivial,trivial⟩
      refine⟨?_,?_,?_,?_,?_,?_⟩
      ·rw[hl,hm.2.1];exact Ht.len
      ·rw[hl];exact Ht.cap
      ·rw[hm.2.1];exact Ht.pos
      ·rw[hl,hm.2.2];exact Ht.fix
      ·rw[hl];exact Ht.nil
      ·rw[hl,hm.1,hm.2.1]
       intro hn;obtain⟨h1,hr⟩:=Ht.blk hn;refine⟨?_,hr⟩;rw[hup _ (fun hlb=>by rw[(hlive _ hlb).1] at h1;cases h1),h1];rfl
 ·have hnl:¬LiveB L S b:=fun hlb=>by
   have:=(hlive b hlb).2.1;have:=hk1.size;omega
  rw[hup b hnl,R1.fresh b hb];rfl
 ·have r:=R1.ro t cs h
  refine⟨fun j a ha=>?_,fun hne=>⟨?_,(r.own hne).2⟩,r.cap⟩
  ·have hc:=r.cell j a ha
   have he:encL (S.up L S1) a=encL S1 a:=by
    have:=O.rocell _ _ _ h a (List.mem_of_getElem? ha)
    cases a with
    |v x=>rfl
    |p u k s f=>cases u<;>simp_all [rcell]
    |sl u k s n=>cases u<;>simp_all [rcell,encL,Sto.up]
   rw[he];exact hc
  ·have ho:=(r.own hne).1
   have hl1:S1.loc (.m t)=S.loc (.m t):=R1.stab t (.inr (O.rois _ _ _ h))
   show (S.up L S1).own (S1.loc (.m t)).b=none
   by_cases hlb:LiveB L S (S1.loc (.m t)).b
   ·exfalso
    rw[R1.rob] at h;have h2:=((R.ro t cs h).own hne).1;rw[hl1] at hlb;obtain⟨⟨j,hj⟩,_⟩:=R.liveOwn hlb;rw[h2] at hj
    cases hj
   ·rw[hup _ hlb,ho]
    rfl
 ·refine O.exd _ _ _ _ R1.ex (fun b hb=>?_) fun _ _=>rfl
  have hnl:¬LiveB L S b:=fun hlb=>by
   obtain⟨_,_,cells,e,f,hc⟩:=R.liveOwn hlb;rw[←(hlive b hlb).2.2] at hc;exact hb cells e f hc
  rw[hup b hnl,Option.map_eq_none_iff]
 ·show S1.loc (.m t)=B.S.loc (.m t)
  have h1:S1.loc (.m t)=S.loc (.m t):=R1.stab t (ht.imp (fun h=>⟨h.1,R.mono t h.1 h.2⟩) id);rw[h1];exact R.stab t ht
 ·show S1.loc (.m t)=B.S.loc (.m t)
  rw[←R.turn t h1 h2]
  refine R1.turn t ?_ fun hg=>?_
  ·cases h:pk.contains (D.kind t) with
   |false=>rfl
   |true=>rw[hpk _ h] at h1;cases h1
  ·rcases hgk _ hg with h3|h3
   ·exact⟨(h2 h3).1,R.mono t (h2 h3).1 (h2 h3).2⟩
   ·rw[h3] at h1;cases h1
def lentT (D:Md):Tg D.τ→Bool
 |.m u=>Nat.beq (D.kind u) (D.kind D.larg)
 |.loc _=>false
theorem enc_lent (O:MdOk D){S S':Sto (Tg D.τ)}(hl:∀t,t≠.m D.larg→S'.loc t=S.loc t){a:AL D.τ}(hs:∀k s n,a≠.sl (.m D.larg) k s n)(hp:∀k s n,a≠.p (.m D.larg) k s n):encL S' a=encL S a:=by
 cases a with
 |v x=>rfl
 |p t k s f=>simp only[encL,hl t (fun e=>hp k s f (by rw[e]))]
 |sl t k s n=>simp only[encL,hl t (fun e=>hs k s n (by rw[e]))]
theorem c_lent (O:MdOk D){S S':Sto (Tg D.τ)}(hl:∀t,t≠.m D.larg→S'.loc t=S.loc t){t:D.τ}{cs:List (AL D.τ)}(hc:D.c st t=some cs){a:AL D.τ}(ha:a∈cs):encL S' a=encL S a:=
 enc_lent O hl (fun k s n e=>O.larg.2.2.2.1 _ _ _ hc k s n (e ▸ ha)) fun k s n e=>by
  have:=O.cell _ _ _ hc a ha;rw[e] at this;simp only[mcell] at this;rw[O.larg.2.2.1] at this
  cases this
theorem ro_lent (O:MdOk D){S S':Sto (Tg D.τ)}(hl:∀t,t≠.m D.larg→S'.loc t=S.loc t){t:D.τ}{cs:List (AL D.τ)}(hc:D.ro st t=some cs){a:AL D.τ}(ha:a∈cs):encL S' a=encL S a:=
 enc_lent O hl (fun k s n e=>O.larg.2.2.2.2 _ _ _ hc k s n (e ▸ ha)) fun k s n e=>by
  have:=O.rocell _ _ _ hc a ha;rw[e] at this;exact this
theorem move_ne (S:Sto (Tg D.τ))(p:SL):∀t,t≠.m D.larg→(S.move (.m D.larg) p).loc t=S.loc t:=fun t ht=>Sto.move_loc_ne S _ ht
open Classical in
theorem Rel.lend {Sd:Sto (Tg D.τ)} {pk gk:List Nat} (R:Rel ⟨Sd,w,st,pk,gk⟩ st [] [] Sd w) (O:MdOk D) {st1:D.σ} {o:LO D.τ} (hv:o.flat.all isV=true) (hc:D.c st1=D.c st) (hro:∀u,D.ro st1 u=if u=D.larg then some o.flat else D.ro st u) (hex:∀S w,D.ex st S w→D.ex st1 S w) {p:SL}
  (hcell:∀(j:Nat) (a:AL D.τ),o.flat[j]?=some a→w.cell? ⟨p.b,p.off+j,none⟩=some (encL Sd a)) (hown:o.flat≠[]→Sd.own p.b=none∧p.nil=false) (hcap:o.flat.length≤p.cap*D.M.sz D.larg):
  Rel ⟨Sd.move (.m D.larg) p,w,st1,pk,gk⟩ st1 [] [] (Sd.move (.m D.larg) p) w:=by
 have hl:=move_ne (D:=D) Sd p;refine⟨?_,R.fresh,Kp.refl _ _,fun t cs h=>?_,?_,fun _ _=>rfl,fun _ _ h=>h,rfl,fun _ _ _=>rfl⟩
 ·have e:encC (Sd.move (.m D.larg) p) (contA st1 [] [])=encC Sd (contA st [] []):=by
   funext t
   cases t with
   |loc j=>simp[encC,contA]
   |m u=>
    simp only[encC,contA,hc]
    by_cases hd:u∈([]:List D.τ)
    ·simp at hd
    ·simp only[hd,if_false]
     cases hcu:D.c st u with
     |none=>rfl
     |some cs=>
      simp only[Option.map_some,Option.some.injEq]
      exact List.map_congr_left fun a ha=>c_lent O hl hcu ha
  rw[e]
  refine R.H.reloc rfl fun t ht=>hl t fun e=>?_
  subst e
  apply ht
  simp only[encC,contA]
  by_cases hd:D.larg∈([]:List D.τ)
  ·simp at hd
  ·simp only[hd,if_false]
   cases hcu:D.c st D.larg with
   |none=>rfl
   |some cs=>
    have:=O.cis _ _ _ hcu;rw[O.larg.1] at this
    cases this
 ·rw[hro] at h
  split at h
  ·rename_i ht
   subst ht;simp only[Option.some.injEq] at h;subst h;refine⟨fun j a ha=>?_,fun h=>?_,?_⟩
   ·rw[Sto.move_loc]
    have:=hcell j a ha;rw[this];have hva:=List.all_eq_true.1 hv a (List.mem_of_getElem? ha)
    cases a<;>simp_all [isV,encL]
   ·rw[Sto.move_loc]
    exact hown h
   ·rw[Sto.move_loc]
    exact hcap
  ·rename_i ht
   have r:=R.ro t cs h;have hlt:=hl (.m t) (fun e=>ht (by injection e));refine⟨fun j a ha=>?_,fun h=>?_,by rw[hlt];exact r.cap⟩
   ·rw[hlt,ro_lent O hl h (List.mem_of_getElem? ha)]
    exact r.cell j a ha
   ·rw[hlt]
    exact r.own h
 ·exact hex _ _ (O.exd _ _ _ _ R.ex (fun _ _=>Iff.rfl) fun t ht=>hl _ fun e=>by
   injection e with e
   subst e;rw[O.larg.2.1] at ht
   cases ht)
open Classical in
theorem Rel.unlend {Sd:Sto (Tg D.τ)} {pk gk:List Nat} (R:Rel ⟨Sd,w,st,pk,gk⟩ st [] [] Sd w) (O:MdOk D) {st1:D.σ} {o:LO D.τ} (hc:D.c st1=D.c st) (hro:∀u,D.ro st1 u=if u=D.larg then some o.flat else D.ro st u) {p:SL}
  (R1:Rel ⟨Sd.move (.m D.larg) p,w,st1,pk,gk⟩ st' L' [] S1 w1) (hL':L'.all (fun ob=>match ob.o with|some (.cells xs)=>xs.all isV|_=>true)=true):
  Rel ⟨Sd,w,st,pk,gk⟩ (D.lu st st') L' [] (S1.move (.m D.larg) (Sd.loc (.m D.larg))) w1:=by
 obtain⟨uc,uro,uex⟩:=O.lu st st';have hl:=move_ne (D:=D) S1 (Sd.loc (.m D.larg));have hl0:=move_ne (D:=D) Sd p;have kp:Kp Sd w (S1.move (.m D.larg) (Sd.loc (.m D.larg))) w1:=⟨R1.kp.os,R1.kp.tape,R1.kp.output,R1.kp.size,R1.kp.own,R1.kp.keep⟩
 have hst:∀t,(D.M.fix t=true∧(D.c st t).isSome=true)∨D.isro t=true→(S1.move (.m D.larg) (Sd.loc (.m D.larg))).loc (.m t)=Sd.loc (.m t):=fun t ht=>by
  by_cases e:t=D.larg
  ·subst e
   exact Sto.move_loc _ _ _
  ·have ne:(Tg.m t:Tg D.τ)≠.m D.larg:=fun e'=>e (by injection e')
   rw[hl _ ne]
   refine (R1.stab t ?_).trans (hl0 _ ne)
   rcases ht with ht|ht
   ·exact .inl ⟨ht.1,by rw[hc];exact ht.2⟩
   ·exact .inr ht
 refine⟨?_,R1.fresh,kp,fun t cs h=>?_,?_,hst,fun t h1 h2=>?_,?_,fun t h1 h2=>?_⟩
 ·have e:encC (S1.move (.m D.larg) (Sd.loc (.m D.larg))) (contA (D.lu st st') [] L')=encC S1 (contA st' [] L'):=by
   funext t
   cases t with
   |loc j=>
    simp only[encC,contA]
    cases hLj:L'[j]? with
    |none=>rfl
    |some ob=>
     cases ho:ob.o with
     |none=>simp[ho]
     |some o'=>
      simp only[ho,Option.map_some,Option.some.injEq]
      have hob:ob.has (fun _=>true)=false:=by
       have:=List.all_eq_true.1 hL' ob (List.mem_of_getElem? hLj);simp only[ho] at this
       cases o' with
       |ints k xs=>simp[LObj.has,ho]
       |rows ks xs=>simp[LObj.has,ho]
       |cells xs=>
        simp only[LObj.has,ho];exact isV_has _ this
      exact flat_enc (q:=fun _=>true) (fun _ h=>by cases h) hob ho
   |m u=>
    simp only[encC,contA,uc]
    by_cases hd:u∈([]:List D.τ)
    ·simp at hd
    ·simp only[hd,if_false]
     cases hcu:D.c st' u with
     |none=>rfl
     |some cs=>
      simp only[Option.map_some,Option.some.injEq]
      exact List.map_congr_left fun a ha=>c_lent O hl hcu ha
  rw[e]
  refine R1.H.reloc rfl fun t ht=>hl t fun e=>?_
  subst e
  apply ht
  simp only[encC,contA]
  by_cases hd:D.larg∈([]:List D.τ)
  ·simp at hd
  ·simp only[hd,if_false]
   cases hcu:D.c st' D.larg with
   |none=>rfl
   |some cs=>
    have:=O.cis _ _ _ hcu;rw[O.larg.1] at this
    cases this
 ·rw[uro] at h
  split at h
  ·rename_i ht
   subst ht
   refine (R.ro _ cs h).kp kp (Sto.move_loc _ _ _) fun a ha=>?_
   have hra:=O.rocell _ _ _ h a ha
   cases a with
   |v x=>rfl
   |p t k s f=>exact hra.elim
   |sl t k s n=>
    cases t with
    |loc j=>exact hra.elim
    |m z=>simp only[encL,hst z (.inr hra)]
  ·rename_i ht
   have r:=R1.ro t cs h;have hlt:=hl (.m t) (fun e=>ht (by injection e));refine⟨fun j a ha=>?_,fun h=>?_,by rw[hlt];exact r.cap⟩
   ·rw[hlt,ro_lent O hl h (List.mem_of_getElem? ha)]
    exact r.cell j a ha
   ·rw[hlt]
    exact r.own h
 ·exact uex _ _ (O.exd _ _ _ _ R1.ex (fun _ _=>Iff.rfl) fun t ht=>hl _ fun e=>by
   injection e with e
   subst e;rw[O.larg.2.1] at ht
   cases ht)
 ·rw[uc]
  exact R1.mono t h1 (by rw[hc];exact h2)
 ·funext u
  rw[uro]
  split
  ·rfl
  ·rename_i hu
   rw[R1.rob]
   show D.ro st1 u=D.ro st u
   rw[hro,if_neg hu]
 ·by_cases e:t=D.larg
  ·subst e
   exact Sto.move_loc _ _ _
  ·have ne:(Tg.m t:Tg D.τ)≠.m D.larg:=fun e'=>e (by injection e')
   rw[hl _ ne];exact (R1.turn t h1 (fun hg=>⟨(h2 hg).1,by rw[hc];exact (h2 hg).2⟩)).trans (hl0 _ ne)
end
end Go.Beat
end
