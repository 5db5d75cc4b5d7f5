/-
  Texts joined by a program (shake.py), without what the claim does not use; printed walks among them (print.sh), and own ones.
-/
import Derived.Test.YtejjedooecephaaSleep7
import Derived.Still
section
namespace Go.Beat
open Go
inductive KI where
  |code (c:Code)
  |blk (id:Nat)
  |ops (ops:Array Oper) (l:List Oper)
  |sch (ops:Array Oper) (p k:Nat) (σ:List (Nat×Nat))
abbrev Post:=Exit→Act→World→Prop
def postK (P:Program)(D:World→Prop):List KI→Post→Post
 |[],Q,e,a,w=>Q e a w
 |.code c::K,Q,.normal,a,w=>c.wp P (postK P D K Q) a w
 |.code _::K,Q,e,a,w=>postK P D K Q e a w
 |.blk id::K,Q,.exit id',a,w=>if id'=id then postK P D K Q .normal a w else postK P D K Q (.exit id') a w
 |.blk _::K,Q,e,a,w=>postK P D K Q e a w
 |.ops ops l::K,Q,.normal,a,w=>wpList P ops (postK P D K Q) l a w
 |.ops _ _::K,Q,e,a,w=>postK P D K Q e a w
 |.sch ops p k σ::K,Q,.normal,a,w=>wpSch P ops D (postK P D K Q) p k σ a w
 |.sch _ _ _ _::K,Q,e,a,w=>postK P D K Q e a w
def WPK (P:Program)(D:World→Prop)(K:List KI)(Q:Post)(a:Act)(w:World):Prop:=postK P D K Q .normal a w
section
variable {P:Program} {D:World→Prop} {Q:Post} {a:Act} {w:World} {K:List KI}
theorem WPK_code {c:Code}:WPK P D (.code c::K) Q a w=c.wp P (postK P D K Q) a w:=by simp[WPK,postK]
theorem WPK_blk {id:Nat}:WPK P D (.blk id::K) Q a w=WPK P D K Q a w:=by simp[WPK,postK]
theorem WPK_ops {ops:Array Oper}{l:List Oper}:WPK P D (.ops ops l::K) Q a w=wpList P ops (postK P D K Q) l a w:=by simp[WPK,postK]
theorem WPK_sch {ops:Array Oper}{p k:Nat}{σ:List (Nat×Nat)}:WPK P D (.sch ops p k σ::K) Q a w=wpSch P ops D (postK P D K Q) p k σ a w:=by simp[WPK,postK]
theorem then_eq {y:Code}:Exit.then (y.wp P (postK P D K Q)) (postK P D K Q)=postK P D (.code y::K) Q:=by
 funext e a w
 cases e<;>simp [Exit.then,postK]
theorem inBlock_eq {id:Nat}:Exit.inBlock id (postK P D K Q)=postK P D (.blk id::K) Q:=by
 funext e a w
 cases e<;>simp [Exit.inBlock,postK]
theorem K_seq {x y:Code}(h:WPK P D (.code x::.code y::K) Q a w):WPK P D (.code (.seq x y)::K) Q a w:=by
 rw[WPK_code] at h ⊢;exact wp_seq (by rw[then_eq];exact h)
theorem K_block {id:Nat}{c:Code}(h:WPK P D (.code c::.blk id::K) Q a w):WPK P D (.code (.block id c)::K) Q a w:=by
 rw[WPK_code] at h ⊢;exact wp_block (by rw[inBlock_eq];exact h)
theorem K_skip (h:WPK P D K Q a w):WPK P D (.code .skip::K) Q a w:=by
 rw[WPK_code];exact wp_skip h
theorem K_cond {c:Operand}{x y:Code}{t:Bool}(hc:a.eval c=.bool t)(h:WPK P D (.code (if t then x else y)::K) Q a w):WPK P D (.code (.cond c x y)::K) Q a w:=by
 rw[WPK_code] at h ⊢;exact wp_cond hc h
theorem K_ret (h:postK P D K Q .ret a w):WPK P D (.code .ret::K) Q a w:=by
 rw[WPK_code];exact wp_ret h
theorem K_exit {id:Nat}(h:postK P D K Q (.exit id) a w):WPK P D (.code (.exit id)::K) Q a w:=by
 rw[WPK_code];exact wp_exit h
theorem K_region {id:Nat}{ops:Array Oper}(h:WPK P D (.ops ops ops.toList::K) Q a w):WPK P D (.code (.region id ops false)::K) Q a w:=by
 rw[WPK_ops] at h;rw[WPK_code];exact wp_region_list h
def dropTo (id:Nat):List KI→Option (List KI)
 |[]=>none
 |.blk id'::K=>if id==id' then some K else dropTo id K
 |_::K=>dropTo id K
theorem dropTo_exit {id:Nat}:∀{K K':List KI},dropTo id K=some K'→postK P D K' Q .normal a w→postK P D K Q (.exit id) a w
 |[],K',h,_=>by simp[dropTo] at h
 |.blk id'::K,K',h,hp=>by
  unfold dropTo at h
  by_cases he:id=id'
  ·subst he
   simp at h
   subst h
   simpa [postK] using hp
  ·have hb:(id==id')=false:=by simp[he]
   rw[hb] at h;simp only[Bool.false_eq_true,if_false] at h;simp only[postK,he,if_false];exact dropTo_exit h hp
 |.code c::K,K',h,hp=>by simp only[postK];exact dropTo_exit (by simpa [dropTo] using h) hp
 |.ops _ _::K,K',h,hp=>by simp only[postK];exact dropTo_exit (by simpa [dropTo] using h) hp
 |.sch _ _ _ _::K,K',h,hp=>by simp only[postK];exact dropTo_exit (by simpa [dropTo] using h) hp
theorem postK_ret:∀{K:List KI},Q .ret a w→postK P D K Q .ret a w
 |[],h=>h
 |.blk _::K,h=>by simp only[postK];exact postK_ret h
 |.code _::K,h=>by simp only[postK];exact postK_ret h
 |.ops _ _::K,h=>by simp only[postK];exact postK_ret h
 |.sch _ _ _ _::K,h=>by simp only[postK];exact postK_ret h
theorem postK_panic {c:List PanicEntry}:∀{K:List KI},postK P D K Q (.panic c) a w↔Q (.panic c) a w
 |[]=>Iff.rfl
 |.blk _::K=>by simp only[postK];exact postK_panic
 |.code _::K=>by simp only[postK];exact postK_panic
 |.ops _ _::K=>by simp only[postK];exact postK_panic
 |.sch _ _ _ _::K=>by simp only[postK];exact postK_panic
theorem postK_exit_out {id:Nat}:∀{K:List KI},dropTo id K=none→Q (.exit id) a w→postK P D K Q (.exit id) a w
 |[],_,h=>h
 |.blk id'::K,hd,h=>by
  unfold dropTo at hd
  by_cases he:id=id'
  ·subst he;simp at hd
  ·have hb:(id==id')=false:=by simp[he]
   rw[hb] at hd;simp only[Bool.false_eq_true,if_false] at hd;simp only[postK,he,if_false];exact postK_exit_out hd h
 |.code c::K,hd,h=>by simp only[postK];exact postK_exit_out (by simpa [dropTo] using hd) h
 |.ops _ _::K,hd,h=>by simp only[postK];exact postK_exit_out (by simpa [dropTo] using hd) h
 |.sch _ _ _ _::K,hd,h=>by simp only[postK];exact postK_exit_out (by simpa [dropTo] using hd) h
end
structure SameH (w w':World):Prop where
 heap:w'.heap=w.heap
 os:w'.os=w.os
 tape:w'.tape=w.tape
 output:w'.output=w.output
theorem SameH.refl (w:World):SameH w w:=⟨rfl,rfl,rfl,rfl⟩
theorem SameH.trans {a b c:World}(h:SameH a b)(k:SameH b c):SameH a c:=⟨k.heap.trans h.heap,k.os.trans h.os,k.tape.trans h.tape,k.output.trans h.output⟩
theorem SameH.cell {w w':World}(h:SameH w w')(a:Addr):w'.cell? a=w.cell? a:=by simp[World.cell?,h.heap]
def wants (n:Nat)(ops:Array Oper)(fr:Fr)(o:Oper):Option Bool:=
 match o.guard with
 |none=>some true
 |some (j,want)=>match ops[j]? with
  |none=>none
  |some oj=>match oj.dst with
   |none=>none
   |some t=>if t<n then match look fr t with
     |some (.bool b)=>some (b==want)
     |some (.tuple _)=>some false
     |_=>none
    else none
def putF (n:Nat)(o:Oper)(v:Value)(fr:Fr):Option Fr:=
 match o.dst with
 |none=>some fr
 |some d=>if d<n then some ((d,v)::fr) else none
def one {P:Program}{C:World→Prop}(f:Tab→Hints P C→Fr→Oper→Option Out)(T:Tab)(hs:Hints P C)(n:Nat)(ops:Array Oper)(fr:Fr)(o:Oper):Option (Fr×List (Chk×Chk)):=
 match wants n ops fr o with
 |none=>none
 |some false=>match putF n o undef fr with
  |some fr'=>some (fr',[])
  |none=>none
 |some true=>match f T hs fr o with
  |none=>none
  |some r=>match putF n o r.v fr with
   |some fr'=>some (fr',r.ps)
   |none=>none
def many {P:Program}{C:World→Prop}(T:Tab)(hs:Hints P C)(n:Nat)(ops:Array Oper):List Oper→Fr→List (Chk×Chk)→Option (Fr×List (Chk×Chk))
 |[],fr,ps=>some (fr,ps)
 |o::l,fr,ps=>match one light T hs n ops fr o with
  |none=>none
  |some (fr',d)=>many T hs n ops l fr' (d++ps)
structure Res where
  fr:Fr
  K:List KI
  ps:List (Chk×Chk)
def evalK {P:Program}{C:World→Prop}(T:Tab)(hs:Hints P C)(n:Nat)(two:Bool):Nat→Fr→List KI→List (Chk×Chk)→Res
 |0,fr,K,ps=>⟨fr,K,ps⟩
 |fuel+1,fr,K,ps=>
  match K with
  |[]=>⟨fr,[],ps⟩
  |.blk _::K'=>evalK T hs n two fuel fr K' ps
  |.ops _ []::K'=>evalK T hs n two fuel fr K' ps
  |.sch _ _ _ []::K'=>evalK T hs n two fuel fr K' ps
  |.ops ops (o::l)::K'=>match one light T hs n ops fr o with
   |some (fr',d)=>evalK T hs n two fuel fr' (.ops ops l::K') (d++ps)
   |none=>⟨fr,K,ps⟩
  |.sch ops p k ((i,kind)::σ)::K'=>match ops[i]? with
   |none=>⟨fr,K,ps⟩
   |some o=>match kind with
    |0=>⟨fr,K,ps⟩
    |1=>match one pure1 T hs n ops fr o with
     |some (fr',d)=>evalK T hs n two fuel fr' (.sch ops p (k+1) σ::K') (d++ps)
     |none=>⟨fr,K,ps⟩
    |_=>if two then match one light T hs n ops fr o with
      |some (fr',d)=>evalK T hs n two fuel fr' (.sch ops p (k+1) σ::K') (d++ps)
      |none=>⟨fr,K,ps⟩
     else ⟨fr,K,ps⟩
  |.code c::K'=>match c with
   |.skip=>evalK T hs n two fuel fr K' ps
   |.seq x y=>evalK T hs n two fuel fr (.code x::.code y::K') ps
   |.block id x=>evalK T hs n two fuel fr (.code x::.blk id::K') ps
   |.cond v x y=>match ev fr v with
    |some (.bool true)=>evalK T hs n two fuel fr (.code x::K') ps
    |some (.bool false)=>evalK T hs n two fuel fr (.code y::K') ps
    |_=>⟨fr,K,ps⟩
   |.exit id=>match dropTo id K' with
    |some K''=>evalK T hs n two fuel fr K'' ps
    |none=>⟨fr,K,ps⟩
   |.region _ ops false=>evalK T hs n two fuel fr (.ops ops ops.toList::K') ps
   |.region _ ops true=>if Region.lexB .any ops then match many T hs n ops ops.toList fr ps with
     |some (fr',ps')=>evalK T hs n two fuel fr' K' ps'
     |none=>⟨fr,K,ps⟩
    else ⟨fr,K,ps⟩
   |_=>⟨fr,K,ps⟩
section
variable {P:Program} {C D:World→Prop} {T:Tab} {n:Nat} {ds:List Deferred}
theorem many_mem {hs:Hints P C}{ops:Array Oper}:∀(l:List Oper) (fr:Fr) (ps:List (Chk×Chk)) (r:Fr×List (Chk×Chk)),many T hs n ops l fr ps=some r→∀p∈ps,p∈r.2
 |[],fr,ps,r,h,p,hp=>by simp[many] at h;subst h;exact hp
 |o::l,fr,ps,r,h,p,hp=>by
  unfold many at h
  split at h
  ·cases h
  ·exact many_mem l _ _ r h p (List.mem_append_right _ hp)
theorem evalK_mem {hs:Hints P C}{two:Bool}:∀(fuel:Nat) (fr:Fr) (K:List KI) (ps:List (Chk×Chk)),∀p∈ps,p∈(evalK T hs n two fuel fr K ps).ps
 |0,fr,K,ps,p,hp=>hp
 |fuel+1,fr,K,ps,p,hp=>by
  have ih:=evalK_mem (hs:=hs) (two:=two) fuel;unfold evalK
  split
  ·exact hp
  ·exact ih _ _ _ p hp
  ·exact ih _ _ _ p hp
  ·exact ih _ _ _ p hp
  ·split
   ·exact ih _ _ _ p (List.mem_append_right _ hp)
   ·exact hp
  ·split
   ·exact hp
   ·split
    ·exact hp
    ·split
     ·exact ih _ _ _ p (List.mem_append_right _ hp)
     ·exact hp
    ·split
     ·split
      ·exact ih _ _ _ p (List.mem_append_right _ hp)
      ·exact hp
     ·exact hp
  ·split
   ·exact ih _ _ _ p hp
   ·exact ih _ _ _ p hp
   ·exact ih _ _ _ p hp
   ·split
    ·exact ih _ _ _ p hp
    ·exact ih _ _ _ p hp
    ·exact hp
   ·split
    ·exact ih _ _ _ p hp
    ·exact hp
   ·exact ih _ _ _ p hp
   ·split
    ·split
     ·rename_i r hr
      exact ih _ _ _ p (many_mem _ _ _ _ hr p hp)
     ·exact hp
    ·exact hp
   ·exact hp
theorem wants_sound {ops:Array Oper}{a:Act}{fr:Fr}(hF:Frm n ds a fr){o:Oper}{b:Bool}(h:wants n ops fr o=some b):Region.wanted o (yielded ops a.tmps)=b:=by
 cases hg:o.guard with
 |none=>
  unfold wants at h;simp only[hg,Option.some.injEq] at h;subst h;simp[Region.wanted,hg]
 |some jw=>
  obtain⟨j,want⟩:=jw;unfold wants at h;simp only[hg] at h
  cases hj:ops[j]? with
  |none=>simp only[hj] at h;cases h
  |some oj=>
   simp only[hj] at h
   cases ht:oj.dst with
   |none=>simp only[ht] at h;cases h
   |some t=>
    simp only[ht] at h
    split at h
    case isFalse=>cases h
    rename_i hlt
    have hy:∀v,look fr t=some v→a.tmps[t]?=some v:=fun v hv=>by
     have h1:=hF.get t v hv
     have h2:t<a.tmps.size:=by rw[hF.size];exact hlt
     simp only[Array.getD_eq_getD_getElem?] at h1;rw[Array.getElem?_eq_getElem h2] at h1 ⊢
     simpa using h1
    split at h
    ·rename_i b' hb
     injection h with h
     subst h;simp[Region.wanted,hg,yielded,hj,ht,hy _ hb]
    ·rename_i vs hb
     injection h with h
     subst h;simp[Region.wanted,hg,yielded,hj,ht,hy _ hb]
    ·cases h
theorem putF_sound {a:Act}{fr fr':Fr}(hF:Frm n ds a fr){o:Oper}{v:Value}(h:putF n o v fr=some fr'):Frm n ds (a.put o.dst v) fr':=by
 unfold putF at h
 split at h
 ·rename_i hd
  injection h with h
  subst h;rw[hd];exact hF
 ·rename_i d hd
  split at h
  ·rename_i hlt
   injection h with h
   subst h;rw[hd];exact hF.put hlt v
  ·cases h
theorem one_light {hs:Hints P C}{ops:Array Oper}{a:Act}{fr fr':Fr}{o:Oper}{d:List (Chk×Chk)}(hT:T.ok P=true)(hF:Frm n ds a fr)(h:one light T hs n ops fr o=some (fr',d))(hall:∀p∈d,p.1=p.2):
  (Region.wanted o (yielded ops a.tmps)=true∧∃v,(∀w,C w→(execOp a.eval o).run P w=.ok (.value v) w)∧Frm n ds (a.put o.dst v) fr')∨
  (Region.wanted o (yielded ops a.tmps)=false∧Frm n ds (a.put o.dst undef) fr'):=by
 unfold one at h
 split at h
 ·cases h
 ·rename_i hw
  split at h
  ·rename_i f hf
   injection h with h
   injection h with h1 h2
   subst h1;exact .inr ⟨wants_sound hF hw,putF_sound hF hf⟩
  ·cases h
 ·rename_i hw
  split at h
  ·cases h
  ·rename_i r hr
   split at h
   ·rename_i f hf
    injection h with h
    injection h with h1 h2
    subst h1;subst h2;exact .inl ⟨wants_sound hF hw,r.v,fun w hC=>light_sound hT hF hr hall w hC,putF_sound hF hf⟩
   ·cases h
theorem one_pure {hs:Hints P C}{ops:Array Oper}{a:Act}{fr fr':Fr}{o:Oper}{d:List (Chk×Chk)}(hT:T.ok P=true)(hF:Frm n ds a fr)(h:one pure1 T hs n ops fr o=some (fr',d))(hall:∀p∈d,p.1=p.2):
  (Region.wanted o (yielded ops a.tmps)=true∧∃v,(∀w,(execOp a.eval o).run P w=.ok (.value v) w)∧Frm n ds (a.put o.dst v) fr')∨
  (Region.wanted o (yielded ops a.tmps)=false∧Frm n ds (a.put o.dst undef) fr'):=by
 unfold one at h
 split at h
 ·cases h
 ·rename_i hw
  split at h
  ·rename_i f hf
   injection h with h
   injection h with h1 h2
   subst h1;exact .inr ⟨wants_sound hF hw,putF_sound hF hf⟩
  ·cases h
 ·rename_i hw
  split at h
  ·cases h
  ·rename_i r hr
   split at h
   ·rename_i f hf
    injection h with h
    injection h with h1 h2
    subst h1;subst h2;exact .inl ⟨wants_sound hF hw,r.v,fun w=>pure1_sound hT hF hr hall w,putF_sound hF hf⟩
   ·cases h
theorem many_sound (hT:T.ok P=true){hs:Hints P C}{ops:Array Oper}{w:World}(hC:C w){Q:Act→Prop}:∀(l:List Oper) (fr:Fr) (ps:List (Chk×Chk)) (r:Fr×List (Chk×Chk)) (a:Act),
  many T hs n ops l fr ps=some r→(∀p∈r.2,p.1=p.2)→Frm n ds a fr→(∀a',Frm n ds a' r.1→Q a')→wpStill P ops w Q l a
 |[],fr,ps,r,a,h,_,hF,hQ=>by
  simp only[many,Option.some.injEq] at h;subst h;exact hQ a hF
 |o::l,fr,ps,r,a,h,hall,hF,hQ=>by
  unfold many at h
  split at h
  ·cases h
  ·rename_i fr' d hd
   have hall':∀p∈d,p.1=p.2:=fun p hp=>hall p (many_mem _ _ _ _ h p (List.mem_append_left _ hp))
   unfold wpStill
   rcases one_light hT hF hd hall' with ⟨hw,v,hv,hF'⟩|⟨hw,hF'⟩
   ·rw[if_pos hw]
    unfold Oper.still;rw[hv w hC];exact⟨rfl,many_sound hT hC l fr' _ r _ h hall hF' hQ⟩
   ·rw[if_neg (by simp[hw])]
    exact many_sound hT hC l fr' _ r _ h hall hF' hQ
theorem wpList_val {ops:Array Oper}{l:List Oper}{o:Oper}{a:Act}{w:World}{Q:Post}{v:Value}(hw:Region.wanted o (yielded ops a.tmps)=true)(hv:(execOp a.eval o).run P w=.ok (.value v) w)(h:wpList P ops Q l (a.put o.dst v) w):wpList P ops Q (o::l) a w:=by
 simp only[wpList,hw,if_true,Oper.wp,hv,Oper.upon];exact .inl h
theorem evalK_sound (hT:T.ok P=true)(hm:P.follows .mixedOrders=true)(hCd:∀w w',SameH w w'→C w→C w'){hs:Hints P C}{two:Bool}(htwo:two=true→C=D){Q:Post}:
  ∀(fuel:Nat) (fr:Fr) (K:List KI) (ps:List (Chk×Chk)) (a:Act) (w:World),(∀p∈(evalK T hs n two fuel fr K ps).ps,p.1=p.2)→Frm n ds a fr→C w→
   (∀a' w',Frm n ds a' (evalK T hs n two fuel fr K ps).fr→SameH w w'→C w'→WPK P D (evalK T hs n two fuel fr K ps).K Q a' w')→WPK P D K Q a w:=by
 intro fuel
 induction fuel with
 |zero=>intro fr K ps a w _ hF hC next;exact next a w hF (SameH.refl w) hC
 |succ fuel ih=>
  intro fr K ps a w hall hF hC next
  have stop:(∀a' w',Frm n ds a' fr→SameH w w'→C w'→WPK P D K Q a' w')→WPK P D K Q a w:=fun h=>h a w hF (SameH.refl w) hC
  unfold evalK at hall next
  split at hall
  ·exact next a w hF (SameH.refl w) hC
  ·rename_i id K'
   rw[WPK_blk];exact ih _ _ _ a w hall hF hC next
  ·rename_i ops K'
   rw[WPK_ops];exact wpList_nil (ih _ _ _ a w hall hF hC next)
  ·rename_i ops p k K'
   rw[WPK_sch];unfold wpSch;exact ih _ _ _ a w hall hF hC next
  ·rename_i ops o l K'
   cases h1:one light T hs n ops fr o with
   |none=>
    simp only[h1] at hall next;exact stop next
   |some r=>
    obtain⟨fr',d⟩:=r;simp only[h1] at hall next
    have hall':∀p∈d,p.1=p.2:=fun p hp=>hall p (evalK_mem _ _ _ _ p (List.mem_append_left _ hp))
    rw[WPK_ops]
    rcases one_light hT hF h1 hall' with ⟨hw,v,hv,hF'⟩|⟨hw,hF'⟩
    ·refine wpList_val hw (hv w hC) ?_
     rw[←WPK_ops];exact ih _ _ _ _ w hall hF' hC next
    ·unfold wpList
     rw[if_neg (by simp[hw]),←WPK_ops];exact ih _ _ _ _ w hall hF' hC next
  ·rename_i ops p k i kind σ K'
   cases ho:ops[i]? with
   |none=>
    simp only[ho] at hall next;exact stop next
   |some o=>
    simp only[ho] at hall next
    match kind with
    |0=>exact stop next
    |1=>
     cases h1:one pure1 T hs n ops fr o with
     |none=>
      simp only[h1] at hall next;exact stop next
     |some r=>
      obtain⟨fr',d⟩:=r;simp only[h1] at hall next
      have hall':∀p∈d,p.1=p.2:=fun p hp=>hall p (evalK_mem _ _ _ _ p (List.mem_append_left _ hp))
      rw[WPK_sch];unfold wpSch;simp only[ho]
      rcases one_pure hT hF h1 hall' with ⟨hw,v,hv,hF'⟩|⟨hw,hF'⟩
      ·refine⟨v,.inl ⟨hw,fun w _=>hv w⟩,?_⟩
       rw[←WPK_sch];exact ih _ _ _ _ w hall hF' hC next
      ·refine⟨undef,.inr ⟨hw,rfl⟩,?_⟩
       rw[←WPK_sch];exact ih _ _ _ _ w hall hF' hC next
    |m+2=>
     cases htw:two with
     |false=>
      subst htw;simp only[Bool.false_eq_true,if_false] at hall next;exact stop next
     |true=>
      have hCD:=htwo htw;subst htw;simp only[if_true] at hall next
      cases h1:one light T hs n ops fr o with
      |none=>
       simp only[h1] at hall next;exact stop next
      |some r=>
       obtain⟨fr',d⟩:=r;simp only[h1] at hall next
       have hall':∀p∈d,p.1=p.2:=fun p hp=>hall p (evalK_mem _ _ _ _ p (List.mem_append_left _ hp))
       rw[WPK_sch];unfold wpSch;simp only[ho];refine⟨by rw[←hCD];exact hC,?_⟩
       rcases one_light hT hF h1 hall' with ⟨hw,v,hv,hF'⟩|⟨hw,hF'⟩
       ·refine⟨v,.inl ⟨hw,fun w hw'=>hv w (by rw[hCD];exact hw')⟩,?_⟩
        rw[←WPK_sch];exact ih _ _ _ _ w hall hF' hC next
       ·refine⟨undef,.inr ⟨hw,rfl⟩,?_⟩
        rw[←WPK_sch];exact ih _ _ _ _ w hall hF' hC next
  ·rename_i c K'
   cases c with
   |skip=>exact K_skip (ih _ _ _ a w hall hF hC next)
   |seq x y=>exact K_seq (ih _ _ _ a w hall hF hC next)
   |block id x=>exact K_block (ih _ _ _ a w hall hF hC next)
   |cond v x y=>
    cases hv:ev fr v with
    |none=>
     simp only[hv] at hall next;exact stop next
    |some u=>
     cases u with
     |bool b=>
      cases b with
      |true=>
       simp only[hv] at hall next;exact K_cond (t:=true) (hF.eval hv) (ih _ _ _ a w hall hF hC next)
      |false=>
       simp only[hv] at hall next;exact K_cond (t:=false) (hF.eval hv) (ih _ _ _ a w hall hF hC next)
     |_=>
      simp only[hv] at hall next;exact stop next
   |exit id=>
    cases hd:dropTo id K' with
    |none=>
     simp only[hd] at hall next;exact stop next
    |some K''=>
     simp only[hd] at hall next;exact K_exit (dropTo_exit hd (ih _ _ _ a w hall hF hC next))
   |region id ops draw=>
    cases draw with
    |false=>exact K_region (ih _ _ _ a w hall hF hC next)
    |true=>
     dsimp only at hall next
     split at hall
     ·rename_i hlex
      rw[if_pos hlex] at next
      cases hr:many T hs n ops ops.toList fr ps with
      |none=>
       simp only[hr] at hall next;exact stop next
      |some r=>
       obtain⟨fr',ps'⟩:=r;simp only[hr] at hall next;rw[WPK_code];have hd:SameH w {w with drawn:=w.drawn+1}:=⟨rfl,rfl,rfl,rfl⟩;have hC':=hCd _ _ hd hC
       refine wp_region_still hm hlex (many_sound hT hC' _ _ _ _ a hr (fun p hp=>hall p (evalK_mem _ _ _ _ p hp)) hF fun a' hF'=>?_)
       exact ih _ _ _ a' _ hall hF' hC' fun a'' w'' hF'' hs'' hC''=>next a'' w'' hF'' (hd.trans hs'') hC''
     ·rename_i hlex
      rw[if_neg hlex] at next;exact stop next
   |_=>exact stop next
end
end Go.Beat
end
