/-
  Texts joined by a program (shake.py), without what the claim does not use; printed walks among them (print.sh), and own ones.
-/
import Derived.Test.YtejjedooecephaaSleep13
section
namespace Beat
def Sm (m m':IM):Prop:=m'.p=m.p∧m'.inp=m.inp∧m'.hook=m.hook∧m'.fed=m.fed
theorem Sm.refl (m:IM):Sm m m:=⟨rfl,rfl,rfl,rfl⟩
theorem Sm.trans {a b c:IM}(h:Sm a b)(k:Sm b c):Sm a c:=⟨k.1.trans h.1,k.2.1.trans h.2.1,k.2.2.1.trans h.2.2.1,k.2.2.2.trans h.2.2.2⟩
theorem ite_none {α:Type}{c:Prop}[Decidable c]{a:Option α}{x:α}(h:(if c then a else none)=some x):c∧a=some x:=by
 split at h
 ·exact⟨by assumption,h⟩
 ·cases h
section
variable {m m':IM}
theorem note_sm {k t n:Int}(h:m.note k t n=some m'):Sm m m':=by
 simp only[IM.note,bind,Option.bind_eq_some_iff] at h;obtain⟨recs,_,h⟩:=h
 split at h
 ·simp only[Option.some.injEq] at h;subst h;exact⟨rfl,rfl,rfl,rfl⟩
 ·split at h
  ·simp only[Option.some.injEq] at h;subst h;exact⟨rfl,rfl,rfl,rfl⟩
  ·simp only[Option.some.injEq] at h;subst h;exact⟨rfl,rfl,rfl,rfl⟩
theorem ready_sm {i:Nat}(h:m.ready i=some m'):Sm m m':=by
 simp only[IM.ready,bind,Option.bind_eq_some_iff,Option.some.injEq] at h;obtain⟨_,_,_,_,rfl⟩:=h;exact⟨rfl,rfl,rfl,rfl⟩
theorem spawn_sm {b:Int}(h:m.spawn b=some m'):Sm m m':=by
 simp only[IM.spawn,bind,Option.bind_eq_some_iff,Option.some.injEq] at h;obtain⟨_,_,_,_,rfl⟩:=h;exact⟨rfl,rfl,rfl,rfl⟩
theorem waited_sm {k:Nat}{s:Int}(h:m.waited k s=some m'):Sm m m':=by
 simp only[IM.waited,bind,Option.bind_eq_some_iff,Option.some.injEq] at h;obtain⟨_,_,_,_,rfl⟩:=h;exact⟨rfl,rfl,rfl,rfl⟩
theorem finishLoop_sm {s:Int}:∀{l:List Nat} {m m':IM},IM.finishLoop s l m=some m'→Sm m m'
 |[],m,m',h=>by simp only[IM.finishLoop,Option.some.injEq] at h;subst h;exact Sm.refl _
 |k::ks,m,m',h=>by
  simp only[IM.finishLoop,bind,Option.bind_eq_some_iff] at h;obtain⟨m1,h1,m2,h2,h3⟩:=h;exact ((waited_sm h1).trans (ready_sm h2)).trans (finishLoop_sm h3)
theorem finish_sm {i:Nat}{s:Int}(h:m.finish i s=some m'):Sm m m':=by
 simp only[IM.finish,bind,Option.bind_eq_some_iff,Option.some.injEq] at h;obtain⟨t,_,_,_,m2,h2,rfl⟩:=h;have:=finishLoop_sm h2;exact⟨this.1,this.2.1,this.2.2⟩
theorem fail_sm {i:Nat}{c:Int}(h:m.fail i c=some m'):Sm m m':=by
 simp only[IM.fail,bind,Option.bind_eq_some_iff] at h;obtain⟨m1,h1,h2⟩:=h;exact (note_sm h1).trans (finish_sm h2)
theorem unline_sm {c i:Nat}(h:m.unline c i=some m'):Sm m m':=by
 simp only[IM.unline,bind,Option.bind_eq_some_iff,Option.some.injEq] at h;obtain⟨_,_,_,_,rfl⟩:=h;exact⟨rfl,rfl,rfl,rfl⟩
theorem leaveLoop_sm {i:Nat}:∀{l:List Nat} {m m':IM},IM.leaveLoop i l m=some m'→Sm m m'
 |[],m,m',h=>by simp only[IM.leaveLoop,Option.some.injEq] at h;subst h;exact Sm.refl _
 |c::cs,m,m',h=>by
  simp only[IM.leaveLoop,bind,Option.bind_eq_some_iff] at h;obtain⟨m1,h1,h2⟩:=h;exact (unline_sm h1).trans (leaveLoop_sm h2)
theorem leave_sm {i:Nat}(h:m.leave i=some m'):Sm m m':=by
 simp only[IM.leave,bind,Option.bind_eq_some_iff,Option.some.injEq] at h;obtain⟨_,_,_,_,m1,h1,_,_,rfl⟩:=h;have:=leaveLoop_sm h1;exact⟨this.1,this.2.1,this.2.2⟩
theorem gets_sm {i c:Nat}{n:Int}{b:Bool}(h:m.gets i c n b=some m'):Sm m m':=by
 simp only[IM.gets,bind,Option.bind_eq_some_iff,Option.some.injEq] at h;obtain⟨_,_,_,_,_,_,rfl⟩:=h;exact⟨rfl,rfl,rfl,rfl⟩
theorem send_sm {c:Nat}{n:Int}{q:IM×Bool}(h:m.send c n=some q):Sm m q.1:=by
 simp only[IM.send,bind,Option.bind_eq_some_iff] at h;obtain⟨x,_,h⟩:=h
 split at h
 ·simp only[Option.bind_eq_some_iff,Option.some.injEq] at h
  obtain⟨m1,h1,m2,h2,m3,h3,rfl⟩:=h;exact ((leave_sm h1).trans (gets_sm h2)).trans (ready_sm h3)
 ·split at h
  ·simp only[Option.bind_eq_some_iff,Option.some.injEq] at h
   obtain⟨_,_,rfl⟩:=h;exact⟨rfl,rfl,rfl,rfl⟩
  ·simp only[Option.some.injEq] at h
   subst h;exact Sm.refl _
theorem readyIf_sm {t:Int}(h:m.readyIf t=some m'):Sm m m':=by
 unfold IM.readyIf at h
 split at h
 ·exact ready_sm h
 ·simp only[Option.some.injEq] at h;subst h;exact Sm.refl _
theorem take_sm {c:Nat}{q:IM×Int×Bool}(h:m.take c=some q):Sm m q.1:=by
 simp only[IM.take,bind,Option.bind_eq_some_iff] at h;obtain⟨x,_,_,_,h⟩:=h
 split at h
 ·simp only[Option.some.injEq] at h;subst h;exact⟨rfl,rfl,rfl,rfl⟩
 ·simp only[Option.bind_eq_some_iff,Option.some.injEq] at h
  obtain⟨_,_,m1,h1,rfl⟩:=h;have:=readyIf_sm h1;exact⟨this.1,this.2.1,this.2.2⟩
 ·simp only[Option.bind_eq_some_iff,Option.some.injEq] at h
  obtain⟨m1,h1,rfl⟩:=h;have:=readyIf_sm h1;exact⟨this.1,this.2.1,this.2.2⟩
 ·simp only[Option.some.injEq] at h;subst h;exact Sm.refl _
theorem closeFail_sm:∀{l:List (Int×Int)} {m m':IM},IM.closeFail l m=some m'→Sm m m'
 |[],m,m',h=>by simp only[IM.closeFail,Option.some.injEq] at h;subst h;exact Sm.refl _
 |w::ws,m,m',h=>by
  simp only[IM.closeFail] at h
  split at h
  ·simp only[bind,Option.bind_eq_some_iff] at h
   obtain⟨m1,h1,m2,h2,h3⟩:=h;exact ((note_sm h1).trans (finish_sm h2)).trans (closeFail_sm h3)
  ·exact closeFail_sm h
theorem closeTake_sm {c:Nat}:∀{l:List Nat} {m m':IM},IM.closeTake c l m=some m'→Sm m m'
 |[],m,m',h=>by simp only[IM.closeTake,Option.some.injEq] at h;subst h;exact Sm.refl _
 |k::ks,m,m',h=>by
  simp only[IM.closeTake,bind,Option.bind_eq_some_iff] at h;obtain⟨t,_,_,_,m1,h1,t1,_,h⟩:=h;have e1:Sm m (m1.setT k (t1.wChans (without t.chans c))):=⟨(unline_sm h1).1,(unline_sm h1).2.1,(unline_sm h1).2.2⟩
  split at h
  ·exact e1.trans (closeTake_sm h)
  ·simp only[Option.bind_eq_some_iff] at h
   obtain⟨m3,h3,m4,h4,h5⟩:=h;exact ((e1.trans (gets_sm h3)).trans (ready_sm h4)).trans (closeTake_sm h5)
theorem close_sm {c:Nat}(h:m.close c=some m'):Sm m m':=by
 simp only[IM.close,bind,Option.bind_eq_some_iff] at h;obtain⟨x,_,_,_,m2,h2,h3⟩:=h;have:=closeFail_sm h2;exact (show Sm m m2 from⟨this.1,this.2.1,this.2.2⟩).trans (closeTake_sm h3)
theorem lineLoop_sm {i:Nat}:∀{l:List Nat} {m m':IM},IM.lineLoop i l m=some m'→Sm m m'
 |[],m,m',h=>by simp only[IM.lineLoop,Option.some.injEq] at h;subst h;exact Sm.refl _
 |c::cs,m,m',h=>by
  simp only[IM.lineLoop,bind,Option.bind_eq_some_iff] at h;obtain⟨t,_,_,_,h⟩:=h
  split at h
  ·exact lineLoop_sm h
  ·simp only[Option.bind_eq_some_iff] at h
   obtain⟨_,_,_,_,_,_,h⟩:=h;have:=lineLoop_sm h;exact⟨this.1,this.2.1,this.2.2⟩
theorem line_sm {i:Nat}{l:List Nat}(h:m.line i l=some m'):Sm m m':=by
 simp only[IM.line,bind,Option.bind_eq_some_iff] at h;obtain⟨_,_,h⟩:=h;have:=lineLoop_sm h;exact⟨this.1,this.2.1,this.2.2⟩
def SmO (m:IM)(o:Option IM):Prop:=∀m',o=some m'→Sm m m'
theorem SmO.bind {α:Type}{m:IM}{o:Option α}{f:α→Option IM}(h:∀a,o=some a→SmO m (f a)):SmO m (o.bind f):=fun m' h1=>by
 obtain⟨a,h2,h3⟩:=Option.bind_eq_some_iff.1 h1;exact h a h2 m' h3
theorem SmO.ite {m:IM}{c:Prop}[Decidable c]{a b:Option IM}(h:SmO m a)(k:SmO m b):SmO m (if c then a else b):=by
 split
 ·exact h
 ·exact k
theorem SmO.of {m m':IM}(h:Sm m m'):SmO m (some m'):=fun x hx=>by injection hx with hx;rw[←hx];exact h
theorem SmO.pre {m m1:IM}{o:Option IM}(h:Sm m m1)(k:SmO m1 o):SmO m o:=fun x hx=>h.trans (k x hx)
theorem SmO.none {m:IM}:SmO m none:=fun _ h=>by cases h
theorem note_smO {k t n:Int}:SmO m (m.note k t n):=fun _ h=>note_sm h
theorem ready_smO {i:Nat}:SmO m (m.ready i):=fun _ h=>ready_sm h
theorem finish_smO {i:Nat}{s:Int}:SmO m (m.finish i s):=fun _ h=>finish_sm h
theorem fail_smO {i:Nat}{s:Int}:SmO m (m.fail i s):=fun _ h=>fail_sm h
theorem gets_smO {i c:Nat}{n:Int}{b:Bool}:SmO m (m.gets i c n b):=fun _ h=>gets_sm h
theorem line_smO {i:Nat}{l:List Nat}:SmO m (m.line i l):=fun _ h=>line_sm h
theorem act_smO {i:Nat}{t:ITask}{at_:Int}{s:Step}:SmO m (m.act i t at_ s):=by
 unfold IM.act
 refine .ite ?_ (.ite ?_ (.ite ?_ (.ite ?_ (.ite ?_ (.ite ready_smO (.ite ?_ (.ite ?_ (.ite ?_ (.ite ?_ (.ite ?_ (.ite ?_ (.ite ?_ (.ite ?_ (.ite ?_ .none))))))))))))))
 ·exact .bind fun _ _=>.of ⟨rfl,rfl,rfl,rfl⟩
 ·exact .bind fun _ _=>.bind fun _ _=>.of ⟨rfl,rfl,rfl,rfl⟩
 ·exact .bind fun _ _=>note_smO
 ·exact .bind fun _ _=>.of ⟨rfl,rfl,rfl,rfl⟩
 ·exact .bind fun _ _=>.ite fail_smO (.of ⟨rfl,rfl,rfl,rfl⟩)
 ·exact .ite fail_smO (.bind fun m1 h1=>.pre (spawn_sm h1) (.bind fun _ _=>.bind fun _ _=>.of ⟨rfl,rfl,rfl,rfl⟩))
 ·exact .bind fun _ _=>.ite fail_smO (.bind fun _ _=>.ite (fun _ h=>waited_sm h) (.bind fun _ _=>.of ⟨rfl,rfl,rfl,rfl⟩))
 ·exact .bind fun _ _=>.bind fun _ _=>.ite fail_smO (.bind fun _ _=>.bind fun q h1=>.pre (send_sm h1) (.ite (.of (Sm.refl _)) (.bind fun _ _=>.bind fun _ _=>.bind fun _ _=>.bind fun _ _=>.of ⟨rfl,rfl,rfl,rfl⟩)))
 ·refine .bind fun _ _=>.bind fun q h1=>.pre (take_sm h1) (.bind fun _ _=>.ite gets_smO (.bind fun t1 _=>.pre (m1:=if s.op=11 then q.1.setT i (t1.wDue (w64 (q.1.now+s.n))) else q.1) ?_ line_smO))
  split<;>exact ⟨rfl,rfl,rfl,rfl⟩
 ·exact .bind fun _ _=>.bind fun _ _=>.bind fun q h1=>.pre (show Sm m q.1 from⟨(take_sm h1).1,(take_sm h1).2.1,(take_sm h1).2.2⟩) (.ite gets_smO (.bind fun q2 h2=>.pre (take_sm h2) (.ite gets_smO (.bind fun _ _=>.bind fun _ _=>.ite gets_smO line_smO))))
 ·exact .bind fun _ _=>.bind fun _ _=>.ite fail_smO fun _ h=>close_sm h
 ·exact .bind fun _ h1=>.pre (note_sm h1) finish_smO
 ·exact .bind fun _ _=>.ite (.bind fun _ _=>.bind fun _ _=>.of ⟨rfl,rfl,rfl,rfl⟩) (.bind fun _ _=>.of ⟨rfl,rfl,rfl,rfl⟩)
 ·exact .bind fun _ _=>.bind fun _ _=>.of ⟨rfl,rfl,rfl,rfl⟩
theorem step_sm {i:Nat}{s:Step}(h:m.step i s=some m'):Sm m m':=by
 simp only[IM.step,bind,Option.bind_eq_some_iff] at h;obtain⟨t,_,h⟩:=h;have:=act_smO _ h;exact⟨this.1,this.2.1,this.2.2⟩
end
end Beat
end
