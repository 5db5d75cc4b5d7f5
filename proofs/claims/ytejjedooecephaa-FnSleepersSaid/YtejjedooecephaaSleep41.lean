/-
  Texts joined by a program (shake.py), without what the claim does not use; printed walks among them (print.sh), and own ones.
-/
import Derived.Test.YtejjedooecephaaSleep39
import Derived.Test.YtejjedooecephaaSleep40
section
set_option linter.unusedSimpArgs false
set_option linter.unusedVariables false
namespace Go.Proofs.Ytejjedooecephaa.Pure
open Go.RowKit Go.Proofs.Ytejjedooecephaa.PFnSleepers Go.Proofs.YtejjedooecephaaW.PrintWords Go.Proofs.YtejjedooecephaaW.PrintLast Go.Beat
theorem byte_ok {l0:List Int}(hw:∀x∈l0,(Lit.int .u8 x).wf=true)(hl:l0.length≤maxLen)(i:Nat)(hi:i<1000000):∃t:Nat,laws_wByte.f l0 (i:Int)=some (t:Int):=by
 unfold laws_wByte.f
 by_cases h0:(l0.length:Int)=0
 ·rw[if_pos h0];exact⟨0,rfl⟩
 ·rw[if_neg h0]
  have hpos:(0:Int)<(l0.length:Int):=by omega
  have e:Int.tmod (i:Int) (l0.length:Int)=((i % l0.length:Nat):Int):=by
   rw[Int.tmod_eq_emod_of_nonneg (by omega)];omega
  have hlt:i % l0.length<l0.length:=Nat.mod_lt _ (by omega);rw[e,if_pos (by omega),if_pos (by omega)]
  have hx:rd l0 ((i % l0.length:Nat):Int)∈l0:=by
   have:rd l0 ((i % l0.length:Nat):Int)=l0[i % l0.length]:=by
    unfold rd;rw[List.getD_eq_getElem?_getD,Int.toNat_natCast,List.getElem?_eq_getElem hlt];rfl
   rw[this];exact List.getElem_mem hlt
  have:=hw _ hx;simp only[Lit.wf,Bool.and_eq_true,decide_eq_true_eq] at this;have h1:(0:Int)≤rd l0 ((i % l0.length:Nat):Int):=this.1;have h2:rd l0 ((i % l0.length:Nat):Int)≤(255:Int):=this.2;refine⟨(rd l0 ((i % l0.length:Nat):Int)).toNat,?_⟩
  congr 1
  unfold wrap64;omega
theorem wrap_nat {k:Nat}(h:k<1000000000):wrap64 (k:Int)=k:=by
 unfold wrap64;omega
theorem nums_refl (l:List Int)(hl:l.length<1000000):∀(k i:Nat),i≤l.length→l.length<k+i→laws_wNums.l0 k l l (l.length:Int) (i:Int)=some true
 |0,i,h1,h2=>by omega
 |k+1,i,h1,h2=>by
  unfold laws_wNums.l0
  by_cases h:i<l.length
  ·rw[if_pos (by omega),if_pos (by omega),if_pos (by omega),if_pos (by omega),if_pos rfl]
   have e:wrap64 ((i:Int)+1)=((i+1:Nat):Int):=wrap_nat (k:=i+1) (by omega);rw[e];exact nums_refl l hl k (i+1) (by omega) (by omega)
  ·rw[if_neg (by omega)]
def sayS (l:List S72):List Int:=(l.filter fun r=>r.f0==2).map (·.f3)
theorem sayS_cons (a:S72)(r:List S72):sayS (a::r)=if a.f0=2 then a.f3::sayS r else sayS r:=by
 unfold sayS;rw[List.filter_cons]
 by_cases h:a.f0=2<;>simp [h]
theorem says_loop (l:List S72)(hl:l.length<1000000):∀(k i:Nat) (x:List Int),i≤l.length→l.length<k+i→x.length+(l.length - i)<2000000→laws_wSays.l0 k x l (l.length:Int) (i:Int)=some (x++sayS (l.drop i))
 |0,i,x,h1,h2,_=>by omega
 |k+1,i,x,h1,h2,h3=>by
  unfold laws_wSays.l0
  by_cases h:i<l.length
  ·rw[if_pos (by omega),if_pos (by omega),if_pos (by omega)]
   have e:wrap64 ((i:Int)+1)=((i+1:Nat):Int):=wrap_nat (k:=i+1) (by omega)
   have er:rd_T72 l (i:Int)=l[i]:=by
    unfold rd_T72;rw[List.getD_eq_getElem?_getD,Int.toNat_natCast,List.getElem?_eq_getElem h];rfl
   have ed:l.drop i=l[i]::l.drop (i+1):=List.drop_eq_getElem_cons h;rw[e,er]
   by_cases hk:(l[i]).f0=2
   ·rw[if_pos hk,if_pos (by omega),says_loop l hl k (i+1) _ (by omega) (by omega) (by simp;omega),ed,sayS_cons,if_pos hk,List.append_assoc]
    rfl
   ·rw[if_neg hk,says_loop l hl k (i+1) _ (by omega) (by omega) (by omega),ed,sayS_cons,if_neg hk]
  ·rw[if_neg (by omega)]
   have:l.drop i=[]:=List.drop_eq_nil_of_le (by omega);simp[this,sayS]
theorem say_map (rs:List _root_.Beat.Rec):sayS (rs.map rec_)=_root_.Beat.says rs:=by
 simp[sayS,_root_.Beat.says,List.filter_map,Function.comp_def,rec_]
open _root_.Beat (idx wantL topT slPlan sleepers_all)
def sb0 (n:Nat):S98:=⟨(List.range n).map fun (i:Nat)=>(⟨7,0,(i:Int)+1,0,0⟩:S100)⟩
def sbI (i t:Nat):S98:=⟨[(⟨1,0,0,(t:Int),0⟩:S100),⟨5,0,0,0,0⟩,⟨1,1,0,(i:Int),0⟩,⟨3,1,0,0,0⟩]⟩
theorem plan_sl (a:List Nat):plan_ (sb0 a.length::a.zipIdx.map fun q=>sbI q.2 q.1) [] 100=slPlan a:=by
 simp[plan_,slPlan,sb0,sbI,_root_.Beat.slS0,_root_.Beat.slSI,stp_,Function.comp_def]
theorem rd_ofNat {a:List Nat}{i t:Nat}(h:a[i]?=some t):rd (a.map Int.ofNat) (i:Int)=(t:Int):=by
 unfold rd;rw[List.getD_eq_getElem?_getD,Int.toNat_natCast,List.getElem?_map,h];rfl
theorem made_loop (K:Nat)(a:List Nat)(hn:a.length<20):∀(j i:Nat),i+j=a.length→spec_MadeSleepers.l0 (K+j+1) (a.map Int.ofNat) (a.length:Int) (i:Int) (sb0 i::(a.take i).zipIdx.map fun q=>sbI q.2 q.1) 100=some (sb0 a.length::a.zipIdx.map fun q=>sbI q.2 q.1,[],100)
 |0,i,h=>by
  have hi:i=a.length:=by omega
  subst hi;rw[spec_MadeSleepers.l0,if_neg (by omega),List.take_length]
 |j+1,i,h=>by
  have hi:i<a.length:=by omega
  obtain⟨t,ht⟩:∃t,a[i]?=some t:=⟨_,List.getElem?_eq_getElem hi⟩;have e0:(rd_T98 (sb0 i::(a.take i).zipIdx.map fun q=>sbI q.2 q.1) 0)=sb0 i:=rfl;have e1:wrap64 ((i:Int)+1)=((i+1:Nat):Int):=wrap_nat (k:=i+1) (by omega)
  have l0:(sb0 i).f0.length<3518437208883:=by simp[sb0];omega
  have e2:(⟨(sb0 i).f0++[(⟨7,0,((i+1:Nat):Int),0,0⟩:S100)]⟩:S98)=sb0 (i+1):=by
   simp[sb0,List.range_succ]
  have e3:(sb0 (i+1)::(a.take i).zipIdx.map fun q=>sbI q.2 q.1)++[sbI i t]=sb0 (i+1)::(a.take (i+1)).zipIdx.map fun q=>sbI q.2 q.1:=by
   have hg:a[i]=t:=by
    rw[List.getElem?_eq_getElem hi] at ht
    simpa using ht
   rw[List.take_succ_eq_append_getElem hi,List.zipIdx_append,hg];simp[Nat.min_eq_left (Nat.le_of_lt hi)]
  rw[spec_MadeSleepers.l0,if_pos (by omega),if_pos (by omega),if_pos (by simp;omega),if_pos (by simp),e0,if_pos l0,e1,e2,rd_ofNat ht];simp only[Option.bind_some];rw[if_pos (by simp;omega)];have ih:=made_loop K a hn j (i+1) (by omega);rw[←e3] at ih;exact ih
theorem tmod_nat (a m:Nat)(hm:0<m):Int.tmod (a:Int) (m:Int)=((a % m:Nat):Int):=by
 rw[Int.tmod_eq_emod_of_nonneg (by omega)];omega
theorem times_loop {l0:List Int}(hw:∀x∈l0,(Lit.int .u8 x).wf=true)(hl:l0.length≤maxLen)(K n:Nat)(hn:n<20):∀(j i:Nat) (a:List Nat),i+j=n→a.length=n→(∀v∈a,v<10)→
  ∃a':List Nat,a'.length=n∧(∀v∈a',v<10)∧laws_FnSleepers.l0 (K+j+1) l0 (n:Int) (a.map Int.ofNat) (n:Int) (i:Int)=laws_FnSleepers.l0 (K+1) l0 (n:Int) (a'.map Int.ofNat) (n:Int) (n:Int)
 |0,i,a,h,ha,hv=>by
  have:i=n:=by omega
  subst this;exact⟨a,ha,hv,rfl⟩
 |j+1,i,a,h,ha,hv=>by
  obtain⟨b,hb⟩:=byte_ok hw hl (i+1) (by omega);have e1:wrap64 ((i:Int)+1)=((i+1:Nat):Int):=wrap_nat (k:=i+1) (by omega);have e2:Int.tmod (b:Int) 10=((b % 10:Nat):Int):=tmod_nat b 10 (by omega)
  have e3:(a.map Int.ofNat).set (i:Int).toNat ((b % 10:Nat):Int)=(a.set i (b % 10)).map Int.ofNat:=by
   rw[Int.toNat_natCast,List.map_set];rfl
  obtain⟨a',h1,h2,h3⟩:=times_loop hw hl K n hn j (i+1) (a.set i (b % 10)) (by omega) (by simpa using ha) (fun v hm=>by
   rcases List.mem_or_eq_of_mem_set hm with h|h
   ·exact hv v h
   ·rw[h];exact Nat.mod_lt _ (by omega))
  refine⟨a',h1,h2,?_⟩;rw[←h3,show K+(j+1)+1=(K+j+1)+1 from rfl,laws_FnSleepers.l0,if_pos (by omega),e1,hb];simp only[Option.bind_some];rw[if_pos (by omega),if_pos (by simp;omega),e2,e3]
section
variable (n:Nat) (a:List Nat) (c:Int) (rs:List S72) (t u:Int) (st:List Int)
theorem l2_loop (K τ:Nat)(ha:a.length<20):∀(j i:Nat) (x7:List Int) (x8:Int),i+j=a.length→x7.length+j<1000→
  laws_FnSleepers.l2 (K+j+1) (n:Int) (a.map Int.ofNat) x7 x8 (τ:Int) (a.length:Int) (i:Int) c rs t u st=laws_FnSleepers.l1 K (n:Int) (a.map Int.ofNat) (x7++((List.range' i j).filter fun q=>decide (a.getD q 0=τ)).map Int.ofNat) (if ((List.range' i j).filter fun q=>decide (a.getD q 0=τ))=[] then x8 else (τ:Int)) (wrap64 ((τ:Int)+1)) c rs t u st
 |0,i,x7,x8,h,_=>by
  rw[laws_FnSleepers.l2,if_neg (by omega)]
  simp
 |j+1,i,x7,x8,h,hx=>by
  have hi:i<a.length:=by omega
  obtain⟨v,hv⟩:∃v,a[i]?=some v:=⟨_,List.getElem?_eq_getElem hi⟩;have e1:wrap64 ((i:Int)+1)=((i+1:Nat):Int):=wrap_nat (k:=i+1) (by omega);rw[show K+(j+1)+1=(K+j+1)+1 from rfl,laws_FnSleepers.l2,if_pos (by omega),if_pos (by omega),if_pos (by simp;omega),rd_ofNat hv,e1,List.range'_succ,List.filter_cons,_root_.Beat.getD_of hv]
  by_cases hvt:v=τ
  ·rw[if_pos (by rw[hvt]),if_pos (by omega),l2_loop K τ ha j (i+1) _ _ (by omega) (by simp;omega)]
   simp only[hvt,decide_true,if_true]
   simp
  ·rw[if_neg (by omega),l2_loop K τ ha j (i+1) _ _ (by omega) (by omega)]
   simp only[hvt,decide_false];rfl
theorem l1_loop (K:Nat)(ha:a.length<20):∀(j τ:Nat),τ+j=10→laws_FnSleepers.l1 (K+j*(a.length+2)) (n:Int) (a.map Int.ofNat) ((wantL a τ).map Int.ofNat) (topT a τ:Int) (τ:Int) c rs t u st=laws_FnSleepers.l1 K (n:Int) (a.map Int.ofNat) ((wantL a 10).map Int.ofNat) (topT a 10:Int) 10 c rs t u st
 |0,τ,h=>by
  have:τ=10:=by omega
  subst this;rw[Nat.zero_mul,Nat.add_zero];rfl
 |j+1,τ,h=>by
  have e1:wrap64 ((τ:Int)+1)=((τ+1:Nat):Int):=wrap_nat (k:=τ+1) (by omega);have hw:=_root_.Beat.want_le a τ;rw[show K+(j+1)*(a.length+2)=((K+j*(a.length+2))+a.length+1)+1 from by rw[Nat.succ_mul];omega,laws_FnSleepers.l1,if_pos (by omega),List.length_map,show (0:Int)=((0:Nat):Int) from rfl,l2_loop n a c rs t u st (K+j*(a.length+2)) τ ha a.length 0 _ _ (by omega) (by simp;omega),e1,←List.range_eq_range',←l1_loop K ha j (τ+1) (by omega)];have e2:((List.range a.length).filter fun q=>decide (a.getD q 0=τ))=idx a τ:=rfl;rw[e2,wantL,List.map_append,topT]
  split<;>rfl
end
theorem FnSleepers:laws_FnSleepers.Pure:=by
 intro l0 hl _ hw;obtain⟨x,hx⟩:=byte_ok hw hl 0 (by omega);have hx':laws_wByte.f l0 0=some (x:Int):=hx;have b1:x % 19<19:=Nat.mod_lt _ (by omega)
 have e1:wrap64 (1+Int.tmod (x:Int) 19)=((x % 19+1:Nat):Int):=by
  have:Int.tmod (x:Int) 19=((x % 19:Nat):Int):=tmod_nat x 19 (by omega);rw[this];unfold wrap64;omega
 generalize hn:x % 19+1=n at e1;obtain⟨K,hK⟩:∃K:Nat,K=3000:=⟨_,rfl⟩;refine⟨K+n+1,?_⟩;unfold laws_FnSleepers.f
 by_cases hlen:(l0.length:Int)>1048576
 ·rw[if_pos hlen]
 rw[if_neg hlen,hx',Option.bind_some,e1,if_pos (by omega),if_pos (by omega)];rw[Option.bind_some]
 have e2:(List.replicate ((n:Nat):Int).toNat (0:Int))=(List.replicate n 0).map Int.ofNat:=by simp
 rw[e2,List.length_map,List.length_replicate];obtain⟨a,h1,h2,h3⟩:=times_loop hw hl K n (by omega) n 0 (List.replicate n 0) (by omega) (by simp) (fun v hv=>by rw[List.mem_replicate] at hv;omega);have h3':laws_FnSleepers.l0 (K+n+1) l0 (n:Int) ((List.replicate n 0).map Int.ofNat) (n:Int) 0=_:=h3;rw[h3',laws_FnSleepers.l0,if_neg (by omega)]
 have hf:spec_MadeSleepers.f K (a.map Int.ofNat)=some (sb0 a.length::a.zipIdx.map fun q=>sbI q.2 q.1,[],100):=by
  unfold spec_MadeSleepers.f;rw[List.length_map,show K=(K - a.length - 1)+a.length+1 from by omega];exact made_loop _ a (by omega) a.length 0 (by omega)
 rw[hf];simp only[Option.bind_some];obtain⟨m,p1,p2,p3,p4,p5,p6⟩:=sleepers_all (ts:=a) (by omega) (by omega) h2;have hm:=playQ_mono (k':=K) (by omega) p1
 have f1:impl_RunPlan.f K (sb0 a.length::a.zipIdx.map fun q=>sbI q.2 q.1) [] 100 ([]:List S74) 1000 100=some (m.code,m.recs.map rec_,m.time,m.ticks,m.states):=by
  unfold impl_RunPlan.f;rw[plan_sl,show inp_ ([]:List S74) 1000 100=⟨[],1000,100⟩ from rfl,hm];rfl
 rw[f1];simp only[Option.bind_some];have key:=l1_loop n a m.code (m.recs.map rec_) m.time m.ticks m.states (K - 10*(a.length+2)) (by omega) 10 0 (by omega);rw[show K - 10*(a.length+2)+10*(a.length+2)=K from by omega] at key;have key':laws_FnSleepers.l1 K (n:Int) (a.map Int.ofNat) [] 0 0 m.code (m.recs.map rec_) m.time m.ticks m.states=_:=key;rw[key'];obtain⟨k,hk⟩:∃k,K - 10*(a.length+2)=k+1:=⟨K - 10*(a.length+2) - 1,by omega⟩
 have hk2:2000≤k:=by omega
 rw[hk,laws_FnSleepers.l1,if_neg (by omega),if_pos p2]
 have hrl:(m.recs.map rec_).length<1500:=by simp;omega
 have s1:laws_wSays.f k m.code (m.recs.map rec_) m.time m.ticks m.states=some ((wantL a 10).map Int.ofNat):=by
  unfold laws_wSays.f;have:=says_loop (m.recs.map rec_) (by omega) k 0 [] (by omega) (by omega) (by simp at hrl ⊢;omega);rw[List.drop_zero,say_map,p3] at this;exact this
 rw[s1];simp only[Option.bind_some];have hwl:=_root_.Beat.want_le a 10
 have s2:laws_wNums.f k ((wantL a 10).map Int.ofNat) ((wantL a 10).map Int.ofNat)=some true:=by
  unfold laws_wNums.f;rw[if_pos rfl];exact nums_refl _ (by rw[List.length_map];omega) k 0 (by omega) (by rw[List.length_map];omega)
 rw[s2];simp only[Option.bind_some,if_true,p4,p5,h1];have e3:wrap64 ((n:Int)+1)=((n+1:Nat):Int):=wrap_nat (k:=n+1) (by omega);rw[e3]
 simp
end Go.Proofs.Ytejjedooecephaa.Pure
end
