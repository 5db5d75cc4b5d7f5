/-
  Texts joined by a program (shake.py), without what the claim does not use; printed walks among them (print.sh), and own ones.
-/
import Derived.Test.YtejjedooecephaaPipe39
import Derived.Test.YtejjedooecephaaPipe40
section
set_option linter.unusedSimpArgs false
set_option linter.unusedVariables false
namespace Go.Proofs.Ytejjedooecephaa.Pure
open Go.RowKit Go.Proofs.Ytejjedooecephaa.PFnPipe Go.Proofs.YtejjedooecephaaW.PrintWords Go.Proofs.YtejjedooecephaaW.PrintLast Go.Beat
theorem byte_ok {l0:List Int}(hw:∀x∈l0,(Lit.int .u8 x).wf=true)(hl:l0.length≤maxLen)(i:Nat)(hi:i<1000000):∃t:Nat,laws_wByte.f l0 (i:Int)=some (t:Int):=by
 unfold laws_wByte.f
 by_cases h0:(l0.length:Int)=0
 ·rw[if_pos h0];exact⟨0,rfl⟩
 ·rw[if_neg h0]
  have hpos:(0:Int)<(l0.length:Int):=by omega
  have e:Int.tmod (i:Int) (l0.length:Int)=((i % l0.length:Nat):Int):=by
   rw[Int.tmod_eq_emod_of_nonneg (by omega)];omega
  have hlt:i % l0.length<l0.length:=Nat.mod_lt _ (by omega);rw[e,if_pos (by omega),if_pos (by omega)]
  have hx:rd l0 ((i % l0.length:Nat):Int)∈l0:=by
   have:rd l0 ((i % l0.length:Nat):Int)=l0[i % l0.length]:=by
    unfold rd;rw[List.getD_eq_getElem?_getD,Int.toNat_natCast,List.getElem?_eq_getElem hlt];rfl
   rw[this];exact List.getElem_mem hlt
  have:=hw _ hx;simp only[Lit.wf,Bool.and_eq_true,decide_eq_true_eq] at this;have h1:(0:Int)≤rd l0 ((i % l0.length:Nat):Int):=this.1;have h2:rd l0 ((i % l0.length:Nat):Int)≤(255:Int):=this.2;refine⟨(rd l0 ((i % l0.length:Nat):Int)).toNat,?_⟩
  congr 1
  unfold wrap64;omega
theorem wrap_nat {k:Nat}(h:k<1000000000):wrap64 (k:Int)=k:=by
 unfold wrap64;omega
theorem nums_refl (l:List Int)(hl:l.length<1000000):∀(k i:Nat),i≤l.length→l.length<k+i→laws_wNums.l0 k l l (l.length:Int) (i:Int)=some true
 |0,i,h1,h2=>by omega
 |k+1,i,h1,h2=>by
  unfold laws_wNums.l0
  by_cases h:i<l.length
  ·rw[if_pos (by omega),if_pos (by omega),if_pos (by omega),if_pos (by omega),if_pos rfl]
   have e:wrap64 ((i:Int)+1)=((i+1:Nat):Int):=wrap_nat (k:=i+1) (by omega);rw[e];exact nums_refl l hl k (i+1) (by omega) (by omega)
  ·rw[if_neg (by omega)]
theorem ints_refl (l:List Int)(hl:l.length<1000000):∀(k i:Nat),i≤l.length→l.length<k+i→laws_wInts.l0 k l l (l.length:Int) (i:Int)=some true
 |0,i,h1,h2=>by omega
 |k+1,i,h1,h2=>by
  unfold laws_wInts.l0
  by_cases h:i<l.length
  ·rw[if_pos (by omega),if_pos (by omega),if_pos (by omega),if_pos (by omega),if_pos rfl]
   have e:wrap64 ((i:Int)+1)=((i+1:Nat):Int):=wrap_nat (k:=i+1) (by omega);rw[e];exact ints_refl l hl k (i+1) (by omega) (by omega)
  ·rw[if_neg (by omega)]
def sayS (l:List S72):List Int:=(l.filter fun r=>r.f0==2).map (·.f3)
theorem sayS_cons (a:S72)(r:List S72):sayS (a::r)=if a.f0=2 then a.f3::sayS r else sayS r:=by
 unfold sayS;rw[List.filter_cons]
 by_cases h:a.f0=2<;>simp [h]
theorem says_loop (l:List S72)(hl:l.length<1000000):∀(k i:Nat) (x:List Int),i≤l.length→l.length<k+i→x.length+(l.length - i)<2000000→laws_wSays.l0 k x l (l.length:Int) (i:Int)=some (x++sayS (l.drop i))
 |0,i,x,h1,h2,_=>by omega
 |k+1,i,x,h1,h2,h3=>by
  unfold laws_wSays.l0
  by_cases h:i<l.length
  ·rw[if_pos (by omega),if_pos (by omega),if_pos (by omega)]
   have e:wrap64 ((i:Int)+1)=((i+1:Nat):Int):=wrap_nat (k:=i+1) (by omega)
   have er:rd_T72 l (i:Int)=l[i]:=by
    unfold rd_T72;rw[List.getD_eq_getElem?_getD,Int.toNat_natCast,List.getElem?_eq_getElem h];rfl
   have ed:l.drop i=l[i]::l.drop (i+1):=List.drop_eq_getElem_cons h;rw[e,er]
   by_cases hk:(l[i]).f0=2
   ·rw[if_pos hk,if_pos (by omega),says_loop l hl k (i+1) _ (by omega) (by omega) (by simp;omega),ed,sayS_cons,if_pos hk,List.append_assoc]
    rfl
   ·rw[if_neg hk,says_loop l hl k (i+1) _ (by omega) (by omega) (by omega),ed,sayS_cons,if_neg hk]
  ·rw[if_neg (by omega)]
   have:l.drop i=[]:=List.drop_eq_nil_of_le (by omega);simp[this,sayS]
theorem say_map (rs:List _root_.Beat.Rec):sayS (rs.map rec_)=_root_.Beat.says rs:=by
 simp[sayS,_root_.Beat.says,List.filter_map,Function.comp_def,rec_]
open _root_.Beat (down down_len says pipePlan pipe_all)
theorem down_loop (K:Nat)(a:Int)(b:List S72)(c d:Int)(e:List Int):∀(j:Nat) (x:List Int),x.length+j<1000000→laws_FnPipe.l0 (K+j) x (j:Int) a b c d e=laws_FnPipe.l0 K (x++down j) 0 a b c d e
 |0,x,_=>by simp[down]
 |j+1,x,h=>by
  rw[show K+(j+1)=(K+j)+1 from by omega,laws_FnPipe.l0]
  have e1:wrap64 (((j+1:Nat):Int) - 1)=(j:Int):=by
   have:((j+1:Nat):Int) - 1=(j:Int):=by omega
   rw[this];exact wrap_nat (by omega)
  rw[if_pos (by omega),if_pos (by omega),e1,down_loop K a b c d e j _ (by simp;omega)];simp[down]
theorem FnPipe:laws_FnPipe.Pure:=by
 intro l0 hl _ hw;obtain⟨K,hK⟩:∃K:Nat,K=5001:=⟨_,rfl⟩;refine⟨K,?_⟩;unfold laws_FnPipe.f
 by_cases hlen:(l0.length:Int)>1048576
 ·rw[if_pos hlen]
 rw[if_neg hlen];obtain⟨x,hx⟩:=byte_ok hw hl 0 (by omega);obtain⟨y,hy⟩:=byte_ok hw hl 1 (by omega);obtain⟨z,hz⟩:=byte_ok hw hl 2 (by omega);have hx':laws_wByte.f l0 0=some (x:Int):=hx;have hy':laws_wByte.f l0 1=some (y:Int):=hy;have hz':laws_wByte.f l0 2=some (z:Int):=hz;rw[hx',Option.bind_some,hy',Option.bind_some,hz',Option.bind_some]
 have tm:∀(a m:Nat),0<m→Int.tmod (a:Int) (m:Int)=((a % m:Nat):Int):=fun a m hm=>by
  rw[Int.tmod_eq_emod_of_nonneg (by omega)];omega
 have e1:Int.tmod (x:Int) 101=((x % 101:Nat):Int):=tm x 101 (by omega);have e2:Int.tmod (y:Int) 11=((y % 11:Nat):Int):=tm y 11 (by omega)
 have e3:wrap64 (1+Int.tmod (z:Int) 100)=((z % 100+1:Nat):Int):=by
  have:Int.tmod (z:Int) 100=((z % 100:Nat):Int):=tm z 100 (by omega);rw[this];unfold wrap64;omega
 have b1:x % 101<101:=Nat.mod_lt _ (by omega);have b2:y % 11<11:=Nat.mod_lt _ (by omega);have b3:z % 100<100:=Nat.mod_lt _ (by omega);rw[e1,e2,e3];generalize x % 101=n at b1;generalize y % 11=r at b2;generalize z % 100=s at b3;unfold spec_MadePipe.f;simp only[Option.bind_some];obtain⟨m,hm,m1,m2,m3,m4,m5⟩:=pipe_all (n:=n) (room:=(r:Int)) (slice:=s+1) (by omega) (by omega) (by omega) (by omega) (by omega);rw[←hK] at hm
 have f1:impl_RunPlan.f K [⟨[(⟨7,0,1,0,0⟩:S100),⟨1,1,0,(n:Int),0⟩,⟨15,1,0,0,2⟩,⟨2,2,1,1,0⟩,⟨9,2,0,0,0⟩,⟨13,0,0,0,0⟩]⟩,⟨[(⟨1,1,0,1,0⟩:S100),⟨15,1,0,0,3⟩,⟨10,0,0,0,0⟩,⟨16,3,0,0,1⟩,⟨3,0,0,0,0⟩,⟨2,1,3,0,0⟩,⟨15,1,0,0,4⟩,⟨10,0,0,0,0⟩,⟨2,1,3,0,0⟩,⟨16,3,0,0,1⟩,⟨3,0,0,0,0⟩]⟩] [(r:Int)] ((s+1:Nat):Int) ([]:List S74) 5000 10=some (m.code,m.recs.map rec_,m.time,m.ticks,m.states):=by
  unfold impl_RunPlan.f;have hpl:plan_ [⟨[(⟨7,0,1,0,0⟩:S100),⟨1,1,0,(n:Int),0⟩,⟨15,1,0,0,2⟩,⟨2,2,1,1,0⟩,⟨9,2,0,0,0⟩,⟨13,0,0,0,0⟩]⟩,⟨[(⟨1,1,0,1,0⟩:S100),⟨15,1,0,0,3⟩,⟨10,0,0,0,0⟩,⟨16,3,0,0,1⟩,⟨3,0,0,0,0⟩,⟨2,1,3,0,0⟩,⟨15,1,0,0,4⟩,⟨10,0,0,0,0⟩,⟨2,1,3,0,0⟩,⟨16,3,0,0,1⟩,⟨3,0,0,0,0⟩]⟩] [(r:Int)] ((s+1:Nat):Int)=pipePlan (n:Int) (r:Int) (s+1):=rfl;rw[hpl,show inp_ ([]:List S74) 5000 10=⟨[],5000,10⟩ from rfl,hm];rfl
 rw[f1];simp only[Option.bind_some];rw[show K=(K - n)+n from by omega,down_loop (K - n) _ _ _ _ _ n [] (by simp;omega)];obtain⟨k,hk⟩:∃k,K - n=k+1:=⟨K - n - 1,by omega⟩
 have hk2:4800≤k:=by omega
 rw[hk,laws_FnPipe.l0,if_neg (by omega),if_pos m1]
 have hrl:(m.recs.map rec_).length<4500:=by simp;omega
 have s1:laws_wSays.f k m.code (m.recs.map rec_) m.time m.ticks m.states=some (down n):=by
  unfold laws_wSays.f;have:=says_loop (m.recs.map rec_) (by omega) k 0 [] (by omega) (by omega) (by simp at hrl ⊢;omega);rw[List.drop_zero,say_map,m2] at this;exact this
 rw[s1];simp only[Option.bind_some,List.nil_append]
 have s2:laws_wNums.f k (down n) (down n)=some true:=by
  unfold laws_wNums.f;rw[if_pos rfl];exact nums_refl (down n) (by rw[down_len];omega) k 0 (by omega) (by rw[down_len];omega)
 rw[s2];simp only[Option.bind_some,if_true]
 have s3:laws_wInts.f k m.states [6,6]=some true:=by
  unfold laws_wInts.f;rw[m3,if_pos rfl];exact ints_refl [6,6] (of_decide_eq_true rfl) k 0 (by omega) (by simp;omega)
 rw[s3];simp only[Option.bind_some,if_true,m4];rfl
end Go.Proofs.Ytejjedooecephaa.Pure
end
