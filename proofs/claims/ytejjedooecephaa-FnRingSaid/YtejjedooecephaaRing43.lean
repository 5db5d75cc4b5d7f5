/-
  Texts joined by a program (shake.py), without what the claim does not use; printed walks among them (print.sh), and own ones.
-/
import Derived.Test.YtejjedooecephaaRing41
import Derived.Test.YtejjedooecephaaRing42
section
namespace Go.Proofs.Ytejjedooecephaa.Pure
open Go.RowKit Go.Proofs.Ytejjedooecephaa.PFnRing Go.Proofs.YtejjedooecephaaW.PrintWords Go.Proofs.YtejjedooecephaaW.PrintLast Go.Beat
def ringL (b n:Nat):List Int:=(List.range n).map fun i=>((b+1+i:Nat):Int)
def stuckL (b n:Nat):List S67:=⟨0,3,((b+n:Nat):Int)⟩::(List.range n).map fun i=>⟨((b+1+i:Nat):Int),3,((b+1+(i+1) % n:Nat):Int)⟩
theorem made_all:((List.range 20).all fun b=>(List.range 15).all fun n=>decide ((spec_MadeRing.f 400 (b:Int) ((n+1:Nat):Int)).map (fun q=>plan_ q.1 q.2.1 q.2.2)=some (_root_.Beat.madeRing b (n+1))))=true:=by decide+kernel
theorem last_all:((List.range 20).all fun b=>(List.range 15).all fun n=>decide (laws_FnRing.j0 400 ((n+1:Nat):Int) (b:Int) (ringL b (n+1)) (stuckL b (n+1)) (((stuckL b (n+1)).length:Int) !=wrap64 (((n+1:Nat):Int)+1))=some true))=true:=by decide+kernel
theorem all2 {f:Nat→Nat→Bool}(h:((List.range 20).all fun b=>(List.range 15).all fun n=>f b n)=true){b n:Nat}(hb:b<20)(hn:n<15):f b n=true:=List.all_eq_true.1 (List.all_eq_true.1 h b (List.mem_range.2 hb)) n (List.mem_range.2 hn)
theorem byte_ok {l0:List Int}(hw:∀x∈l0,(Lit.int .u8 x).wf=true)(hl:l0.length≤maxLen)(i:Nat)(hi:i<1000000):∃t:Nat,laws_wByte.f l0 (i:Int)=some (t:Int):=by
 unfold laws_wByte.f
 by_cases h0:(l0.length:Int)=0
 ·rw[if_pos h0];exact⟨0,rfl⟩
 ·rw[if_neg h0]
  have hpos:(0:Int)<(l0.length:Int):=by omega
  have e:Int.tmod (i:Int) (l0.length:Int)=((i % l0.length:Nat):Int):=by
   rw[Int.tmod_eq_emod_of_nonneg (by omega)];omega
  have hlt:i % l0.length<l0.length:=Nat.mod_lt _ (by omega);rw[e,if_pos (by omega),if_pos (by omega)]
  have hx:rd l0 ((i % l0.length:Nat):Int)∈l0:=by
   have:rd l0 ((i % l0.length:Nat):Int)=l0[i % l0.length]:=by
    unfold rd;rw[List.getD_eq_getElem?_getD,Int.toNat_natCast,List.getElem?_eq_getElem hlt];rfl
   rw[this];exact List.getElem_mem hlt
  have:=hw _ hx;simp only[Lit.wf,Bool.and_eq_true,decide_eq_true_eq] at this;have h1:(0:Int)≤rd l0 ((i % l0.length:Nat):Int):=this.1;have h2:rd l0 ((i % l0.length:Nat):Int)≤(255:Int):=this.2;refine⟨(rd l0 ((i % l0.length:Nat):Int)).toNat,?_⟩
  congr 1
  unfold wrap64;omega
theorem FnRing:laws_FnRing.Pure:=by
 intro l0 hl _ hw;refine⟨400,?_⟩;unfold laws_FnRing.f
 by_cases hlen:(l0.length:Int)>1048576
 ·rw[if_pos hlen]
 rw[if_neg hlen];obtain⟨x,hx⟩:=byte_ok hw hl 0 (by omega);obtain⟨y,hy⟩:=byte_ok hw hl 1 (by omega);have hx':laws_wByte.f l0 0=some (x:Int):=hx;have hy':laws_wByte.f l0 1=some (y:Int):=hy;rw[hx',hy'];simp only[Option.bind_some];have hn:x % 15<15:=Nat.mod_lt _ (by omega);have hb:y % 20<20:=Nat.mod_lt _ (by omega)
 have e1:wrap64 (1+Int.tmod (x:Int) 15)=((x % 15+1:Nat):Int):=by
  have:Int.tmod (x:Int) 15=((x % 15:Nat):Int):=by
   rw[Int.tmod_eq_emod_of_nonneg (by omega)];omega
  rw[this];unfold wrap64;omega
 have e2:Int.tmod (y:Int) 20=((y % 20:Nat):Int):=by
  rw[Int.tmod_eq_emod_of_nonneg (by omega)];omega
 rw[e1,e2];generalize x % 15=n at hn;generalize y % 20=b at hb;have hm:=of_decide_eq_true (all2 made_all hb hn);obtain⟨q,hq,hpl⟩:=Option.map_eq_some_iff.1 hm;have hr:=ring_all hb hn;unfold ringQ at hr
 split at hr
 ·cases hr
 rename_i m hplay;simp only[Bool.and_eq_true,beq_iff_eq] at hr;obtain⟨⟨⟨hcode,hlt⟩,hring⟩,hstuck⟩:=hr;have hlt':m.tasks.length<1000000:=Nat.lt_of_lt_of_le (Nat.le_of_ble_eq_true hlt) (Nat.le_refl _)
 have hplay':Go.Beat.IM.playQ 400 400 (plan_ q.1 q.2.1 q.2.2) (inp_ ([]:List S74) 500 10)=some m:=by rw[hpl];exact hplay
 have f1:impl_RunPlan.f 400 q.1 q.2.1 q.2.2 ([]:List S74) 500 10=some (m.code,m.recs.map rec_,m.time,m.ticks,m.states):=by
  unfold impl_RunPlan.f;rw[hplay'];rfl
 have f2:impl_RingAt.f 400 q.1 q.2.1 q.2.2 ([]:List S74) 500 10=some (ringL b (n+1)):=by
  unfold impl_RingAt.f impl_RingAt.g;rw[hplay'];simp only[Option.bind_some];rw[if_pos hlt',hring];simp only[Option.map_some,List.map_map];rfl
 have f3:impl_StuckAt.f 400 q.1 q.2.1 q.2.2 ([]:List S74) 500 10=some (stuckL b (n+1)):=by
  unfold impl_StuckAt.f impl_StuckAt.g;rw[hplay'];simp only[Option.bind_some];rw[if_pos hlt',hstuck];simp only[Option.map_some,List.map_cons,List.map_map];rfl
 have hlast:=of_decide_eq_true (all2 last_all hb hn);rw[hq];simp only[Option.bind_some];rw[f1];simp only[Option.bind_some];rw[f2];simp only[Option.bind_some];rw[f3];simp only[Option.bind_some];rw[if_pos hcode]
 have hrl:((ringL b (n+1)).length:Int)=((n+1:Nat):Int):=by simp[ringL]
 rw[if_pos hrl];exact hlast
end Go.Proofs.Ytejjedooecephaa.Pure
end
