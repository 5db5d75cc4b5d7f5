/-
  Texts joined by a program (shake.py), without what the claim does not use; printed walks among them (print.sh), and own ones.
-/
import Derived.Test.YtejjedooecephaaSleep0
import Derived.Test.YtejjedooecephaaSleep1
import Derived.Test.YtejjedooecephaaSleep2
import Derived.Test.YtejjedooecephaaProg
import Derived.Below
import Derived.Deep.Draws
import Derived.Deep.AppendLies
import Derived.Maps.AppendAt
import Derived.OwnWalk
import Derived.Laws.BytesArg
import Derived.Laws.MakeOwn
import Derived.Laws.OwnMore
import Derived.Deep.OwnRows
import Derived.Tactics
import Derived.Lib.ConvBytes
import Derived.Laws.Slices
import Derived.WalkKit
import Derived.KernelRfl
import Derived.RowKit3
import Derived.Deep.LoopGhost
import Derived.Deep.QuietTactic
import Derived.BigQuiet
import Derived.WideLaws
import Derived.Deep.DeepCutAuto
import Derived.Deep.CutBlock
import Derived.Deep.RegionHeld3
import Derived.Laws.Rows
import Derived.Lib.AppendStr
import Derived.ArgAppend
import Derived.Laws.IdiomCopy
import Derived.OrdersHeld
import Derived.Laws.BitsLemmas
import Derived.RowKit
import Derived.Laws.StructEq
section
namespace Go.Proofs.Ytejjedooecephaa.PFnSleepers
open Go.RowKit Go.Proofs.YtejjedooecephaaW.PrintWords Go.Proofs.YtejjedooecephaaW.PrintLast Go.Proofs.YtejjedooecephaaW.PrintMore
attribute [local go_sem] max2_int min2_int max_two min_two max_three min_three max_four min_four -- for this text's walks alone
set_option linter.unusedVariables false
set_option linter.unusedSimpArgs false
def errW:Option Int→Value
 |none=>.nilIface
 |some c=>.iface 0 (.int .i64 c)
theorem errW_none:errW none=.nilIface:=rfl
theorem errW_some (c:Int):errW (some c)=.iface 0 (.int .i64 c):=rfl
theorem info2:(Try.prog.info? 2).map (fun i=>(i.zero,i.size,i.bytes))=some (some (.int .i64 0),1,8):=by kernel_rfl
theorem info3:(Try.prog.info? 3).map (fun i=>(i.zero,i.size,i.bytes))=some (some (.int .i64 0),1,8):=by kernel_rfl
theorem info98:(Try.prog.info? 98).map (fun i=>(i.zero,i.size,i.bytes))=some (some (.agg #[(.slice none 0 0)]),1,24):=by kernel_rfl
theorem info100:(Try.prog.info? 100).map (fun i=>(i.zero,i.size,i.bytes))=some (some (.agg #[(.int .i64 0),(.int .i64 0),(.int .i64 0),(.int .i64 0),(.int .i64 0)]),5,40):=by kernel_rfl
-- the values' own types
structure S74 where
  f0:Int
  f1:Int
  f2:Int
def k74:Kd S74:=Kd.iso (Kd.pair (Kd.int .i64) (Kd.pair (Kd.int .i64) (Kd.int .i64))) (fun x:S74=>(x.f0,x.f1,x.f2))
theorem k74_open {w:World}{x:S74}{cs:List Value}(h:k74.K w x cs):cs=[.int .i64 x.f0,.int .i64 x.f1,.int .i64 x.f2]:=by
 obtain⟨_,_,rfl,rfl,⟨_,_,rfl,rfl,rfl⟩⟩:=h;exact rfl
structure S100 where
  f0:Int
  f1:Int
  f2:Int
  f3:Int
  f4:Int
def k100:Kd S100:=Kd.iso (Kd.pair (Kd.int .i64) (Kd.pair (Kd.int .i64) (Kd.pair (Kd.int .i64) (Kd.pair (Kd.int .i64) (Kd.int .i64))))) (fun x:S100=>(x.f0,x.f1,x.f2,x.f3,x.f4))
theorem k100_open {w:World}{x:S100}{cs:List Value}(h:k100.K w x cs):cs=[.int .i64 x.f0,.int .i64 x.f1,.int .i64 x.f2,.int .i64 x.f3,.int .i64 x.f4]:=by
 obtain⟨_,_,rfl,rfl,⟨_,_,rfl,rfl,⟨_,_,rfl,rfl,⟨_,_,rfl,rfl,rfl⟩⟩⟩⟩:=h;exact rfl
theorem k100_mkM (w:World)(base:Nat)(ok:Nat→Prop)(x:S100):k100.M w base ok x [.int .i64 x.f0,.int .i64 x.f1,.int .i64 x.f2,.int .i64 x.f3,.int .i64 x.f4]:=⟨[.int .i64 x.f0],[.int .i64 x.f1,.int .i64 x.f2,.int .i64 x.f3,.int .i64 x.f4],rfl,rfl,⟨[.int .i64 x.f1],[.int .i64 x.f2,.int .i64 x.f3,.int .i64 x.f4],rfl,rfl,⟨[.int .i64 x.f2],[.int .i64 x.f3,.int .i64 x.f4],rfl,rfl,⟨[.int .i64 x.f3],[.int .i64 x.f4],rfl,rfl,rfl⟩⟩⟩⟩
structure S98 where
  f0:(List S100)
def z98:S98:=⟨([]:List S100)⟩
def k98:Kd S98:=Kd.iso (Kd.slice 100 k100) (fun x:S98=>x.f0)
theorem k98_open {w:World}{x:S98}{cs:List Value}(h:k98.K w x cs):∃A0 c0,cs=[.slice A0 x.f0.length c0]∧x.f0.length≤c0∧k100.C w A0 x.f0.length x.f0:=by
 obtain⟨A0,c0,rfl,l0,g0⟩:=h;exact⟨A0,c0,rfl,l0,g0⟩
theorem k98_openM {w:World}{base:Nat}{ok:Nat→Prop}{x:S98}{cs:List Value}(h:k98.M w base ok x cs):∃v0,cs=[v0]∧k100.R 100 w base ok v0 x.f0:=by
 obtain⟨v0,rfl,g0⟩:=h;exact⟨v0,rfl,g0⟩
theorem k98_mkM (w:World)(base:Nat)(ok:Nat→Prop)(x:S98){v0:Value}(g0:k100.R 100 w base ok v0 x.f0):k98.M w base ok x [v0]:=⟨v0,rfl,g0⟩
def rd_T98 (xs:List S98)(i:Int):S98:=xs.getD i.toNat z98
theorem at_T98 {w:World}{A:Option Addr}{n:Nat}{xs:List S98}(h:Kd.C k98 w A n xs)(i:Int)(h0:0≤i)(h1:i<n):∃ad A0 c0,A=some ad∧w.cell? (ad.add i.toNat)=some (.slice A0 (rd_T98 xs i).f0.length c0)∧(rd_T98 xs i).f0.length≤c0∧k100.C w A0 (rd_T98 xs i).f0.length (rd_T98 xs i).f0:=by
 obtain⟨ad,c,e,_,hK,hc0⟩:=Kd.C_get h z98 i h0 h1;have hc:∀j u,c[j]?=some u→w.cell? (ad.add (i.toNat*1+j))=some u:=hc0;obtain⟨A0,c0,rfl,l0,g0⟩:=k98_open hK;exact⟨ad,A0,c0,e,by have hq:=hc 0 _ rfl;rwa [Nat.mul_one,Nat.add_zero] at hq,l0,g0⟩
structure S72 where
  f0:Int
  f1:Int
  f2:Int
  f3:Int
def z72:S72:=⟨(0:Int),(0:Int),(0:Int),(0:Int)⟩
def k72:Kd S72:=Kd.iso (Kd.pair (Kd.int .i64) (Kd.pair (Kd.int .i64) (Kd.pair (Kd.int .i64) (Kd.int .i64)))) (fun x:S72=>(x.f0,x.f1,x.f2,x.f3))
theorem k72_open {w:World}{x:S72}{cs:List Value}(h:k72.K w x cs):cs=[.int .i64 x.f0,.int .i64 x.f1,.int .i64 x.f2,.int .i64 x.f3]:=by
 obtain⟨_,_,rfl,rfl,⟨_,_,rfl,rfl,⟨_,_,rfl,rfl,rfl⟩⟩⟩:=h;exact rfl
theorem k72_mk (w:World)(x:S72):k72.K w x [.int .i64 x.f0,.int .i64 x.f1,.int .i64 x.f2,.int .i64 x.f3]:=⟨[.int .i64 x.f0],[.int .i64 x.f1,.int .i64 x.f2,.int .i64 x.f3],rfl,rfl,⟨[.int .i64 x.f1],[.int .i64 x.f2,.int .i64 x.f3],rfl,rfl,⟨[.int .i64 x.f2],[.int .i64 x.f3],rfl,rfl,rfl⟩⟩⟩
def rd_T72 (xs:List S72)(i:Int):S72:=xs.getD i.toNat z72
theorem at_T72 {w:World}{A:Option Addr}{n:Nat}{xs:List S72}(h:Kd.C k72 w A n xs)(i:Int)(h0:0≤i)(h1:i<n):∃ad,A=some ad∧w.cell? (ad.add (i.toNat*4))=some (.int .i64 (rd_T72 xs i).f0)∧w.cell? ⟨(ad.add (i.toNat*4)).block,(ad.add (i.toNat*4)).off+1,none⟩=some (.int .i64 (rd_T72 xs i).f1)∧w.cell? ⟨(ad.add (i.toNat*4)).block,(ad.add (i.toNat*4)).off+2,none⟩=some (.int .i64 (rd_T72 xs i).f2)∧w.cell? ⟨(ad.add (i.toNat*4)).block,(ad.add (i.toNat*4)).off+3,none⟩=some (.int .i64 (rd_T72 xs i).f3):=by
 obtain⟨ad,c,e,_,hK,hc0⟩:=Kd.C_get h z72 i h0 h1;have hc:∀j u,c[j]?=some u→w.cell? (ad.add (i.toNat*4+j))=some u:=hc0;obtain rfl:=k72_open hK;exact⟨ad,e,hc 0 _ rfl,by rw[←add_field _ _ 1 (by omega)];exact hc 1 _ rfl,by rw[←add_field _ _ 2 (by omega)];exact hc 2 _ rfl,by rw[←add_field _ _ 3 (by omega)];exact hc 3 _ rfl⟩
end Go.Proofs.Ytejjedooecephaa.PFnSleepers
end
