/- The laid variables: two errors, as a frame's data. -/
import Derived.Test.YtccmnfpbcmccpaaGreatDoorR0u
import Derived.Test.YtccmnfpbcmccpaaGreatDoorCards
import Derived.Test.YtccmnfpbcmccpaaGreatDoorTie
import Derived.LaidMore
import Derived.OpenShut
import Derived.Stop.Joined
import Derived.Stop.LaidErr
import Derived.SevenTiedAt
import Derived.Lib.LaidTab
set_option linter.unusedSimpArgs false
set_option linter.unusedVariables false
set_option linter.deprecated false
namespace Go.Proofs.YtccmnfpbcmccpaaGreatDoor
open Go Go.ChangeShapes Go.WideShapes Go.ChangeAt Go.RowKit
theorem own:ownKnob Tryz.prog.godebug=none:=by kernel_rfl
theorem VP:laidOutB Tryz.prog=true:=by kernel_rfl
abbrev IQ : List (String × DataW Unit) := [("math/bits.deBruijn32tab", Rows.laid_math_bits_deBruijn32tab), ("math/bits.deBruijn64tab", Rows.laid_math_bits_deBruijn64tab), ("internal/strconv.uint64pow10", Rows.laid_internal_strconv_uint64pow10), ("strconv.ErrRange", Rows.laid_strconv_ErrRange), ("strconv.ErrSyntax", Rows.laid_strconv_ErrSyntax)]
theorem gSyn : Tryz.prog.globalNamed "strconv.ErrSyntax" = some 0 := by kernel_rfl
theorem gRng : Tryz.prog.globalNamed "strconv.ErrRange" = some 1 := by kernel_rfl
theorem tSyn:(Tryz.prog.globals[0]?).map (·.type)=some 242:=by kernel_rfl
theorem tRng:(Tryz.prog.globals[1]?).map (·.type)=some 242:=by kernel_rfl
theorem gPow : Tryz.prog.globalNamed "internal/strconv.uint64pow10" = some 2 := by kernel_rfl
theorem tPow:(Tryz.prog.globals[2]?).map (·.type)=some 300:=by kernel_rfl
theorem Z2 (os:Os)(args:Array Value):laidMetH Tryz.prog IQ ((World.doorLaid Tryz.prog 400 os).forCall (fun _ _=>0) ⟨#[],args,[]⟩).memory:=
 laidMetH_of_parts3 (fuel:=8) (laidMet_of_run' 8 (by kernel_rfl) (by kernel_rfl)) (by kernel_rfl) (by kernel_rfl)
theorem G0 {P:Program}{x:String×DataW Unit}{r:List (String×DataW Unit)}{W:World}(h:laidMet P (x::r) W):laidMet P r W:=by
 obtain⟨n,d⟩:=x;obtain⟨ps,⟨g,t,cs,fuel,p,q,_,_,_,_,hr,rfl⟩,hnd,hcell⟩:=h;refine⟨q,hr,?_,fun b off hm=>hcell b off (by simp[hm])⟩;rw[List.nodup_append]at hnd;exact hnd.2.1
theorem star : "*" ++ "errors.errorString" = "*errors.errorString" := by decide
theorem Tb (u : TypeId) (h : Tryz.prog.typeName? 3 u = some "*errors.errorString") : u = 311 :=
 typeName_ptr_named (nm := "errors.errorString") (by rw [star]; kernel_rfl) (by kernel_rfl) (by decide) u (by rw [star]; exact h)
theorem OX {W:World}{g:Nat}{n:String}{a:Addr}{s:ByteArray}{l:List UInt8}(hg:Tryz.prog.globalNamed n=some g)(hv:W.var? Tryz.prog n=some #[.iface 311 (.pointer (some a))])(hc:W.cell? a=some (.string s))(hs:s.data.toList=l):
 Go.Vs.RDcells W (Go.Vs.wAll W) g 0 [Go.Vs.Tryz.errCell l]:=by
 have h0:Go.Vs.at? W g 0=some (.iface 311 (.pointer (some a))):=by simpa[Go.Vs.at?]using World.var?_cell hg hv 0
 obtain⟨b,off,spot⟩:=a;have hspot:spot=none:=by simpa using World.cell?_spot hc
 subst hspot;have h1:Go.Vs.at? W b off=some (.string s):=hc;unfold Go.Vs.Tryz.errCell;simp only[Go.Vs.RDcells,and_true];refine⟨Go.Vs.wAll_cell h0,_,h0,?_⟩;simp only[Go.Vs.RD];refine⟨.pointer (some ⟨b,off,none⟩),[.pointer (some ⟨b,off,none⟩)],rfl,?_,rfl⟩;simp only[Go.Vs.RDlist,Go.Vs.RD,and_true];refine⟨b,off,rfl,?_⟩;simp only[Go.Vs.RDcells,and_true];refine⟨Go.Vs.wAll_cell h1,_,h1,?_⟩
 simp only[Go.Vs.RD];exact⟨s,rfl,hs⟩
theorem OT {W:World}{g:Nat}{k:IntKind}:∀(zs:List Int)(o:Nat),(∀i,i<zs.length->Go.Vs.at? W g (o+i)=(zs.map fun z=>Value.int k z)[i]?)->Go.Vs.RDcells W (Go.Vs.wAll W) g o (Go.Vs.Tryz.tabOf k zs)
 |[],_,_=>trivial
 |z::zs,o,h=>by
  have h0:Go.Vs.at? W g o=some (Value.int k z):=h 0 (by simp);refine⟨⟨Go.Vs.wAll_cell h0,_,h0,?_⟩,?_⟩
  .simp only[Go.Vs.RD]
  .refine OT zs (o+1) fun i hi => ?_
   have:=h (i+1) (by simpa using hi);rw[show o+1+i=o+(i+1) by omega,this];rfl
theorem VF {W:World}(h:laidMetH Tryz.prog IQ W):∀g,Go.Vs.RDcells W (Go.Vs.wAll W) g 0 (Go.Vs.Tryz.gl0 g):=by
 rw[MakeChecks.laidMetH_plain _ _ _ (by kernel_rfl)]at h;have h3:=G0 (G0 (G0 h));have h4:=G0 h3;obtain⟨a1,s1,hv1,hc1,hs1,_⟩:=laid_sentinel h3 gRng tRng Tryz.underlying242 Tb Tryz.underlying311 Tryz.underlying313 rfl rfl Tryz.underlying9 (by kernel_rfl) (by kernel_rfl)
 obtain⟨a0,s0,hv0,hc0,hs0,_⟩:=laid_sentinel h4 gSyn tSyn Tryz.underlying242 Tb Tryz.underlying311 Tryz.underlying313 rfl rfl Tryz.underlying9 (by kernel_rfl) (by kernel_rfl);have h2:=G0 (G0 h)
 have hp : Lib.TabIs Tryz.prog W "internal/strconv.uint64pow10" .u64 Go.Vs.Tryz.pow10Tab := Lib.tabIs_of_head (zs := Go.Vs.Tryz.pow10Tab) gPow tPow Tryz.underlying300 Tryz.underlying240 (by kernel_rfl) (by kernel_rfl) h2
 intro g
 match g with
 |0=>exact OX gSyn hv0 hc0 hs0
 |1=>exact OX gRng hv1 hc1 hs1
 |2=>
  refine OT _ 0 fun i hi=>?_;have:=World.var?_cell gPow hp i;simpa[Go.Vs.at?]using this
 |g+3=>trivial
end Go.Proofs.YtccmnfpbcmccpaaGreatDoor
