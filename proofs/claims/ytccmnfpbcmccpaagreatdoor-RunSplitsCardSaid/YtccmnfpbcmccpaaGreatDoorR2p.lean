/- All data declarations, scanned. -/
import Derived.Test.YtccmnfpbcmccpaaGreatDoorR1p
set_option linter.unusedSimpArgs false
set_option linter.unusedVariables false
set_option linter.deprecated false
namespace Go.Vs.Tryz
open Go Go.Vs
theorem ZbK:Kx.call 74 [.sc (.c (.str allText))] []=some (.tu [.sc (.c (.sl allToks)),.ag [zi,zi]],[]):=by
 refine fn_x (vf:=v74) (by kernel_rfl) rfl (by simp) ?_;have hlen:allText.length=215:=by kernel_rfl
 unfold v74;simp(disch:=try exact zd) [hlen];refine Ap (fun i=>Jj ((scanL[i]?).getD (0,0))) 129 (by kernel_rfl) ?_ ?_
 .intro i hi
  have hl:scanL.length=130:=by kernel_rfl
  have h1:i<scanL.length:=by omega
  have h2:i+1<scanL.length:=by omega
  have:=scan_chain.get (qi h1) (qi h2);rw[qi h1,qi h2];exact Fl this ⟨rfl,rfl⟩
 .have:(scanL[129]?).getD (0,0)=(215,72):=by kernel_rfl
  rw[this];have ht:allToks.take 72=allToks:=by kernel_rfl
  have hl:allToks.length=72:=by kernel_rfl
  unfold K3 Jj;simp(disch:=try exact zd) [hlen,ht,hl]
end Go.Vs.Tryz
