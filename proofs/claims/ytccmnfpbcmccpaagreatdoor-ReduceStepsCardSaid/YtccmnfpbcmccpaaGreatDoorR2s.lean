/- All data declarations, scanned. -/
import Derived.Test.YtccmnfpbcmccpaaGreatDoorR1s
set_option linter.unusedSimpArgs false
set_option linter.unusedVariables false
set_option linter.deprecated false
namespace Go.Vs.Tryz
open Go Go.Vs
theorem ZzR:Kx.call 74 [.sc (.c (.str allText))] []=some (.tu [.sc (.c (.sl allToks)),.ag [zi,zi]],[]):=by
 refine fn_x (vf:=v74) (by kernel_rfl) rfl (by simp) ?_;have hlen:allText.length=215:=by kernel_rfl
 unfold v74;simp(disch:=first|exact zd|fail) [hlen];refine Zak (fun i=>Zwd ((scanL[i]?).getD (0,0))) 129 (by kernel_rfl) ?_ ?_
 .intro i hi
  have hl:scanL.length=130:=by kernel_rfl
  have h1:i<scanL.length:=by omega
  have h2:i+1<scanL.length:=by omega
  have:=scan_chain.get (qh h1) (qh h2);rw[qh h1,qh h2];exact Zhe this ⟨rfl,rfl⟩
 .have:(scanL[129]?).getD (0,0)=(215,72):=by kernel_rfl
  rw[this];have ht:allToks.take 72=allToks:=by kernel_rfl
  have hl:allToks.length=72:=by kernel_rfl
  unfold ZAQ Zwd;simp(disch:=first|exact zd|fail) [hlen,ht,hl]
end Go.Vs.Tryz
