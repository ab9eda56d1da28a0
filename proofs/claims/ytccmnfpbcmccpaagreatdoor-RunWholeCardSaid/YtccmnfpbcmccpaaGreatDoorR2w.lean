/- All data declarations, scanned. -/
import Derived.Test.YtccmnfpbcmccpaaGreatDoorR1w
set_option linter.all false
namespace Go.Vs.Tryz
open Go Go.Vs
theorem ZbG:Kx.call 74 [.sc (.c (.str allText))] []=some (.tu [.sc (.c (.sl allToks)),.ag [zi,zi]],[]):=by
 refine fn_x (vf:=v74) (by kernel_rfl) rfl sy ?_;have hlen:allText.length=215:=by kernel_rfl
 unfold v74;simp(disch:=try exact zd) [hlen];refine Am (fun i=>Ka ((scanL[i]?).getD (0,0))) 129 (by kernel_rfl) ?_ ?_
 .intro i hi
  have hl:scanL.length=130:=by kernel_rfl
  have h1:i<scanL.length:=oz
  have h2:i+1<scanL.length:=oz
  have:=scan_chain.get (qj h1) (qj h2);rw[qj h1,qj h2];exact Fc this ⟨rfl,rfl⟩
 .have:(scanL[129]?).getD (0,0)=(215,72):=by kernel_rfl
  rw[this];have ht:allToks.take 72=allToks:=by kernel_rfl
  have hl:allToks.length=72:=by kernel_rfl
  unfold Mh Ka;simp(disch:=try exact zd) [hlen,ht,hl]
end Go.Vs.Tryz
