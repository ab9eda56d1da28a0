/- All data declarations, scanned. (Parts of one proof, put together.) -/
import Derived.Test.YtccmnfpbcmccpaaGreatDoorD1c
set_option linter.unusedSimpArgs false
set_option linter.unusedVariables false
set_option linter.deprecated false
namespace Go.Vs.Tryz
open Go Go.Vs
theorem ZqI:Kx.call 74 [.sc (.c (.str allText))] []=some (.tu [.sc (.c (.sl allToks)),.ag [zi,zi]],[]):=by
 refine fn_x (vf:=v74) (by kernel_rfl) rfl (by simp) ?_
 have hlen:allText.length=215:=by kernel_rfl
 unfold v74
 simp (disch:=first|omega|(simp;done)|(simp;omega)) [hlen]
 refine ZaV (fun i=>Zog ((scanL[i]?).getD (0,0))) 129 (by kernel_rfl) ?_ ?_
 ·intro i hi
  have hl:scanL.length=130:=by kernel_rfl
  have h1:i<scanL.length:=by omega
  have h2:i+1<scanL.length:=by omega
  have:=scan_chain.get (List.getElem?_eq_getElem h1) (List.getElem?_eq_getElem h2)
  rw [List.getElem?_eq_getElem h1,List.getElem?_eq_getElem h2]
  exact ZeM this ⟨rfl,rfl⟩
 ·have:(scanL[129]?).getD (0,0)=(215,72):=by kernel_rfl
  rw [this]
  have ht:allToks.take 72=allToks:=by kernel_rfl
  have hl:allToks.length=72:=by kernel_rfl
  unfold ZpZ Zog
  simp (disch:=first|omega|(simp;done)|(simp;omega)) [hlen,ht,hl]
end Go.Vs.Tryz
