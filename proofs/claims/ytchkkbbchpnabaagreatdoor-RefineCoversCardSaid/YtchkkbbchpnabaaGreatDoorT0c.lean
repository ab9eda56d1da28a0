/- What is asked of the types, and the reckoning of one function. Nothing is claimed here. -/
import Derived.Test.YtchkkbbchpnabaaGreatDoorM4c
import Derived.Test.YtchkkbbchpnabaaGreatDoorProg
import Derived.KernelRfl
set_option linter.unusedSimpArgs false
set_option linter.unusedVariables false
set_option linter.deprecated false

/- What is asked of the types, and the reckoning of one function. Nothing is claimed here. -/
namespace Go.Vs.Tryz
open Go Go.Vs Go.Proofs.Tryz
set_option maxRecDepth 100000
set_option maxHeartbeats 8000000
noncomputable section
def tt:TT:=G (.nd 256 (mkTT {progTables with funcs:=#[]} 1161867762129606523993923925639291002559527269639459978717508463705981501 8 0) (mkTT {progTables with funcs:=#[]} 37687131172614048648793149241656763098645080829920553228352 8 256))
def cc (f:Func)(ov:List (Nat × Nat × List Nat):=[])(dr:List (Nat × List Nat):=[])(ml:List (Nat × Nat):=[])(rb:Nat × Nat × Bool:=(0,0,false)):VCode:=cC tt ⟨ov,dr,ml,[]⟩ rb 0 (f.body.getD .skip)
def lc (f:Func)(c:VCode)(ls:List VCode:=[])(k:Bool:=false)(st:List Nat:=[]):VFun × List VCode:=lF tt f k st c ls
def lp (k:Nat)(x:VFun × List VCode):VCode:=(x.2[k]?).getD .bad
def F1 (f:Func):VFun:=(lc f (cc f)).1
end
abbrev TL:=List (Nat × VFun)
noncomputable def mP (x:Nat × VFun):Bool:=mFun prog x.1 x.2
theorem all_get:∀ {l:TL},l.all mP=true→∀ f v,get? l f=some v→mFun prog f v=true
  | [],_,_,_,h=>by cases h
  | (j,a)::r,h,f,v,e=>by
    simp only [List.all_cons,Bool.and_eq_true] at h
    simp only [get?] at e
    cases hj:(j==f) with
    | true =>
      rw [hj] at e
      cases e
      exact (eq_of_beq hj)▸h.1
    | false =>
      rw [hj] at e
      exact all_get h.2 f v e
end Go.Vs.Tryz
