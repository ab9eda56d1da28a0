/- Two terms compare as equal exactly if they are alpha-equal; comparisons chain: the induction (plain). (Parts of one proof, put together.) -/
import Derived.Test.YtccmnfpbcmccpaaGreatDoorR5c
set_option linter.unusedSimpArgs false
set_option linter.unusedVariables false
set_option linter.deprecated false
namespace Go.Vs.Tryz
open Go Go.Vs
theorem good.app {e:Exp}(g:good e)(h:e.kind=5):∃ f x,e.kids=[f,x]∧Zqr f∧good f∧good x∧e.arms=[]:=by
 rcases g.cases with h1|h1|h1|⟨_,_,⟨f,x,h2,h3,h4,h5⟩,h6⟩|h1
 ·omega
 ·omega
 ·omega
 ·exact ⟨f,x,h2,h3,h4,h5,h6⟩
 ·omega
theorem good.case {e:Exp}(g:good e)(h:e.kind=8):∃ x,e.kids=[x]∧x.kind=1∧good x∧e.arms≠[]∧∀ a∈e.arms,good a.2:=by
 rcases g.cases with h1|h1|h1|h1|⟨_,_,⟨x,h2,h3,h4⟩,h5,h6⟩
 ·omega
 ·omega
 ·omega
 ·omega
 ·exact ⟨x,h2,h3,h4,h5,fun a ha=>(h6 a ha).2.2.2.2⟩
structure CaseP (ds:List DataD)(N:List Str)(e x:Exp)(d:DataD):Prop where
 kids:e.kids=[x]
 kind:x.kind=1
 good:Go.Vs.Tryz.good x
 sc:ZdL ds x N
 ne:e.arms≠[]
 mem:d∈ds
 cons:(e.arms.map fun a=>a.1.con)=Zbq d
 vars:(e.arms.map fun a=>a.1.vars.length)=d.cons.map fun c=>c.fields.length
 arms:∀ (i:Nat) a,e.arms[i]?=some a→Go.Vs.Tryz.good a.2∧ZdL ds a.2 (N++a.1.vars)∧a.2.weight<e.weight
theorem CaseP.con0 {ds:List DataD}{N:List Str}{e x:Exp}{d:DataD}(h:CaseP ds N e x d):∃ s,(Zbq d)[0]?=some s∧Go.Vs.Tryz.con0 e=ZgH s:=by
 cases ha:e.arms with
 | nil=>exact absurd ha h.ne
 | cons a r =>
  refine ⟨a.1.con,?_,?_⟩
  ·rw [←h.cons,ha];rfl
  ·unfold Go.Vs.Tryz.con0
   rw [ha];rfl
theorem CaseP.same {ds:List DataD}{S N l m:List Str}{a b x y:Exp}{d d':DataD}(hu:uniq ds)(hlm:l.length=m.length)(ha:CaseP ds (N++l) a x d)(hb:CaseP ds (N++m) b y d'):Zd8 ds S l (Go.Vs.Tryz.con0 a)=Zd8 ds S m (Go.Vs.Tryz.con0 b)↔d=d':=by
 obtain ⟨s,h1,h2⟩:=ha.con0
 obtain ⟨t,h3,h4⟩:=hb.con0
 have m1:s∈Zbq d:=List.mem_of_getElem? h1
 have m2:t∈Zbq d':=List.mem_of_getElem? h3
 rw [h2,h4,Zpg (a:=ZgH s) (b:=ZgH t) hlm rfl rfl ⟨d,ha.mem,m1⟩ ⟨d',hb.mem,m2⟩]
 show s=t↔_
 constructor
 ·rintro rfl
  exact hu d ha.mem d' hb.mem s m1 m2
 ·rintro rfl
  rw [h1] at h3
  exact Option.some.inj h3
theorem CaseP.len {ds:List DataD}{N:List Str}{e x:Exp}{d:DataD}(h:CaseP ds N e x d):e.arms.length=d.cons.length:=by
 have:=congrArg List.length h.vars
 simpa using this
variable {A:Zac}
@[simp] theorem range_5:List.range 5=[0,1,2,3,4]:=rfl
abbrev rkM (ds:List DataD)(ctx:List EntD):=Zd8 ds (seenN ctx)
end Go.Vs.Tryz
