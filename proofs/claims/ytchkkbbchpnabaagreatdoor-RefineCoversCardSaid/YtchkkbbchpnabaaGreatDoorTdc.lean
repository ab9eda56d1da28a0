/- The function that defers a closure, and that it matches. -/
import Derived.Test.YtchkkbbchpnabaaGreatDoorT0c
import Derived.Test.YtchkkbbchpnabaaGreatDoorM7c
import Derived.Test.YtchkkbbchpnabaaGreatDoorB8c
set_option linter.unusedSimpArgs false
set_option linter.unusedVariables false
set_option linter.deprecated false

/- The function that defers a closure, and that it matches. -/
namespace Go.Vs.Tryz
open Go Go.Vs Go.Proofs.Tryz
set_option maxRecDepth 100000
set_option maxHeartbeats 8000000
noncomputable section
def c73:=G (cc f73 (ov:=[(12,1,[0]),(65,0,[]),(78,0,[]),(100,0,[]),(119,1,[0])]) (dr:=[(43,[64]),(58,[3520]),(69,[3392,4160]),(71,[3520]),(82,[3392,3520,4160,4224,4992,5056]),(125,[7040])]))
def l73_0:=G (lp 0 (lc f73 c73))
def l73_1:=(fun a=>G (lp 1 (lc f73 c73 [a]))) l73_0
def v73:=(fun a b=>G (lc f73 c73 [a,b] (k:=true)).1) l73_0 l73_1
def d73:VDef:=G (a:=(toD v73).getD default)
theorem m73:mFunD prog 73 d73=true:=by kernel_rfl
end
end Go.Vs.Tryz

/- RefineCovers: calls whose answers are known. -/
namespace Go.Vs.Tryz
open Go Go.Vs Go.Proofs.Tryz
set_option maxRecDepth 100000
noncomputable section
def y0:List Cell:=[(.int .i64 5),(.str [97]),(.int .i64 0),(.int .i64 0),(.sl [])]
def y1:V:=(.ag [(.c (.sl [])),(.c (.sl [[(.int .i64 0),(.bool false),(.str [102]),(.bool true),(.int .i64 4),(.str [45,62]),(.int .i64 0),(.int .i64 0),(.sl [y0,y0]),(.int .i64 4),(.int .i64 17),(.str [120]),(.int .i64 0),(.sl [[(.int .i64 10),(.int .i64 21),(.str []),(.int .i64 0),(.sl []),(.sl []),(.int .i64 0),(.str []),(.int .i64 0),(.int .i64 0),(.sl [])]]),(.sl []),(.int .i64 0),(.str []),(.int .i64 0),(.int .i64 0),(.sl [])]]))])
def y2:List Cell:=[(.int .i64 2),(.str []),(.int .i64 0),(.int .i64 0),(.sl [])]
def y3:W:=(.c (.int .i64 0))
def y4:Cell:=(.sl [[(.int .i64 1),(.int .i64 0),(.str [120]),(.int .i64 0),(.sl []),(.sl []),(.int .i64 0),(.str []),(.int .i64 0),(.int .i64 0),(.sl [])]])
def y5:V:=(.sc (.ptr 0 0))
def y6:V:=(.sc (.c (.str [120])))
def y7:W:=(.c (.bool false))
def y8:W:=(.c (.int .i64 3))
def y9:V:=(.ag [y3,y8,(.c (.str [])),y3,y3,(.c (.sl []))])
def y10:W:=(.c (.bool true))
def y11:W:=(.c (.int .i64 1000000))
def y12:List W:=[y7,y3,(.c (.str [])),y3,y3,.nil,y11,y10]
def y13:Obj:=(.arr 8 [y12,y12] 0)
def y14:W:=(.c (.int .i64 1))
def y15:Obj:=(.arr 10 [[y3,y7,y3,(.c (.str [])),y3,y3,.nil,y3,y7,y10],[y3,y7,y3,(.c (.str [])),y3,y3,.nil,y11,y10,y7],[y14,y7,y3,(.c (.str [])),y3,y3,.nil,y3,y7,y10],[y14,y7,y3,(.c (.str [])),y3,y3,.nil,y11,y10,y7]] 0)
def y16:Obj:=(.arr 5 [[y8,(.c (.str [])),y3,y3,(.c (.sl []))]] 0)
def y17:List Obj:=[(.box [(.c (.sl [])),(.vw 1 2 0 0),(.vw 2 4 0 0),.un,(.arr 3 0),(.arr 4 0),y8,(.c (.str [])),y3,y3,(.c (.sl []))]),y13,y15,(.arr 5 [] 0),(.arr 6 [] 0)]
def y18:V:=(.tu [(.ag [(.c (.str [])),y7,.nil,.nil]),(.sc y7)])
def y19:List Obj:=[(.box [(.c (.sl [])),(.vw 1 2 0 0),(.vw 2 4 0 0),(.arr 5 1),(.arr 3 0),(.arr 4 0),y8,(.c (.str [])),y3,y3,(.c (.sl []))]),y13,y15,(.arr 5 [] 0),(.arr 6 [] 0),y16]
def e15_0:KE:=⟨15,[(.sc (.c (.str [108,101,116,32,102,32,58,32,97,32,45,62,32,97,32,61,32,92,120,46,32,63,59])))],[],y1,[]⟩
def e15_1:KE:=⟨15,[(.sc (.c (.str [108,101,116,32,102,32,58,32,97,32,45,62,32,97,32,61,32,92,120,46,32,120,59])))],[],(.ag [(.c (.sl [])),(.c (.sl [[(.int .i64 0),(.bool false),(.str [102]),(.bool true),(.int .i64 4),(.str [45,62]),(.int .i64 0),(.int .i64 0),(.sl [y0,y0]),(.int .i64 4),(.int .i64 17),(.str [120]),(.int .i64 0),(.sl [[(.int .i64 1),(.int .i64 21),(.str [120]),(.int .i64 0),(.sl []),(.sl []),(.int .i64 0),(.str []),(.int .i64 0),(.int .i64 0),(.sl [])]]),(.sl []),(.int .i64 0),(.str []),(.int .i64 0),(.int .i64 0),(.sl [])]]))]),[]⟩
def e31_0:KE:=⟨31,[y1],[],(.tu [(.ag [(.c (.sl [[(.int .i64 1),(.int .i64 4),(.str [45,62]),(.int .i64 0),(.int .i64 0),(.sl [y2,y2])]])),(.c (.sl [[(.int .i64 0),(.int .i64 21),(.sl [[(.str [120]),(.int .i64 0),(.int .i64 3),(.str []),(.int .i64 0),(.int .i64 0),(.sl [])]]),(.int .i64 3),(.str []),(.int .i64 0),(.int .i64 0),(.sl [])]])),(.c (.sl []))]),(.ag [y3,y3])]),[]⟩
def e16_0:KE:=⟨16,[y1,(.sc y3)],[],(.tu [(.sc (.c y4)),(.sc y3)]),[]⟩
def e87_0:KE:=⟨87,[(.ag [(.c (.sl [])),(.c (.sl [[(.int .i64 0),(.bool false),(.str [102]),(.bool true),(.int .i64 4),(.str [45,62]),(.int .i64 0),(.int .i64 0),(.sl [y0,y0]),(.int .i64 4),(.int .i64 0),(.str [120]),(.int .i64 0),y4,(.sl []),(.int .i64 0),(.str []),(.int .i64 0),(.int .i64 0),(.sl [])]]))])],[],(.sc (.c (.str [108,101,116,32,102,32,58,32,97,32,45,62,32,97,32,61,32,92,120,46,32,120,59,10]))),[]⟩
def e73_0:KE:=⟨73,[y5,y6,(.sc y7),y9,(.sc y3)],[(.box [(.c (.sl [])),(.arr 1 0),(.arr 2 0),(.arr 3 0),(.arr 4 0),(.arr 5 0),y8,(.c (.str [])),y3,y3,(.c (.sl []))]),(.arr 8 [] 0),(.arr 10 [] 0),(.arr 5 [] 0),(.arr 5 [] 0),(.arr 6 [] 0)],(.tu [(.ag [(.c (.str [120])),y7,(.c (.sl [])),(.full [])]),(.sc y10)]),[(.box [(.c (.sl [])),(.vw 1 2 0 0),(.vw 2 4 0 0),(.arr 6 1),(.arr 4 0),(.arr 5 0),y8,(.c (.str [])),y3,y3,(.c (.sl []))]),y13,y15,(.arr 5 [] 0),(.arr 5 [] 0),(.arr 6 [] 0),y16]⟩
def e73_1:KE:=⟨73,[y5,y6,(.sc y7),y9,(.sc y14)],y17,y18,y19⟩
def e73_2:KE:=⟨73,[y5,y6,(.sc y7),y9,(.sc (.c (.int .i64 2)))],y17,y18,y19⟩
def e73_3:KE:=⟨73,[y5,y6,(.sc y7),y9,(.sc y8)],y17,y18,y19⟩
/-- The deferred closure's calls. -/
def oD:Oracle:=fun f args objs=>bif f==137 then evC (evk [] 300) gl0 300 v137 args objs else none
theorem nilK:∀ e∈([]:List KE),KOk e:=fun _ h=>nomatch h
theorem okE:OracleOk prog ⟨evk [] 300,gl0⟩:=fun f args objs rv objs' h=>evk_ok (l:=[]) (n:=300) nilK (show evk [] 300 f args objs=some (rv,objs') from h)
theorem m137:mFun prog 137 v137=true:=by kernel_rfl
theorem nb137:noB v137.body=true:=by kernel_rfl
theorem dr137:(dropsOf v137.body).all (fun k=>Nat.ble 64 k)=true:=by kernel_rfl
theorem oD_ok:∀ f args objs rv objs',oD f args objs=some (rv,objs')→FnOkK prog (CallsD prog) gl0 f args objs rv objs':=by
  intro f args objs rv objs' h
  unfold oD at h
  cases hc:(f==137) with
  | false=>rw [hc] at h;cases h
  | true=>
    rw [hc] at h
    simp only [beq_iff_eq] at hc
    subst hc
    exact evC_ok follows okE m137 nb137 dr137 h
end
end Go.Vs.Tryz
