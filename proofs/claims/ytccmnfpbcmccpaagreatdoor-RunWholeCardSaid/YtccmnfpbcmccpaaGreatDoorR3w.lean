/- All data declarations, parsed: each declaration by the kernel. -/
import Derived.Test.YtccmnfpbcmccpaaGreatDoorR2w
set_option linter.all false
set_option maxRecDepth 100000
namespace Go.Vs
open Go
section
variable {C:Ctx}{E:LV1}{L:LO1}{oid:Nat}
def Mt (L:LO1)(oid:Nat)(y:List W×Upd):Option (V×Upd):=bif y.2.all (fun u=>(L u.1).isNone) then some (.sc (.ptr oid 0),y.2++[(oid,some (.box y.1))]) else none
@[simp] theorem newOwn_eq {cs:List W} {u:Upd}:Mt L oid (cs,u)=bif u.all (fun u=>(L u.1).isNone) then some (.sc (.ptr oid 0),u++[(oid,some (.box cs))]) else none:=rfl
@[simp] theorem x_newOwn {cells:List W} {p:Nat×Nat} {own:List (Nat×Nat)}:Af C E L oid (.new cells (p::own))=newK (L oid) (Mt L oid (ownW oid (p::own) 0 cells)):=by
 simp only[Af,newK,Mt];cases L oid<;>rfl
end
end Go.Vs
namespace Go.Vs.Tryz
open Go Go.Vs
theorem YL:Kx.call 75 [.sc (.c (.sl allToks)),.sc (.c (.int .i64 0))] []=some (.sc (.ptr 0 0),[.box [.c (.sl allToks),.c (.int .i64 0),.c (.bool false),.c (.int .i64 0)]]):=Qq (n:=40) (by kernel_rfl)
def ds7:List DataD:=[
 ⟨0,[66,111,111,108],[],[⟨12,[84,114,117,101],[]⟩,⟨19,[70,97,108,115,101],[]⟩]⟩,
 ⟨26,[79,112,116,105,111,110],[[97]],[⟨42,[78,111,110,101],[]⟩,⟨49,[83,111,109,101],[(.mk 5 [97] 0 0 [])]⟩]⟩,
 ⟨57,[76,105,115,116],[[97]],[⟨71,[78,105,108],[]⟩,⟨77,[67,111,110,115],[(.mk 5 [97] 0 0 []),(.mk 4 [76,105,115,116] 0 0 [(.mk 5 [97] 0 0 [])])]⟩]⟩,
 ⟨93,[80,97,105,114],[[97],[98]],[⟨109,[80,97,105,114],[(.mk 5 [97] 0 0 []),(.mk 5 [98] 0 0 [])]⟩]⟩,
 ⟨119,[78,97,116],[],[⟨130,[90,101,114,111],[]⟩,⟨137,[83,117,99,99],[(.mk 4 [78,97,116] 0 0 [])]⟩]⟩,
 ⟨147,[70,117,110],[[97],[98]],[⟨162,[70,117,110],[(.mk 4 [45,62] 0 0 [(.mk 5 [97] 0 0 []),(.mk 5 [98] 0 0 [])])]⟩]⟩,
 ⟨176,[84,119,111],[[97]],[⟨189,[66,111,116,104],[(.mk 5 [97] 0 0 []),(.mk 5 [97] 0 0 [])]⟩,⟨200,[79,110,101],[(.mk 4 [79,112,116,105,111,110] 0 0 [(.mk 5 [97] 0 0 [])])]⟩]⟩]
def CB (n I:Nat):St:=⟨[(2,.sc (.ptr 64 0)),(3,.sc (.ptr 128 0)),(5,.sc (.ptr 512 0)),(4,.sc (.c (.sl allToks))),(6,.sc (.ptr 1152 0)),(7,.sc (.ptr 1312 0))],
 [(64,some (.box [.nil,.nil])),(128,some (.box [zi,zi])),(512,some (.box [zi,zi])),(1153,some (.arr 4 (wr (AM (ds7.take n))) 0)),(1154,some (.arr 20 [] 0)),(1152,some (.box [.arr 1153 n,.arr 1154 0])),
   (1312,some (.box [.c (.sl allToks),.c (.int .i64 I),.c (.bool false),zi]))]++(match n with | 0=>[] | m+1=>[(2688,some (.arr 4 (wr (AM ((ds7.drop m).take 1))) 0))])⟩
theorem Zc1:run ⟨Bi T3 X3 gl0 100,gl0⟩ 100 ES (CB 0 0)=some (.normal,CB 1 7):=by kernel_rfl
theorem Zay:run ⟨Bi T3 X3 gl0 100,gl0⟩ 100 ES (CB 1 7)=some (.normal,CB 2 16):=by kernel_rfl
theorem ZhL:run ⟨Bi T3 X3 gl0 100,gl0⟩ 100 ES (CB 2 16)=some (.normal,CB 3 29):=by kernel_rfl
theorem ZaF:run ⟨Bi T3 X3 gl0 100,gl0⟩ 100 ES (CB 3 29)=some (.normal,CB 4 38):=by kernel_rfl
theorem ZfJ:run ⟨Bi T3 X3 gl0 100,gl0⟩ 100 ES (CB 4 38)=some (.normal,CB 5 46):=by kernel_rfl
theorem Zf5:run ⟨Bi T3 X3 gl0 100,gl0⟩ 100 ES (CB 5 46)=some (.normal,CB 6 58):=by kernel_rfl
theorem ZbP:run ⟨Bi T3 X3 gl0 100,gl0⟩ 100 ES (CB 6 58)=some (.normal,CB 7 72):=by kernel_rfl
theorem ZJ:Kx.call 123 [.ag [.c (.sl (AM ds7)),.c (.sl [])]] []=some (.ag [zi,zi],[]):=Qq (n:=40) (by kernel_rfl)
def Oe:Nat->Nat
 |0=>0
 |1=>7
 |2=>16
 |3=>29
 |4=>38
 |5=>46
 |6=>58
 |7=>72
 |_=>0
theorem Zet:Kx.call 72 [.sc (.c (.str allText))] []=some (.tu [.ag [.c (.sl (AM ds7)),.c (.sl [])],.ag [zi,zi]],[]):=by
 refine fn_x (vf:=v72) (by kernel_rfl) rfl sy ?_;have h1:=ZbG;have h2:=YL;have h3:=ZJ;have hl:allToks.length=72:=by kernel_rfl
 have hd:ds7.take 7=ds7:=by kernel_rfl
 have hd2:ds7.length=7:=by kernel_rfl
 unfold v72;simp(disch:=try exact zd) [h1,h2];refine Am (fun i=>CB i (Oe i)) 7 ?_ ?_ ?_
 .simp[CB,Oe,AM]
 .intro i hi
  match i,hi with
  |0,_=>exact Fc Zc1 ⟨rfl,rfl⟩
  |1,_=>exact Fc Zay ⟨rfl,rfl⟩
  |2,_=>exact Fc ZhL ⟨rfl,rfl⟩
  |3,_=>exact Fc ZaF ⟨rfl,rfl⟩
  |4,_=>exact Fc ZfJ ⟨rfl,rfl⟩
  |5,_=>exact Fc Zf5 ⟨rfl,rfl⟩
  |6,_=>exact Fc ZbP ⟨rfl,rfl⟩
  |i+7,hi=>omega
 .simp only [Oe,CB,hd]
  generalize allToks=tk at *
  unfold ES;simp(disch:=try exact zd) [hl,hd2,h3]
theorem ZhR:Kx.call 81 [] []=some (.sc (.c (.sl (AM ds7))),[]):=by
 refine fn_x (vf:=v81) (by kernel_rfl) rfl sy ?_;have h1:=Zet;unfold allText at h1;generalize AM ds7=rows at *
 unfold v81;simp(disch:=try exact zd) [h1]
theorem ZcD:FnOk Go.Proofs.Tryz.prog gl0 81 [] [] (.sc (.c (.sl (AM ds7)))) []:=by
 obtain⟨n,h⟩:=Lp ZhR;exact NF follows Zdo ZcY n h
end Go.Vs.Tryz
