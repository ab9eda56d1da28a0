/- All data declarations, parsed: each declaration by the kernel. -/
import Derived.Test.YtccmnfpbcmccpaaGreatDoorR2p
set_option linter.unusedSimpArgs false
set_option linter.unusedVariables false
set_option linter.deprecated false
set_option maxRecDepth 100000
namespace Go.Vs
open Go
section
variable {C:Ctx}{E:Nat->Option V}{L:Nat->Option Obj}{oid:Nat}
def K7 (L:Nat->Option Obj)(oid:Nat)(y:List W×Upd):Option (V×Upd):=bif y.2.all (fun u=>(L u.1).isNone) then some (.sc (.ptr oid 0),y.2++[(oid,some (.box y.1))]) else none
@[simp] theorem newOwn_eq {cs:List W} {u:Upd}:K7 L oid (cs,u)=bif u.all (fun u=>(L u.1).isNone) then some (.sc (.ptr oid 0),u++[(oid,some (.box cs))]) else none:=rfl
@[simp] theorem x_newOwn {cells:List W} {p:Nat×Nat} {own:List (Nat×Nat)}:Ad C E L oid (.new cells (p::own))=newK (L oid) (K7 L oid (ownW oid (p::own) 0 cells)):=by
 simp only[Ad,newK,K7];cases L oid<;>rfl
end
end Go.Vs
namespace Go.Vs.Tryz
open Go Go.Vs
theorem Ws:Kx.call 75 [.sc (.c (.sl allToks)),.sc (.c (.int .i64 0))] []=some (.sc (.ptr 0 0),[.box [.c (.sl allToks),.c (.int .i64 0),.c (.bool false),.c (.int .i64 0)]]):=Uj (n:=40) (by kernel_rfl)
def ds7:List DataD:=[
 ⟨0,[66,111,111,108],[],[⟨12,[84,114,117,101],[]⟩,⟨19,[70,97,108,115,101],[]⟩]⟩,
 ⟨26,[79,112,116,105,111,110],[[97]],[⟨42,[78,111,110,101],[]⟩,⟨49,[83,111,109,101],[(.mk 5 [97] 0 0 [])]⟩]⟩,
 ⟨57,[76,105,115,116],[[97]],[⟨71,[78,105,108],[]⟩,⟨77,[67,111,110,115],[(.mk 5 [97] 0 0 []),(.mk 4 [76,105,115,116] 0 0 [(.mk 5 [97] 0 0 [])])]⟩]⟩,
 ⟨93,[80,97,105,114],[[97],[98]],[⟨109,[80,97,105,114],[(.mk 5 [97] 0 0 []),(.mk 5 [98] 0 0 [])]⟩]⟩,
 ⟨119,[78,97,116],[],[⟨130,[90,101,114,111],[]⟩,⟨137,[83,117,99,99],[(.mk 4 [78,97,116] 0 0 [])]⟩]⟩,
 ⟨147,[70,117,110],[[97],[98]],[⟨162,[70,117,110],[(.mk 4 [45,62] 0 0 [(.mk 5 [97] 0 0 []),(.mk 5 [98] 0 0 [])])]⟩]⟩,
 ⟨176,[84,119,111],[[97]],[⟨189,[66,111,116,104],[(.mk 5 [97] 0 0 []),(.mk 5 [97] 0 0 [])]⟩,⟨200,[79,110,101],[(.mk 4 [79,112,116,105,111,110] 0 0 [(.mk 5 [97] 0 0 [])])]⟩]⟩]
def Co (n I:Nat):St:=⟨[(2,.sc (.ptr 64 0)),(3,.sc (.ptr 128 0)),(5,.sc (.ptr 512 0)),(4,.sc (.c (.sl allToks))),(6,.sc (.ptr 1152 0)),(7,.sc (.ptr 1312 0))],
 [(64,some (.box [.nil,.nil])),(128,some (.box [zi,zi])),(512,some (.box [zi,zi])),(1153,some (.arr 4 (wr (AC (ds7.take n))) 0)),(1154,some (.arr 20 [] 0)),(1152,some (.box [.arr 1153 n,.arr 1154 0])),
   (1312,some (.box [.c (.sl allToks),.c (.int .i64 I),.c (.bool false),zi]))]++(match n with | 0=>[] | m+1=>[(2688,some (.arr 4 (wr (AC ((ds7.drop m).take 1))) 0))])⟩
theorem Zd2:run ⟨Bg T3 X3 gl0 100,gl0⟩ 100 ED (Co 0 0)=some (.normal,Co 1 7):=by kernel_rfl
theorem Yl:run ⟨Bg T3 X3 gl0 100,gl0⟩ 100 ED (Co 1 7)=some (.normal,Co 2 16):=by kernel_rfl
theorem ZaJ:run ⟨Bg T3 X3 gl0 100,gl0⟩ 100 ED (Co 2 16)=some (.normal,Co 3 29):=by kernel_rfl
theorem Zcv:run ⟨Bg T3 X3 gl0 100,gl0⟩ 100 ED (Co 3 29)=some (.normal,Co 4 38):=by kernel_rfl
theorem WZ:run ⟨Bg T3 X3 gl0 100,gl0⟩ 100 ED (Co 4 38)=some (.normal,Co 5 46):=by kernel_rfl
theorem Zs:run ⟨Bg T3 X3 gl0 100,gl0⟩ 100 ED (Co 5 46)=some (.normal,Co 6 58):=by kernel_rfl
theorem W9:run ⟨Bg T3 X3 gl0 100,gl0⟩ 100 ED (Co 6 58)=some (.normal,Co 7 72):=by kernel_rfl
theorem ZeN:Kx.call 123 [.ag [.c (.sl (AC ds7)),.c (.sl [])]] []=some (.ag [zi,zi],[]):=Uj (n:=40) (by kernel_rfl)
def MM:Nat->Nat
 |0=>0
 |1=>7
 |2=>16
 |3=>29
 |4=>38
 |5=>46
 |6=>58
 |7=>72
 |_=>0
theorem Zd6:Kx.call 72 [.sc (.c (.str allText))] []=some (.tu [.ag [.c (.sl (AC ds7)),.c (.sl [])],.ag [zi,zi]],[]):=by
 refine fn_x (vf:=v72) (by kernel_rfl) rfl (by simp) ?_;have h1:=ZbK;have h2:=Ws;have h3:=ZeN;have hl:allToks.length=72:=by kernel_rfl
 have hd:ds7.take 7=ds7:=by kernel_rfl
 have hd2:ds7.length=7:=by kernel_rfl
 unfold v72;simp(disch:=try exact zd) [h1,h2];refine Ap (fun i=>Co i (MM i)) 7 ?_ ?_ ?_
 .simp[Co,MM,AC]
 .intro i hi
  match i,hi with
  |0,_=>exact Fl Zd2 ⟨rfl,rfl⟩
  |1,_=>exact Fl Yl ⟨rfl,rfl⟩
  |2,_=>exact Fl ZaJ ⟨rfl,rfl⟩
  |3,_=>exact Fl Zcv ⟨rfl,rfl⟩
  |4,_=>exact Fl WZ ⟨rfl,rfl⟩
  |5,_=>exact Fl Zs ⟨rfl,rfl⟩
  |6,_=>exact Fl W9 ⟨rfl,rfl⟩
  |i+7,hi=>omega
 .simp only [MM,Co,hd]
  generalize allToks=tk at *
  unfold ED;simp(disch:=try exact zd) [hl,hd2,h3]
theorem Y0:Kx.call 81 [] []=some (.sc (.c (.sl (AC ds7))),[]):=by
 refine fn_x (vf:=v81) (by kernel_rfl) rfl (by simp) ?_;have h1:=Zd6;unfold allText at h1;generalize AC ds7=rows at *
 unfold v81;simp(disch:=try exact zd) [h1]
theorem ZeO:FnOk Go.Proofs.Tryz.prog gl0 81 [] [] (.sc (.c (.sl (AC ds7)))) []:=by
 obtain⟨n,h⟩:=JL Y0;exact LR follows Zc7 ZdB n h
end Go.Vs.Tryz
