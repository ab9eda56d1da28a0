/- Chapter 26's example: the longest of its parses. -/
import Derived.Test.YtccmnfpbcmccpaaGreatDoorR4a
import Derived.Test.YtccmnfpbcmccpaaGreatDoorR3a
set_option linter.unusedSimpArgs false
set_option linter.unusedVariables false
set_option linter.deprecated false
set_option maxRecDepth 100000
namespace Go.Vs.Tryz
open Go Go.Vs
def Zvn:List V:=[(.sc (.c (.str [99,97,115,101,32,67,111,110,115,32,49,32,78,105,108,32,111,102,32,78,105,108,46,32,48,32,124,32,67,111,110,115,32,120,32,121,46,32,120,32,101,110,100])))]
def ZrW:V:=(.ag [(.c (.int .i64 8)),(.c (.int .i64 0)),(.c (.str [])),(.c (.int .i64 0)),(.c (.sl [[(.int .i64 5),(.int .i64 5),(.str []),(.int .i64 0),(.sl [[(.int .i64 5),(.int .i64 5),(.str []),(.int .i64 0),(.sl [[(.int .i64 2),(.int .i64 5),(.str [67,111,110,115]),(.int .i64 0),(.sl []),(.sl []),(.int .i64 0),(.str []),(.int .i64 0),(.int .i64 0),(.sl [])],[(.int .i64 3),(.int .i64 10),(.str []),(.int .i64 1),(.sl []),(.sl []),(.int .i64 0),(.str []),(.int .i64 0),(.int .i64 0),(.sl [])]]),(.sl []),(.int .i64 0),(.str []),(.int .i64 0),(.int .i64 0),(.sl [])],[(.int .i64 2),(.int .i64 12),(.str [78,105,108]),(.int .i64 0),(.sl []),(.sl []),(.int .i64 0),(.str []),(.int .i64 0),(.int .i64 0),(.sl [])]]),(.sl []),(.int .i64 0),(.str []),(.int .i64 0),(.int .i64 0),(.sl [])]])),(.c (.sl [[(.int .i64 19),(.str [78,105,108]),(.sl []),(.int .i64 3),(.int .i64 24),(.str []),(.int .i64 0),(.sl []),(.sl []),(.int .i64 0),(.str []),(.int .i64 0),(.int .i64 0),(.sl [])],[(.int .i64 28),(.str [67,111,110,115]),(.sl [[(.str [120])],[(.str [121])]]),(.int .i64 1),(.int .i64 38),(.str [120]),(.int .i64 0),(.sl []),(.sl []),(.int .i64 0),(.str []),(.int .i64 0),(.int .i64 0),(.sl [])]])),(.c (.int .i64 0)),(.c (.str [])),(.c (.int .i64 0)),(.c (.int .i64 0)),(.c (.sl []))])
theorem Zx6:(ev 60 39 Zvn []).map (Zci false)=some (ZrW,[]):=by kernel_rfl
def Zt5:List V:=[(.sc (.c (.str [40,92,120,46,32,120,41,32,49])))]
def ZtR:V:=(.ag [(.c (.int .i64 5)),(.c (.int .i64 1)),(.c (.str [])),(.c (.int .i64 0)),(.c (.sl [[(.int .i64 4),(.int .i64 1),(.str [120]),(.int .i64 0),(.sl [[(.int .i64 1),(.int .i64 5),(.str [120]),(.int .i64 0),(.sl []),(.sl []),(.int .i64 0),(.str []),(.int .i64 0),(.int .i64 0),(.sl [])]]),(.sl []),(.int .i64 0),(.str []),(.int .i64 0),(.int .i64 0),(.sl [])],[(.int .i64 3),(.int .i64 8),(.str []),(.int .i64 1),(.sl []),(.sl []),(.int .i64 0),(.str []),(.int .i64 0),(.int .i64 0),(.sl [])]])),(.c (.sl [])),(.c (.int .i64 0)),(.c (.str [])),(.c (.int .i64 0)),(.c (.int .i64 0)),(.c (.sl []))])
theorem Zwi:(ev 60 39 Zt5 []).map (Zci false)=some (ZtR,[]):=by kernel_rfl
def ZsO:List V:=[(.sc (.c (.str [102,32,49,32,50])))]
def Zto:V:=(.ag [(.c (.int .i64 5)),(.c (.int .i64 0)),(.c (.str [])),(.c (.int .i64 0)),(.c (.sl [[(.int .i64 5),(.int .i64 0),(.str []),(.int .i64 0),(.sl [[(.int .i64 1),(.int .i64 0),(.str [102]),(.int .i64 0),(.sl []),(.sl []),(.int .i64 0),(.str []),(.int .i64 0),(.int .i64 0),(.sl [])],[(.int .i64 3),(.int .i64 2),(.str []),(.int .i64 1),(.sl []),(.sl []),(.int .i64 0),(.str []),(.int .i64 0),(.int .i64 0),(.sl [])]]),(.sl []),(.int .i64 0),(.str []),(.int .i64 0),(.int .i64 0),(.sl [])],[(.int .i64 3),(.int .i64 4),(.str []),(.int .i64 2),(.sl []),(.sl []),(.int .i64 0),(.str []),(.int .i64 0),(.int .i64 0),(.sl [])]])),(.c (.sl [])),(.c (.int .i64 0)),(.c (.str [])),(.c (.int .i64 0)),(.c (.int .i64 0)),(.c (.sl []))])
theorem Zxn:(ev 60 39 ZsO []).map (Zci false)=some (Zto,[]):=by kernel_rfl
def Zuu:List V:=[(.sc (.c (.str [49])))]
def Zvl:V:=(.ag [(.c (.int .i64 3)),(.c (.int .i64 0)),(.c (.str [])),(.c (.int .i64 1)),(.c (.sl [])),(.c (.sl [])),(.c (.int .i64 0)),(.c (.str [])),(.c (.int .i64 0)),(.c (.int .i64 0)),(.c (.sl []))])
theorem ZxQ:(ev 60 39 Zuu []).map (Zci false)=some (Zvl,[]):=by kernel_rfl
def ZuA:List V:=[(.sc (.c (.str [67,111,110,115,32,63,32,78,105,108])))]
def ZsH:V:=(.ag [(.c (.int .i64 5)),(.c (.int .i64 0)),(.c (.str [])),(.c (.int .i64 0)),(.c (.sl [[(.int .i64 5),(.int .i64 0),(.str []),(.int .i64 0),(.sl [[(.int .i64 2),(.int .i64 0),(.str [67,111,110,115]),(.int .i64 0),(.sl []),(.sl []),(.int .i64 0),(.str []),(.int .i64 0),(.int .i64 0),(.sl [])],[(.int .i64 10),(.int .i64 5),(.str []),(.int .i64 0),(.sl []),(.sl []),(.int .i64 0),(.str []),(.int .i64 0),(.int .i64 0),(.sl [])]]),(.sl []),(.int .i64 0),(.str []),(.int .i64 0),(.int .i64 0),(.sl [])],[(.int .i64 2),(.int .i64 7),(.str [78,105,108]),(.int .i64 0),(.sl []),(.sl []),(.int .i64 0),(.str []),(.int .i64 0),(.int .i64 0),(.sl [])]])),(.c (.sl [])),(.c (.int .i64 0)),(.c (.str [])),(.c (.int .i64 0)),(.c (.int .i64 0)),(.c (.sl []))])
theorem ZwX:(ev 60 39 ZuA []).map (Zci false)=some (ZsH,[]):=by kernel_rfl
def Zot:List V:=[(.sc (.c (.str [63])))]
def ZpI:V:=(.ag [(.c (.int .i64 10)),(.c (.int .i64 0)),(.c (.str [])),(.c (.int .i64 0)),(.c (.sl [])),(.c (.sl [])),(.c (.int .i64 0)),(.c (.str [])),(.c (.int .i64 0)),(.c (.int .i64 0)),(.c (.sl []))])
theorem ZtK:(ev 60 39 Zot []).map (Zci false)=some (ZpI,[]):=by kernel_rfl
theorem Zhl {T:FuncId->Option VFun}(hT:∀f vf,T f=some vf->mFun Go.Proofs.Tryz.prog f vf=true){m:Znu}(hm:∀p∈m,FnOk Go.Proofs.Tryz.prog gl0 p.1 p.2.1 [] p.2.2 []){f:FuncId}{n:Nat}{args:List V}{res:V}
 (h:(ZdE (fun g=>bif g==f then T g else none) (fun g args objs=>match objs with | []=>ZtP m g args | _=>none) gl0 n f args []).map (Zci false)=some (res,[])):FnOk Go.Proofs.Tryz.prog gl0 f args [] res []:=by
 obtain⟨y,h1,h2⟩:=qq.1 h;have:=(Zoq (rv:=y.1) (objs':=y.2) follows hT hm h1).norm false;rw[show Zci false (y.1,y.2)=(res,[])from h2]at this;exact this
def Zs4:List V:=[]
def ZkL:V:=(.sc (.c (.sl [[(.int .i64 57),(.str [76,105,115,116]),(.sl [[(.str [97])]]),(.sl [[(.int .i64 71),(.str [78,105,108]),(.sl [])],[(.int .i64 77),(.str [67,111,110,115]),(.sl [[(.int .i64 5),(.str [97]),(.int .i64 0),(.int .i64 0),(.sl [])],[(.int .i64 4),(.str [76,105,115,116]),(.int .i64 0),(.int .i64 0),(.sl [[(.int .i64 5),(.str [97]),(.int .i64 0),(.int .i64 0),(.sl [])]])]])]])],[(.int .i64 93),(.str [80,97,105,114]),(.sl [[(.str [97])],[(.str [98])]]),(.sl [[(.int .i64 109),(.str [80,97,105,114]),(.sl [[(.int .i64 5),(.str [97]),(.int .i64 0),(.int .i64 0),(.sl [])],[(.int .i64 5),(.str [98]),(.int .i64 0),(.int .i64 0),(.sl [])]])]])]])))
theorem Zr3:∀p∈([(81,[],Zap ds7)]:Znu),FnOk Go.Proofs.Tryz.prog gl0 p.1 p.2.1 [] p.2.2 []:=by
 intro p hp;simp only[qz,qW,or_false]at hp;subst hp;exact ZyL
theorem r26k42:FnOk Go.Proofs.Tryz.prog gl0 42 [intV 12] [] ZkL []:=Zhl (n:=60) T_ok Zr3 (by kernel_rfl)
theorem Zum:∀p∈([(42,[intV 12],ZkL)]:Znu),FnOk Go.Proofs.Tryz.prog gl0 p.1 p.2.1 [] p.2.2 []:=by
 intro p hp;simp only[qz,qW,or_false]at hp;subst hp;exact r26k42
theorem r26fn2:FnOk Go.Proofs.Tryz.prog gl0 40 Zs4 [] ZkL []:=Zhl (n:=60) T_ok Zum (by kernel_rfl)
theorem Zbo {n:Nat}{f:FuncId}{args:List V}{res:V}(h:(ev n f args []).map (Zci false)=some (res,[])):FnOk Go.Proofs.Tryz.prog gl0 f args [] res []:=by
 obtain⟨y,h1,h2⟩:=qq.1 h;have:=(ev_ok (rv:=y.1) (objs':=y.2) h1).norm false;rw[show Zci false (y.1,y.2)=(res,[])from h2]at this;exact this
def Zr8:List V:=[(.sc (.c (.sl []))),(.ag [(.c (.int .i64 5)),(.c (.int .i64 1)),(.c (.str [])),(.c (.int .i64 0)),(.c (.sl [[(.int .i64 4),(.int .i64 1),(.str [120]),(.int .i64 0),(.sl [[(.int .i64 1),(.int .i64 5),(.str [120]),(.int .i64 0),(.sl []),(.sl []),(.int .i64 0),(.str []),(.int .i64 0),(.int .i64 0),(.sl [])]]),(.sl []),(.int .i64 0),(.str []),(.int .i64 0),(.int .i64 0),(.sl [])],[(.int .i64 3),(.int .i64 8),(.str []),(.int .i64 1),(.sl []),(.sl []),(.int .i64 0),(.str []),(.int .i64 0),(.int .i64 0),(.sl [])]])),(.c (.sl [])),(.c (.int .i64 0)),(.c (.str [])),(.c (.int .i64 0)),(.c (.int .i64 0)),(.c (.sl []))])]
def Zrz:V:=(.tu [(.ag [(.c (.int .i64 3)),(.c (.int .i64 0)),(.c (.str [])),(.c (.int .i64 1)),(.c (.sl [])),(.c (.sl [])),(.c (.int .i64 0)),(.c (.str [])),(.c (.int .i64 0)),(.c (.int .i64 0)),(.c (.sl []))]),(.sc (.c (.int .i64 1))),(.sc (.c (.bool true)))])
theorem Zws:(ev 60 16 Zr8 []).map (Zci false)=some (Zrz,[]):=by kernel_rfl
def ZrY:List V:=[(.sc (.c (.sl [[(.int .i64 57),(.str [76,105,115,116]),(.sl [[(.str [97])]]),(.sl [[(.int .i64 71),(.str [78,105,108]),(.sl [])],[(.int .i64 77),(.str [67,111,110,115]),(.sl [[(.int .i64 5),(.str [97]),(.int .i64 0),(.int .i64 0),(.sl [])],[(.int .i64 4),(.str [76,105,115,116]),(.int .i64 0),(.int .i64 0),(.sl [[(.int .i64 5),(.str [97]),(.int .i64 0),(.int .i64 0),(.sl [])]])]])]])],[(.int .i64 93),(.str [80,97,105,114]),(.sl [[(.str [97])],[(.str [98])]]),(.sl [[(.int .i64 109),(.str [80,97,105,114]),(.sl [[(.int .i64 5),(.str [97]),(.int .i64 0),(.int .i64 0),(.sl [])],[(.int .i64 5),(.str [98]),(.int .i64 0),(.int .i64 0),(.sl [])]])]])]]))),(.ag [(.c (.int .i64 8)),(.c (.int .i64 0)),(.c (.str [])),(.c (.int .i64 0)),(.c (.sl [[(.int .i64 5),(.int .i64 5),(.str []),(.int .i64 0),(.sl [[(.int .i64 5),(.int .i64 5),(.str []),(.int .i64 0),(.sl [[(.int .i64 2),(.int .i64 5),(.str [67,111,110,115]),(.int .i64 0),(.sl []),(.sl []),(.int .i64 0),(.str []),(.int .i64 0),(.int .i64 0),(.sl [])],[(.int .i64 3),(.int .i64 10),(.str []),(.int .i64 1),(.sl []),(.sl []),(.int .i64 0),(.str []),(.int .i64 0),(.int .i64 0),(.sl [])]]),(.sl []),(.int .i64 0),(.str []),(.int .i64 0),(.int .i64 0),(.sl [])],[(.int .i64 2),(.int .i64 12),(.str [78,105,108]),(.int .i64 0),(.sl []),(.sl []),(.int .i64 0),(.str []),(.int .i64 0),(.int .i64 0),(.sl [])]]),(.sl []),(.int .i64 0),(.str []),(.int .i64 0),(.int .i64 0),(.sl [])]])),(.c (.sl [[(.int .i64 19),(.str [78,105,108]),(.sl []),(.int .i64 3),(.int .i64 24),(.str []),(.int .i64 0),(.sl []),(.sl []),(.int .i64 0),(.str []),(.int .i64 0),(.int .i64 0),(.sl [])],[(.int .i64 28),(.str [67,111,110,115]),(.sl [[(.str [120])],[(.str [121])]]),(.int .i64 1),(.int .i64 38),(.str [120]),(.int .i64 0),(.sl []),(.sl []),(.int .i64 0),(.str []),(.int .i64 0),(.int .i64 0),(.sl [])]])),(.c (.int .i64 0)),(.c (.str [])),(.c (.int .i64 0)),(.c (.int .i64 0)),(.c (.sl []))])]
def ZsW:V:=(.tu [(.ag [(.c (.int .i64 3)),(.c (.int .i64 0)),(.c (.str [])),(.c (.int .i64 1)),(.c (.sl [])),(.c (.sl [])),(.c (.int .i64 0)),(.c (.str [])),(.c (.int .i64 0)),(.c (.int .i64 0)),(.c (.sl []))]),(.sc (.c (.int .i64 4))),(.sc (.c (.bool true)))])
theorem ZxX:(ev 60 16 ZrY []).map (Zci false)=some (ZsW,[]):=by kernel_rfl
def Zrx:List V:=[(.ag [(.c (.int .i64 5)),(.c (.int .i64 0)),(.c (.str [])),(.c (.int .i64 0)),(.c (.sl [[(.int .i64 5),(.int .i64 0),(.str []),(.int .i64 0),(.sl [[(.int .i64 1),(.int .i64 0),(.str [102]),(.int .i64 0),(.sl []),(.sl []),(.int .i64 0),(.str []),(.int .i64 0),(.int .i64 0),(.sl [])],[(.int .i64 3),(.int .i64 2),(.str []),(.int .i64 1),(.sl []),(.sl []),(.int .i64 0),(.str []),(.int .i64 0),(.int .i64 0),(.sl [])]]),(.sl []),(.int .i64 0),(.str []),(.int .i64 0),(.int .i64 0),(.sl [])],[(.int .i64 3),(.int .i64 4),(.str []),(.int .i64 2),(.sl []),(.sl []),(.int .i64 0),(.str []),(.int .i64 0),(.int .i64 0),(.sl [])]])),(.c (.sl [])),(.c (.int .i64 0)),(.c (.str [])),(.c (.int .i64 0)),(.c (.int .i64 0)),(.c (.sl []))])]
def ZvA:V:=(.tu [(.ag [(.c (.int .i64 1)),(.c (.int .i64 0)),(.c (.str [102])),(.c (.int .i64 0)),(.c (.sl [])),(.c (.sl [])),(.c (.int .i64 0)),(.c (.str [])),(.c (.int .i64 0)),(.c (.int .i64 0)),(.c (.sl []))]),(.sc (.c (.sl [[(.int .i64 3),(.int .i64 2),(.str []),(.int .i64 1),(.sl []),(.sl []),(.int .i64 0),(.str []),(.int .i64 0),(.int .i64 0),(.sl [])],[(.int .i64 3),(.int .i64 4),(.str []),(.int .i64 2),(.sl []),(.sl []),(.int .i64 0),(.str []),(.int .i64 0),(.int .i64 0),(.sl [])]])))])
theorem Zwj:(ev 60 41 Zrx []).map (Zci false)=some (ZvA,[]):=by kernel_rfl
def ZrQ:List V:=[(.ag [(.c (.int .i64 3)),(.c (.int .i64 0)),(.c (.str [])),(.c (.int .i64 1)),(.c (.sl [])),(.c (.sl [])),(.c (.int .i64 0)),(.c (.str [])),(.c (.int .i64 0)),(.c (.int .i64 0)),(.c (.sl []))]),(.ag [(.c (.int .i64 3)),(.c (.int .i64 0)),(.c (.str [])),(.c (.int .i64 1)),(.c (.sl [])),(.c (.sl [])),(.c (.int .i64 0)),(.c (.str [])),(.c (.int .i64 0)),(.c (.int .i64 0)),(.c (.sl []))])]
def ZtG:V:=(.sc (.c (.bool true)))
theorem Zv4:(ev 60 18 ZrQ []).map (Zci false)=some (ZtG,[]):=by kernel_rfl
def Zqg:List V:=[(.ag [(.c (.int .i64 5)),(.c (.int .i64 0)),(.c (.str [])),(.c (.int .i64 0)),(.c (.sl [[(.int .i64 5),(.int .i64 0),(.str []),(.int .i64 0),(.sl [[(.int .i64 2),(.int .i64 0),(.str [67,111,110,115]),(.int .i64 0),(.sl []),(.sl []),(.int .i64 0),(.str []),(.int .i64 0),(.int .i64 0),(.sl [])],[(.int .i64 10),(.int .i64 5),(.str []),(.int .i64 0),(.sl []),(.sl []),(.int .i64 0),(.str []),(.int .i64 0),(.int .i64 0),(.sl [])]]),(.sl []),(.int .i64 0),(.str []),(.int .i64 0),(.int .i64 0),(.sl [])],[(.int .i64 2),(.int .i64 7),(.str [78,105,108]),(.int .i64 0),(.sl []),(.sl []),(.int .i64 0),(.str []),(.int .i64 0),(.int .i64 0),(.sl [])]])),(.c (.sl [])),(.c (.int .i64 0)),(.c (.str [])),(.c (.int .i64 0)),(.c (.int .i64 0)),(.c (.sl []))])]
def ZpY:V:=(.sc (.c (.bool true)))
theorem ZtF:(ev 60 19 Zqg []).map (Zci false)=some (ZpY,[]):=by kernel_rfl
def ZoM:List V:=[(.ag [(.c (.int .i64 10)),(.c (.int .i64 0)),(.c (.str [])),(.c (.int .i64 0)),(.c (.sl [])),(.c (.sl [])),(.c (.int .i64 0)),(.c (.str [])),(.c (.int .i64 0)),(.c (.int .i64 0)),(.c (.sl []))])]
def ZoX:V:=(.sc (.c (.bool false)))
theorem Zte:(ev 60 19 ZoM []).map (Zci false)=some (ZoX,[]):=by kernel_rfl
def Zpi:List V:=[(.sc (.c (.sl []))),(.ag [(.c (.int .i64 10)),(.c (.int .i64 0)),(.c (.str [])),(.c (.int .i64 0)),(.c (.sl [])),(.c (.sl [])),(.c (.int .i64 0)),(.c (.str [])),(.c (.int .i64 0)),(.c (.int .i64 0)),(.c (.sl []))])]
def Zp6:V:=(.sc (.c (.bool true)))
theorem Zsq:(ev 60 21 Zpi []).map (Zci false)=some (Zp6,[]):=by kernel_rfl
def ZuY:Znu:=[(39,Zt5,ZtR),(16,Zr8,Zrz),(40,Zs4,ZkL),(39,Zvn,ZrW),(16,ZrY,ZsW),(39,ZsO,Zto),(41,Zrx,ZvA),(39,Zuu,Zvl),(18,ZrQ,ZtG),(39,ZuA,ZsH),(19,Zqg,ZpY),(39,Zot,ZpI),(19,ZoM,ZoX),(21,Zpi,Zp6)]
theorem Zql:∀p∈ZuY,FnOk Go.Proofs.Tryz.prog gl0 p.1 p.2.1 [] p.2.2 []:=by
 intro p hp;simp only[ZuY,qz,qW,or_false]at hp;rcases hp with rfl|rfl|rfl|rfl|rfl|rfl|rfl|rfl|rfl|rfl|rfl|rfl|rfl|rfl
 .exact Zbo Zwi
 .exact Zbo Zws
 .exact r26fn2
 .exact Zbo Zx6
 .exact Zbo ZxX
 .exact Zbo Zxn
 .exact Zbo Zwj
 .exact Zbo ZxQ
 .exact Zbo Zv4
 .exact Zbo ZwX
 .exact Zbo ZtF
 .exact Zbo ZtK
 .exact Zbo Zte
 .exact Zbo Zsq
theorem Zzr:FnOk Go.Proofs.Tryz.prog gl0 11 [] [] (.sc (.c (.bool true))) []:=
 Zoq (n:=2) follows T_ok Zql (by kernel_rfl)
end Go.Vs.Tryz
