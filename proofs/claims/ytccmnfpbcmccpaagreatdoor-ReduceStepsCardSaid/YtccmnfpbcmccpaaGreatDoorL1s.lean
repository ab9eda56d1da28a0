/- Chapter 26's example: the longest of its parses. -/
import Derived.Test.YtccmnfpbcmccpaaGreatDoorR4s
import Derived.Test.YtccmnfpbcmccpaaGreatDoorR3s
set_option linter.unusedSimpArgs false
set_option linter.unusedVariables false
set_option linter.deprecated false
set_option maxRecDepth 100000
namespace Go.Vs.Tryz
open Go Go.Vs
def ZsO:List V:=[(.sc (.c (.str [99,97,115,101,32,67,111,110,115,32,49,32,78,105,108,32,111,102,32,78,105,108,46,32,48,32,124,32,67,111,110,115,32,120,32,121,46,32,120,32,101,110,100])))]
def ZuN:V:=(.ag [(.c (.int .i64 8)),(.c (.int .i64 0)),(.c (.str [])),(.c (.int .i64 0)),(.c (.sl [[(.int .i64 5),(.int .i64 5),(.str []),(.int .i64 0),(.sl [[(.int .i64 5),(.int .i64 5),(.str []),(.int .i64 0),(.sl [[(.int .i64 2),(.int .i64 5),(.str [67,111,110,115]),(.int .i64 0),(.sl []),(.sl []),(.int .i64 0),(.str []),(.int .i64 0),(.int .i64 0),(.sl [])],[(.int .i64 3),(.int .i64 10),(.str []),(.int .i64 1),(.sl []),(.sl []),(.int .i64 0),(.str []),(.int .i64 0),(.int .i64 0),(.sl [])]]),(.sl []),(.int .i64 0),(.str []),(.int .i64 0),(.int .i64 0),(.sl [])],[(.int .i64 2),(.int .i64 12),(.str [78,105,108]),(.int .i64 0),(.sl []),(.sl []),(.int .i64 0),(.str []),(.int .i64 0),(.int .i64 0),(.sl [])]]),(.sl []),(.int .i64 0),(.str []),(.int .i64 0),(.int .i64 0),(.sl [])]])),(.c (.sl [[(.int .i64 19),(.str [78,105,108]),(.sl []),(.int .i64 3),(.int .i64 24),(.str []),(.int .i64 0),(.sl []),(.sl []),(.int .i64 0),(.str []),(.int .i64 0),(.int .i64 0),(.sl [])],[(.int .i64 28),(.str [67,111,110,115]),(.sl [[(.str [120])],[(.str [121])]]),(.int .i64 1),(.int .i64 38),(.str [120]),(.int .i64 0),(.sl []),(.sl []),(.int .i64 0),(.str []),(.int .i64 0),(.int .i64 0),(.sl [])]])),(.c (.int .i64 0)),(.c (.str [])),(.c (.int .i64 0)),(.c (.int .i64 0)),(.c (.sl []))])
theorem Zxs:(ev 60 39 ZsO []).map (Zcg false)=some (ZuN,[]):=by kernel_rfl
def Zr6:List V:=[(.sc (.c (.str [40,92,120,46,32,120,41,32,49])))]
def Zvh:V:=(.ag [(.c (.int .i64 5)),(.c (.int .i64 1)),(.c (.str [])),(.c (.int .i64 0)),(.c (.sl [[(.int .i64 4),(.int .i64 1),(.str [120]),(.int .i64 0),(.sl [[(.int .i64 1),(.int .i64 5),(.str [120]),(.int .i64 0),(.sl []),(.sl []),(.int .i64 0),(.str []),(.int .i64 0),(.int .i64 0),(.sl [])]]),(.sl []),(.int .i64 0),(.str []),(.int .i64 0),(.int .i64 0),(.sl [])],[(.int .i64 3),(.int .i64 8),(.str []),(.int .i64 1),(.sl []),(.sl []),(.int .i64 0),(.str []),(.int .i64 0),(.int .i64 0),(.sl [])]])),(.c (.sl [])),(.c (.int .i64 0)),(.c (.str [])),(.c (.int .i64 0)),(.c (.int .i64 0)),(.c (.sl []))])
theorem ZwU:(ev 60 39 Zr6 []).map (Zcg false)=some (Zvh,[]):=by kernel_rfl
def Zr3:List V:=[(.sc (.c (.str [102,32,49,32,50])))]
def ZsR:V:=(.ag [(.c (.int .i64 5)),(.c (.int .i64 0)),(.c (.str [])),(.c (.int .i64 0)),(.c (.sl [[(.int .i64 5),(.int .i64 0),(.str []),(.int .i64 0),(.sl [[(.int .i64 1),(.int .i64 0),(.str [102]),(.int .i64 0),(.sl []),(.sl []),(.int .i64 0),(.str []),(.int .i64 0),(.int .i64 0),(.sl [])],[(.int .i64 3),(.int .i64 2),(.str []),(.int .i64 1),(.sl []),(.sl []),(.int .i64 0),(.str []),(.int .i64 0),(.int .i64 0),(.sl [])]]),(.sl []),(.int .i64 0),(.str []),(.int .i64 0),(.int .i64 0),(.sl [])],[(.int .i64 3),(.int .i64 4),(.str []),(.int .i64 2),(.sl []),(.sl []),(.int .i64 0),(.str []),(.int .i64 0),(.int .i64 0),(.sl [])]])),(.c (.sl [])),(.c (.int .i64 0)),(.c (.str [])),(.c (.int .i64 0)),(.c (.int .i64 0)),(.c (.sl []))])
theorem Zw2:(ev 60 39 Zr3 []).map (Zcg false)=some (ZsR,[]):=by kernel_rfl
def Zug:List V:=[(.sc (.c (.str [49])))]
def ZtN:V:=(.ag [(.c (.int .i64 3)),(.c (.int .i64 0)),(.c (.str [])),(.c (.int .i64 1)),(.c (.sl [])),(.c (.sl [])),(.c (.int .i64 0)),(.c (.str [])),(.c (.int .i64 0)),(.c (.int .i64 0)),(.c (.sl []))])
theorem Zwo:(ev 60 39 Zug []).map (Zcg false)=some (ZtN,[]):=by kernel_rfl
def ZrZ:List V:=[(.sc (.c (.str [67,111,110,115,32,63,32,78,105,108])))]
def ZtK:V:=(.ag [(.c (.int .i64 5)),(.c (.int .i64 0)),(.c (.str [])),(.c (.int .i64 0)),(.c (.sl [[(.int .i64 5),(.int .i64 0),(.str []),(.int .i64 0),(.sl [[(.int .i64 2),(.int .i64 0),(.str [67,111,110,115]),(.int .i64 0),(.sl []),(.sl []),(.int .i64 0),(.str []),(.int .i64 0),(.int .i64 0),(.sl [])],[(.int .i64 10),(.int .i64 5),(.str []),(.int .i64 0),(.sl []),(.sl []),(.int .i64 0),(.str []),(.int .i64 0),(.int .i64 0),(.sl [])]]),(.sl []),(.int .i64 0),(.str []),(.int .i64 0),(.int .i64 0),(.sl [])],[(.int .i64 2),(.int .i64 7),(.str [78,105,108]),(.int .i64 0),(.sl []),(.sl []),(.int .i64 0),(.str []),(.int .i64 0),(.int .i64 0),(.sl [])]])),(.c (.sl [])),(.c (.int .i64 0)),(.c (.str [])),(.c (.int .i64 0)),(.c (.int .i64 0)),(.c (.sl []))])
theorem Zx6:(ev 60 39 ZrZ []).map (Zcg false)=some (ZtK,[]):=by kernel_rfl
def ZoR:List V:=[(.sc (.c (.str [63])))]
def Zp2:V:=(.ag [(.c (.int .i64 10)),(.c (.int .i64 0)),(.c (.str [])),(.c (.int .i64 0)),(.c (.sl [])),(.c (.sl [])),(.c (.int .i64 0)),(.c (.str [])),(.c (.int .i64 0)),(.c (.int .i64 0)),(.c (.sl []))])
theorem Ztb:(ev 60 39 ZoR []).map (Zcg false)=some (Zp2,[]):=by kernel_rfl
theorem Zhd {T:FuncId->Option VFun}(hT:∀f vf,T f=some vf->mFun Go.Proofs.Tryz.prog f vf=true){m:Zm8}(hm:∀p∈m,FnOk Go.Proofs.Tryz.prog gl0 p.1 p.2.1 [] p.2.2 []){f:FuncId}{n:Nat}{args:List V}{res:V}
 (h:(ZdD (fun g=>bif g==f then T g else none) (fun g args objs=>match objs with | []=>ZtJ m g args | _=>none) gl0 n f args []).map (Zcg false)=some (res,[])):FnOk Go.Proofs.Tryz.prog gl0 f args [] res []:=by
 obtain⟨y,h1,h2⟩:=qo.1 h;have:=(ZoG (rv:=y.1) (objs':=y.2) follows hT hm h1).norm false;rw[show Zcg false (y.1,y.2)=(res,[])from h2]at this;exact this
def Zuo:List V:=[]
def ZkG:V:=(.sc (.c (.sl [[(.int .i64 57),(.str [76,105,115,116]),(.sl [[(.str [97])]]),(.sl [[(.int .i64 71),(.str [78,105,108]),(.sl [])],[(.int .i64 77),(.str [67,111,110,115]),(.sl [[(.int .i64 5),(.str [97]),(.int .i64 0),(.int .i64 0),(.sl [])],[(.int .i64 4),(.str [76,105,115,116]),(.int .i64 0),(.int .i64 0),(.sl [[(.int .i64 5),(.str [97]),(.int .i64 0),(.int .i64 0),(.sl [])]])]])]])],[(.int .i64 93),(.str [80,97,105,114]),(.sl [[(.str [97])],[(.str [98])]]),(.sl [[(.int .i64 109),(.str [80,97,105,114]),(.sl [[(.int .i64 5),(.str [97]),(.int .i64 0),(.int .i64 0),(.sl [])],[(.int .i64 5),(.str [98]),(.int .i64 0),(.int .i64 0),(.sl [])]])]])]])))
theorem ZtA:∀p∈([(81,[],Zar ds7)]:Zm8),FnOk Go.Proofs.Tryz.prog gl0 p.1 p.2.1 [] p.2.2 []:=by
 intro p hp;simp only[qz,qU,or_false]at hp;subst hp;exact ZyX
theorem r26k42:FnOk Go.Proofs.Tryz.prog gl0 42 [intV 12] [] ZkG []:=Zhd (n:=60) T_ok ZtA (by kernel_rfl)
theorem ZtS:∀p∈([(42,[intV 12],ZkG)]:Zm8),FnOk Go.Proofs.Tryz.prog gl0 p.1 p.2.1 [] p.2.2 []:=by
 intro p hp;simp only[qz,qU,or_false]at hp;subst hp;exact r26k42
theorem r26fn2:FnOk Go.Proofs.Tryz.prog gl0 40 Zuo [] ZkG []:=Zhd (n:=60) T_ok ZtS (by kernel_rfl)
theorem Zbo {n:Nat}{f:FuncId}{args:List V}{res:V}(h:(ev n f args []).map (Zcg false)=some (res,[])):FnOk Go.Proofs.Tryz.prog gl0 f args [] res []:=by
 obtain⟨y,h1,h2⟩:=qo.1 h;have:=(ev_ok (rv:=y.1) (objs':=y.2) h1).norm false;rw[show Zcg false (y.1,y.2)=(res,[])from h2]at this;exact this
def ZvA:List V:=[(.sc (.c (.sl []))),(.ag [(.c (.int .i64 5)),(.c (.int .i64 1)),(.c (.str [])),(.c (.int .i64 0)),(.c (.sl [[(.int .i64 4),(.int .i64 1),(.str [120]),(.int .i64 0),(.sl [[(.int .i64 1),(.int .i64 5),(.str [120]),(.int .i64 0),(.sl []),(.sl []),(.int .i64 0),(.str []),(.int .i64 0),(.int .i64 0),(.sl [])]]),(.sl []),(.int .i64 0),(.str []),(.int .i64 0),(.int .i64 0),(.sl [])],[(.int .i64 3),(.int .i64 8),(.str []),(.int .i64 1),(.sl []),(.sl []),(.int .i64 0),(.str []),(.int .i64 0),(.int .i64 0),(.sl [])]])),(.c (.sl [])),(.c (.int .i64 0)),(.c (.str [])),(.c (.int .i64 0)),(.c (.int .i64 0)),(.c (.sl []))])]
def Zu8:V:=(.tu [(.ag [(.c (.int .i64 3)),(.c (.int .i64 0)),(.c (.str [])),(.c (.int .i64 1)),(.c (.sl [])),(.c (.sl [])),(.c (.int .i64 0)),(.c (.str [])),(.c (.int .i64 0)),(.c (.int .i64 0)),(.c (.sl []))]),(.sc (.c (.int .i64 1))),(.sc (.c (.bool true)))])
theorem Zxl:(ev 60 16 ZvA []).map (Zcg false)=some (Zu8,[]):=by kernel_rfl
def ZtG:List V:=[(.sc (.c (.sl [[(.int .i64 57),(.str [76,105,115,116]),(.sl [[(.str [97])]]),(.sl [[(.int .i64 71),(.str [78,105,108]),(.sl [])],[(.int .i64 77),(.str [67,111,110,115]),(.sl [[(.int .i64 5),(.str [97]),(.int .i64 0),(.int .i64 0),(.sl [])],[(.int .i64 4),(.str [76,105,115,116]),(.int .i64 0),(.int .i64 0),(.sl [[(.int .i64 5),(.str [97]),(.int .i64 0),(.int .i64 0),(.sl [])]])]])]])],[(.int .i64 93),(.str [80,97,105,114]),(.sl [[(.str [97])],[(.str [98])]]),(.sl [[(.int .i64 109),(.str [80,97,105,114]),(.sl [[(.int .i64 5),(.str [97]),(.int .i64 0),(.int .i64 0),(.sl [])],[(.int .i64 5),(.str [98]),(.int .i64 0),(.int .i64 0),(.sl [])]])]])]]))),(.ag [(.c (.int .i64 8)),(.c (.int .i64 0)),(.c (.str [])),(.c (.int .i64 0)),(.c (.sl [[(.int .i64 5),(.int .i64 5),(.str []),(.int .i64 0),(.sl [[(.int .i64 5),(.int .i64 5),(.str []),(.int .i64 0),(.sl [[(.int .i64 2),(.int .i64 5),(.str [67,111,110,115]),(.int .i64 0),(.sl []),(.sl []),(.int .i64 0),(.str []),(.int .i64 0),(.int .i64 0),(.sl [])],[(.int .i64 3),(.int .i64 10),(.str []),(.int .i64 1),(.sl []),(.sl []),(.int .i64 0),(.str []),(.int .i64 0),(.int .i64 0),(.sl [])]]),(.sl []),(.int .i64 0),(.str []),(.int .i64 0),(.int .i64 0),(.sl [])],[(.int .i64 2),(.int .i64 12),(.str [78,105,108]),(.int .i64 0),(.sl []),(.sl []),(.int .i64 0),(.str []),(.int .i64 0),(.int .i64 0),(.sl [])]]),(.sl []),(.int .i64 0),(.str []),(.int .i64 0),(.int .i64 0),(.sl [])]])),(.c (.sl [[(.int .i64 19),(.str [78,105,108]),(.sl []),(.int .i64 3),(.int .i64 24),(.str []),(.int .i64 0),(.sl []),(.sl []),(.int .i64 0),(.str []),(.int .i64 0),(.int .i64 0),(.sl [])],[(.int .i64 28),(.str [67,111,110,115]),(.sl [[(.str [120])],[(.str [121])]]),(.int .i64 1),(.int .i64 38),(.str [120]),(.int .i64 0),(.sl []),(.sl []),(.int .i64 0),(.str []),(.int .i64 0),(.int .i64 0),(.sl [])]])),(.c (.int .i64 0)),(.c (.str [])),(.c (.int .i64 0)),(.c (.int .i64 0)),(.c (.sl []))])]
def Zr2:V:=(.tu [(.ag [(.c (.int .i64 3)),(.c (.int .i64 0)),(.c (.str [])),(.c (.int .i64 1)),(.c (.sl [])),(.c (.sl [])),(.c (.int .i64 0)),(.c (.str [])),(.c (.int .i64 0)),(.c (.int .i64 0)),(.c (.sl []))]),(.sc (.c (.int .i64 4))),(.sc (.c (.bool true)))])
theorem ZwL:(ev 60 16 ZtG []).map (Zcg false)=some (Zr2,[]):=by kernel_rfl
def ZsU:List V:=[(.ag [(.c (.int .i64 5)),(.c (.int .i64 0)),(.c (.str [])),(.c (.int .i64 0)),(.c (.sl [[(.int .i64 5),(.int .i64 0),(.str []),(.int .i64 0),(.sl [[(.int .i64 1),(.int .i64 0),(.str [102]),(.int .i64 0),(.sl []),(.sl []),(.int .i64 0),(.str []),(.int .i64 0),(.int .i64 0),(.sl [])],[(.int .i64 3),(.int .i64 2),(.str []),(.int .i64 1),(.sl []),(.sl []),(.int .i64 0),(.str []),(.int .i64 0),(.int .i64 0),(.sl [])]]),(.sl []),(.int .i64 0),(.str []),(.int .i64 0),(.int .i64 0),(.sl [])],[(.int .i64 3),(.int .i64 4),(.str []),(.int .i64 2),(.sl []),(.sl []),(.int .i64 0),(.str []),(.int .i64 0),(.int .i64 0),(.sl [])]])),(.c (.sl [])),(.c (.int .i64 0)),(.c (.str [])),(.c (.int .i64 0)),(.c (.int .i64 0)),(.c (.sl []))])]
def Zr1:V:=(.tu [(.ag [(.c (.int .i64 1)),(.c (.int .i64 0)),(.c (.str [102])),(.c (.int .i64 0)),(.c (.sl [])),(.c (.sl [])),(.c (.int .i64 0)),(.c (.str [])),(.c (.int .i64 0)),(.c (.int .i64 0)),(.c (.sl []))]),(.sc (.c (.sl [[(.int .i64 3),(.int .i64 2),(.str []),(.int .i64 1),(.sl []),(.sl []),(.int .i64 0),(.str []),(.int .i64 0),(.int .i64 0),(.sl [])],[(.int .i64 3),(.int .i64 4),(.str []),(.int .i64 2),(.sl []),(.sl []),(.int .i64 0),(.str []),(.int .i64 0),(.int .i64 0),(.sl [])]])))])
theorem ZwJ:(ev 60 41 ZsU []).map (Zcg false)=some (Zr1,[]):=by kernel_rfl
def Zt0:List V:=[(.ag [(.c (.int .i64 3)),(.c (.int .i64 0)),(.c (.str [])),(.c (.int .i64 1)),(.c (.sl [])),(.c (.sl [])),(.c (.int .i64 0)),(.c (.str [])),(.c (.int .i64 0)),(.c (.int .i64 0)),(.c (.sl []))]),(.ag [(.c (.int .i64 3)),(.c (.int .i64 0)),(.c (.str [])),(.c (.int .i64 1)),(.c (.sl [])),(.c (.sl [])),(.c (.int .i64 0)),(.c (.str [])),(.c (.int .i64 0)),(.c (.int .i64 0)),(.c (.sl []))])]
def ZvB:V:=(.sc (.c (.bool true)))
theorem Zxy:(ev 60 18 Zt0 []).map (Zcg false)=some (ZvB,[]):=by kernel_rfl
def Zo0:List V:=[(.ag [(.c (.int .i64 5)),(.c (.int .i64 0)),(.c (.str [])),(.c (.int .i64 0)),(.c (.sl [[(.int .i64 5),(.int .i64 0),(.str []),(.int .i64 0),(.sl [[(.int .i64 2),(.int .i64 0),(.str [67,111,110,115]),(.int .i64 0),(.sl []),(.sl []),(.int .i64 0),(.str []),(.int .i64 0),(.int .i64 0),(.sl [])],[(.int .i64 10),(.int .i64 5),(.str []),(.int .i64 0),(.sl []),(.sl []),(.int .i64 0),(.str []),(.int .i64 0),(.int .i64 0),(.sl [])]]),(.sl []),(.int .i64 0),(.str []),(.int .i64 0),(.int .i64 0),(.sl [])],[(.int .i64 2),(.int .i64 7),(.str [78,105,108]),(.int .i64 0),(.sl []),(.sl []),(.int .i64 0),(.str []),(.int .i64 0),(.int .i64 0),(.sl [])]])),(.c (.sl [])),(.c (.int .i64 0)),(.c (.str [])),(.c (.int .i64 0)),(.c (.int .i64 0)),(.c (.sl []))])]
def Zpb:V:=(.sc (.c (.bool true)))
theorem Zsx:(ev 60 19 Zo0 []).map (Zcg false)=some (Zpb,[]):=by kernel_rfl
def ZpX:List V:=[(.ag [(.c (.int .i64 10)),(.c (.int .i64 0)),(.c (.str [])),(.c (.int .i64 0)),(.c (.sl [])),(.c (.sl [])),(.c (.int .i64 0)),(.c (.str [])),(.c (.int .i64 0)),(.c (.int .i64 0)),(.c (.sl []))])]
def ZoH:V:=(.sc (.c (.bool false)))
theorem Zt9:(ev 60 19 ZpX []).map (Zcg false)=some (ZoH,[]):=by kernel_rfl
def ZoL:List V:=[(.sc (.c (.sl []))),(.ag [(.c (.int .i64 10)),(.c (.int .i64 0)),(.c (.str [])),(.c (.int .i64 0)),(.c (.sl [])),(.c (.sl [])),(.c (.int .i64 0)),(.c (.str [])),(.c (.int .i64 0)),(.c (.int .i64 0)),(.c (.sl []))])]
def Zpx:V:=(.sc (.c (.bool true)))
theorem Zs3:(ev 60 21 ZoL []).map (Zcg false)=some (Zpx,[]):=by kernel_rfl
def ZsS:Zm8:=[(39,Zr6,Zvh),(16,ZvA,Zu8),(40,Zuo,ZkG),(39,ZsO,ZuN),(16,ZtG,Zr2),(39,Zr3,ZsR),(41,ZsU,Zr1),(39,Zug,ZtN),(18,Zt0,ZvB),(39,ZrZ,ZtK),(19,Zo0,Zpb),(39,ZoR,Zp2),(19,ZpX,ZoH),(21,ZoL,Zpx)]
theorem Zp9:∀p∈ZsS,FnOk Go.Proofs.Tryz.prog gl0 p.1 p.2.1 [] p.2.2 []:=by
 intro p hp;simp only[ZsS,qz,qU,or_false]at hp;rcases hp with rfl|rfl|rfl|rfl|rfl|rfl|rfl|rfl|rfl|rfl|rfl|rfl|rfl|rfl
 .exact Zbo ZwU
 .exact Zbo Zxl
 .exact r26fn2
 .exact Zbo Zxs
 .exact Zbo ZwL
 .exact Zbo Zw2
 .exact Zbo ZwJ
 .exact Zbo Zwo
 .exact Zbo Zxy
 .exact Zbo Zx6
 .exact Zbo Zsx
 .exact Zbo Ztb
 .exact Zbo Zt9
 .exact Zbo Zs3
theorem ZAl:FnOk Go.Proofs.Tryz.prog gl0 11 [] [] (.sc (.c (.bool true))) []:=
 ZoG (n:=2) follows T_ok Zp9 (by kernel_rfl)
end Go.Vs.Tryz
