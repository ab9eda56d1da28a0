/- All data declarations, scanned: each round by the kernel. -/
import Derived.Test.YtccmnfpbcmccpaaGreatDoorR0w
import Derived.Test.YtccmnfpbcmccpaaGreatDoorM6w
set_option linter.all false
namespace Go.Vs.Tryz
open Go Go.Vs
def T3:FuncId->Option VFun:=fun f=>bif f==121 then none else T f
def X3:Ag:=fun f args objs=>bif f==121 then (DD T X gl0 100 f args objs).map (B9 false) else X f args objs
theorem Zdo:∀f vf,T3 f=some vf->mFun Go.Proofs.Tryz.prog f vf=true:=by
 intro f vf h;unfold T3 at h;cases hf:f==121 with
 |true=>rw[hf]at h;cases h
 |false=>rw[hf]at h;exact T_ok f vf h
theorem ZcY:∀(f:FuncId)(args:List V)(objs:List Obj)(rv:V)(objs':List Obj),X3 f args objs=some (rv,objs')->FnOk Go.Proofs.Tryz.prog gl0 f args objs rv objs':=by
 intro f args objs rv objs' h;unfold X3 at h;cases hf:f==121 with
 |true=>
  rw[hf]at h;obtain⟨y,h1,h2⟩:=qu.1 h;have:=(S8 (rv:=y.1) (objs':=y.2) h1).norm false;rw[show B9 false (y.1,y.2)=(rv,objs')from h2]at this;exact this
 |false=>rw[hf]at h;exact X_ok f args objs rv objs' h
noncomputable def Kx:Ctx:=⟨lim T3 X3 gl0,gl0⟩
@[simp] theorem Kx_gl:Kx.gl=gl0:=rfl
theorem fn_x {f:FuncId}{vf:VFun}{args:List V}{objs:List Obj}{r:V×List Obj}(hT:T3 f=some vf)(hn:args.length=vf.nparams)(ho:objs.length<=64)
 (h:wp Kx vf.body (Du vf.keep objs.length vf.results r) ⟨Bb 0 args,Bb 0 (objs.map some)⟩):Kx.call f args objs=some r:=LD hT hn ho h
theorem Fc {n:Nat}{c:VCode}{s s':St}{e:Ex}{Q:Ex->St->Prop}(h:run ⟨Bi T3 X3 gl0 n,gl0⟩ n c s=some (e,s'))(hq:Q e s'):wp Kx c Q s:=
 ⟨n,e,s',EM (c':=lim T3 X3 gl0) (fun _ _ _ _ h=>Ek h) (qg n) h,hq⟩
theorem Qq {n:Nat}{f:FuncId}{args:List V}{objs:List Obj}{r:V×List Obj}(h:Bi T3 X3 gl0 n f args objs=some r):Kx.call f args objs=some r:=Ek h
def allText:List UInt8:=[100,97,116,97,32,66,111,111,108,32,61,32,84,114,117,101,32,124,32,70,97,108,115,101,59,32,100,97,116,97,32,79,112,116,105,111,110,32,97,32,61,32,78,111,110,101,32,124,32,83,111,109,101,32,97,59,32,100,97,116,97,32,76,105,115,116,32,97,32,61,32,78,105,108,32,124,32,67,111,110,115,32,97,32,40,76,105,115,116,32,97,41,59,100,97,116,97,32,80,97,105,114,32,97,32,98,32,61,32,80,97,105,114,32,97,32,98,59,32,100,97,116,97,32,78,97,116,32,61,32,90,101,114,111,32,124,32,83,117,99,99,32,78,97,116,59,32,100,97,116,97,32,70,117,110,32,97,32,98,32,61,32,70,117,110,32,40,97,32,45,62,32,98,41,59,32,100,97,116,97,32,84,119,111,32,97,32,61,32,66,111,116,104,32,97,32,97,32,124,32,79,110,101,32,40,79,112,116,105,111,110,32,97,41,59]
def allToks:CC1:=[[.int .i64 4,.str [100,97,116,97],.int .i64 0],[.int .i64 2,.str [66,111,111,108],.int .i64 5],[.int .i64 5,.str [61],.int .i64 10],[.int .i64 2,.str [84,114,117,101],.int .i64 12],[.int .i64 5,.str [124],.int .i64 17],[.int .i64 2,.str [70,97,108,115,101],.int .i64 19],[.int .i64 5,.str [59],.int .i64 24],[.int .i64 4,.str [100,97,116,97],.int .i64 26],[.int .i64 2,.str [79,112,116,105,111,110],.int .i64 31],[.int .i64 1,.str [97],.int .i64 38],[.int .i64 5,.str [61],.int .i64 40],[.int .i64 2,.str [78,111,110,101],.int .i64 42],[.int .i64 5,.str [124],.int .i64 47],[.int .i64 2,.str [83,111,109,101],.int .i64 49],[.int .i64 1,.str [97],.int .i64 54],[.int .i64 5,.str [59],.int .i64 55],[.int .i64 4,.str [100,97,116,97],.int .i64 57],[.int .i64 2,.str [76,105,115,116],.int .i64 62],[.int .i64 1,.str [97],.int .i64 67],[.int .i64 5,.str [61],.int .i64 69],[.int .i64 2,.str [78,105,108],.int .i64 71],[.int .i64 5,.str [124],.int .i64 75],[.int .i64 2,.str [67,111,110,115],.int .i64 77],[.int .i64 1,.str [97],.int .i64 82],[.int .i64 5,.str [40],.int .i64 84],[.int .i64 2,.str [76,105,115,116],.int .i64 85],[.int .i64 1,.str [97],.int .i64 90],[.int .i64 5,.str [41],.int .i64 91],[.int .i64 5,.str [59],.int .i64 92],[.int .i64 4,.str [100,97,116,97],.int .i64 93],[.int .i64 2,.str [80,97,105,114],.int .i64 98],[.int .i64 1,.str [97],.int .i64 103],[.int .i64 1,.str [98],.int .i64 105],[.int .i64 5,.str [61],.int .i64 107],[.int .i64 2,.str [80,97,105,114],.int .i64 109],[.int .i64 1,.str [97],.int .i64 114],[.int .i64 1,.str [98],.int .i64 116],[.int .i64 5,.str [59],.int .i64 117],[.int .i64 4,.str [100,97,116,97],.int .i64 119],[.int .i64 2,.str [78,97,116],.int .i64 124],[.int .i64 5,.str [61],.int .i64 128],[.int .i64 2,.str [90,101,114,111],.int .i64 130],[.int .i64 5,.str [124],.int .i64 135],[.int .i64 2,.str [83,117,99,99],.int .i64 137],[.int .i64 2,.str [78,97,116],.int .i64 142],[.int .i64 5,.str [59],.int .i64 145],[.int .i64 4,.str [100,97,116,97],.int .i64 147],[.int .i64 2,.str [70,117,110],.int .i64 152],[.int .i64 1,.str [97],.int .i64 156],[.int .i64 1,.str [98],.int .i64 158],[.int .i64 5,.str [61],.int .i64 160],[.int .i64 2,.str [70,117,110],.int .i64 162],[.int .i64 5,.str [40],.int .i64 166],[.int .i64 1,.str [97],.int .i64 167],[.int .i64 5,.str [45,62],.int .i64 169],[.int .i64 1,.str [98],.int .i64 172],[.int .i64 5,.str [41],.int .i64 173],[.int .i64 5,.str [59],.int .i64 174],[.int .i64 4,.str [100,97,116,97],.int .i64 176],[.int .i64 2,.str [84,119,111],.int .i64 181],[.int .i64 1,.str [97],.int .i64 185],[.int .i64 5,.str [61],.int .i64 187],[.int .i64 2,.str [66,111,116,104],.int .i64 189],[.int .i64 1,.str [97],.int .i64 194],[.int .i64 1,.str [97],.int .i64 196],[.int .i64 5,.str [124],.int .i64 198],[.int .i64 2,.str [79,110,101],.int .i64 200],[.int .i64 5,.str [40],.int .i64 204],[.int .i64 2,.str [79,112,116,105,111,110],.int .i64 205],[.int .i64 1,.str [97],.int .i64 212],[.int .i64 5,.str [41],.int .i64 213],[.int .i64 5,.str [59],.int .i64 214]]
def Ka (p:Nat×Nat):St:=⟨[(0,.sc (.c (.str allText))),(3,.sc (.ptr 128 0)),(4,.sc (.arr 577 p.2)),(5,.sc (.c (.int .i64 p.1)))],[(128,some (.box [zi,zi])),(577,some (.arr 3 (wr (allToks.take p.2)) 0))]⟩
def Aa (p q:Nat×Nat):Prop:=run ⟨Bi T3 X3 gl0 40,gl0⟩ 40 Mh (Ka p)=some (.normal,Ka q)
def Chain:List (Nat×Nat)->Prop
 |p::q::r=>Aa p q/\Chain (q::r)
 |_=>True
theorem Chain.get:∀{l:List (Nat×Nat)}{i:Nat}{p q:Nat×Nat},Chain l->l[i]?=some p->l[i+1]?=some q->Aa p q
 |p::q::r,0,_,_,h,h1,h2=>by
  simp only[qP,qbc,qd]at h1 h2;subst h1 h2;exact h.1
 |p::q::r,i+1,_,_,h,h1,h2=>Chain.get (l:=q::r) h.2 (by simpa using h1) (by simpa using h2)
 |[_],i,_,_,_,_,h2=>by simp at h2
 |[],_,_,_,_,h1,_=>by simp at h1
theorem Z0:Aa (0,0) (4,1):=by unfold Aa;kernel_rfl
theorem ZaS:Aa (4,1) (5,1):=by unfold Aa;kernel_rfl
theorem ZbU:Aa (5,1) (9,2):=by unfold Aa;kernel_rfl
theorem Zhh:Aa (9,2) (10,2):=by unfold Aa;kernel_rfl
theorem Zcv:Aa (10,2) (11,3):=by unfold Aa;kernel_rfl
theorem ZcS:Aa (11,3) (12,3):=by unfold Aa;kernel_rfl
theorem YV:Aa (12,3) (16,4):=by unfold Aa;kernel_rfl
theorem ZdU:Aa (16,4) (17,4):=by unfold Aa;kernel_rfl
theorem ZcC:Aa (17,4) (18,5):=by unfold Aa;kernel_rfl
theorem Zej:Aa (18,5) (19,5):=by unfold Aa;kernel_rfl
theorem Yr:Aa (19,5) (24,6):=by unfold Aa;kernel_rfl
theorem Zii:Aa (24,6) (25,7):=by unfold Aa;kernel_rfl
theorem ZaG:Aa (25,7) (26,7):=by unfold Aa;kernel_rfl
theorem Ys:Aa (26,7) (30,8):=by unfold Aa;kernel_rfl
theorem Zem:Aa (30,8) (31,8):=by unfold Aa;kernel_rfl
theorem Yl:Aa (31,8) (37,9):=by unfold Aa;kernel_rfl
theorem ZgA:Aa (37,9) (38,9):=by unfold Aa;kernel_rfl
theorem ZdE:Aa (38,9) (39,10):=by unfold Aa;kernel_rfl
theorem Zgq:Aa (39,10) (40,10):=by unfold Aa;kernel_rfl
theorem Z9:Aa (40,10) (41,11):=by unfold Aa;kernel_rfl
theorem ZhW:Aa (41,11) (42,11):=by unfold Aa;kernel_rfl
theorem YZ:Aa (42,11) (46,12):=by unfold Aa;kernel_rfl
theorem Zhk:Aa (46,12) (47,12):=by unfold Aa;kernel_rfl
theorem ZcR:Aa (47,12) (48,13):=by unfold Aa;kernel_rfl
theorem ZhE:Aa (48,13) (49,13):=by unfold Aa;kernel_rfl
theorem Zcn:Aa (49,13) (53,14):=by unfold Aa;kernel_rfl
theorem ZaD:Aa (53,14) (54,14):=by unfold Aa;kernel_rfl
theorem Zh5:Aa (54,14) (55,15):=by unfold Aa;kernel_rfl
theorem Zgc:Aa (55,15) (56,16):=by unfold Aa;kernel_rfl
theorem Ze6:Aa (56,16) (57,16):=by unfold Aa;kernel_rfl
theorem ZbB:Aa (57,16) (61,17):=by unfold Aa;kernel_rfl
theorem Zc9:Aa (61,17) (62,17):=by unfold Aa;kernel_rfl
theorem ZgY:Aa (62,17) (66,18):=by unfold Aa;kernel_rfl
theorem ZhX:Aa (66,18) (67,18):=by unfold Aa;kernel_rfl
theorem W7:Aa (67,18) (68,19):=by unfold Aa;kernel_rfl
theorem ZbL:Aa (68,19) (69,19):=by unfold Aa;kernel_rfl
theorem Xo:Aa (69,19) (70,20):=by unfold Aa;kernel_rfl
theorem Zbg:Aa (70,20) (71,20):=by unfold Aa;kernel_rfl
theorem Za2:Aa (71,20) (74,21):=by unfold Aa;kernel_rfl
theorem ZgG:Aa (74,21) (75,21):=by unfold Aa;kernel_rfl
theorem Zgk:Aa (75,21) (76,22):=by unfold Aa;kernel_rfl
theorem ZG:Aa (76,22) (77,22):=by unfold Aa;kernel_rfl
theorem Zs:Aa (77,22) (81,23):=by unfold Aa;kernel_rfl
theorem ZbF:Aa (81,23) (82,23):=by unfold Aa;kernel_rfl
theorem ZW:Aa (82,23) (83,24):=by unfold Aa;kernel_rfl
theorem ZU:Aa (83,24) (84,24):=by unfold Aa;kernel_rfl
theorem Zfy:Aa (84,24) (85,25):=by unfold Aa;kernel_rfl
theorem Xj:Aa (85,25) (89,26):=by unfold Aa;kernel_rfl
theorem Zcx:Aa (89,26) (90,26):=by unfold Aa;kernel_rfl
theorem ZY:Aa (90,26) (91,27):=by unfold Aa;kernel_rfl
theorem Xd:Aa (91,27) (92,28):=by unfold Aa;kernel_rfl
theorem Ym:Aa (92,28) (93,29):=by unfold Aa;kernel_rfl
theorem Za3:Aa (93,29) (97,30):=by unfold Aa;kernel_rfl
theorem ZgW:Aa (97,30) (98,30):=by unfold Aa;kernel_rfl
theorem Zdr:Aa (98,30) (102,31):=by unfold Aa;kernel_rfl
theorem ZgL:Aa (102,31) (103,31):=by unfold Aa;kernel_rfl
theorem ZeE:Aa (103,31) (104,32):=by unfold Aa;kernel_rfl
theorem Zz:Aa (104,32) (105,32):=by unfold Aa;kernel_rfl
theorem ZT:Aa (105,32) (106,33):=by unfold Aa;kernel_rfl
theorem Zep:Aa (106,33) (107,33):=by unfold Aa;kernel_rfl
theorem Zgg:Aa (107,33) (108,34):=by unfold Aa;kernel_rfl
theorem Yv:Aa (108,34) (109,34):=by unfold Aa;kernel_rfl
theorem ZfM:Aa (109,34) (113,35):=by unfold Aa;kernel_rfl
theorem Ze0:Aa (113,35) (114,35):=by unfold Aa;kernel_rfl
theorem ZfX:Aa (114,35) (115,36):=by unfold Aa;kernel_rfl
theorem XJ:Aa (115,36) (116,36):=by unfold Aa;kernel_rfl
theorem Yu:Aa (116,36) (117,37):=by unfold Aa;kernel_rfl
theorem XS:Aa (117,37) (118,38):=by unfold Aa;kernel_rfl
theorem Zco:Aa (118,38) (119,38):=by unfold Aa;kernel_rfl
theorem Zg6:Aa (119,38) (123,39):=by unfold Aa;kernel_rfl
theorem ZeS:Aa (123,39) (124,39):=by unfold Aa;kernel_rfl
theorem XH:Aa (124,39) (127,40):=by unfold Aa;kernel_rfl
theorem Yd:Aa (127,40) (128,40):=by unfold Aa;kernel_rfl
theorem YJ:Aa (128,40) (129,41):=by unfold Aa;kernel_rfl
theorem Zgj:Aa (129,41) (130,41):=by unfold Aa;kernel_rfl
theorem Zc4:Aa (130,41) (134,42):=by unfold Aa;kernel_rfl
theorem ZaM:Aa (134,42) (135,42):=by unfold Aa;kernel_rfl
theorem Zbi:Aa (135,42) (136,43):=by unfold Aa;kernel_rfl
theorem ZfU:Aa (136,43) (137,43):=by unfold Aa;kernel_rfl
theorem ZhK:Aa (137,43) (141,44):=by unfold Aa;kernel_rfl
theorem ZB:Aa (141,44) (142,44):=by unfold Aa;kernel_rfl
theorem YD:Aa (142,44) (145,45):=by unfold Aa;kernel_rfl
theorem Zcd:Aa (145,45) (146,46):=by unfold Aa;kernel_rfl
theorem ZbX:Aa (146,46) (147,46):=by unfold Aa;kernel_rfl
theorem ZhY:Aa (147,46) (151,47):=by unfold Aa;kernel_rfl
theorem WF:Aa (151,47) (152,47):=by unfold Aa;kernel_rfl
theorem Zbo:Aa (152,47) (155,48):=by unfold Aa;kernel_rfl
theorem ZgI:Aa (155,48) (156,48):=by unfold Aa;kernel_rfl
theorem Zhx:Aa (156,48) (157,49):=by unfold Aa;kernel_rfl
theorem Z8:Aa (157,49) (158,49):=by unfold Aa;kernel_rfl
theorem ZdR:Aa (158,49) (159,50):=by unfold Aa;kernel_rfl
theorem Zgn:Aa (159,50) (160,50):=by unfold Aa;kernel_rfl
theorem Zhy:Aa (160,50) (161,51):=by unfold Aa;kernel_rfl
theorem YN:Aa (161,51) (162,51):=by unfold Aa;kernel_rfl
theorem ZaT:Aa (162,51) (165,52):=by unfold Aa;kernel_rfl
theorem Zdz:Aa (165,52) (166,52):=by unfold Aa;kernel_rfl
theorem ZgO:Aa (166,52) (167,53):=by unfold Aa;kernel_rfl
theorem ZaY:Aa (167,53) (168,54):=by unfold Aa;kernel_rfl
theorem Zck:Aa (168,54) (169,54):=by unfold Aa;kernel_rfl
theorem Zdx:Aa (169,54) (171,55):=by unfold Aa;kernel_rfl
theorem ZeN:Aa (171,55) (172,55):=by unfold Aa;kernel_rfl
theorem XV:Aa (172,55) (173,56):=by unfold Aa;kernel_rfl
theorem Zhi:Aa (173,56) (174,57):=by unfold Aa;kernel_rfl
theorem ZdF:Aa (174,57) (175,58):=by unfold Aa;kernel_rfl
theorem ZaQ:Aa (175,58) (176,58):=by unfold Aa;kernel_rfl
theorem ZgX:Aa (176,58) (180,59):=by unfold Aa;kernel_rfl
theorem Z4:Aa (180,59) (181,59):=by unfold Aa;kernel_rfl
theorem Zt:Aa (181,59) (184,60):=by unfold Aa;kernel_rfl
theorem ZN:Aa (184,60) (185,60):=by unfold Aa;kernel_rfl
theorem Yf:Aa (185,60) (186,61):=by unfold Aa;kernel_rfl
theorem ZfC:Aa (186,61) (187,61):=by unfold Aa;kernel_rfl
theorem ZdJ:Aa (187,61) (188,62):=by unfold Aa;kernel_rfl
theorem Ze5:Aa (188,62) (189,62):=by unfold Aa;kernel_rfl
theorem ZeL:Aa (189,62) (193,63):=by unfold Aa;kernel_rfl
theorem ZbO:Aa (193,63) (194,63):=by unfold Aa;kernel_rfl
theorem YU:Aa (194,63) (195,64):=by unfold Aa;kernel_rfl
theorem Zd3:Aa (195,64) (196,64):=by unfold Aa;kernel_rfl
theorem Zb:Aa (196,64) (197,65):=by unfold Aa;kernel_rfl
theorem ZbM:Aa (197,65) (198,65):=by unfold Aa;kernel_rfl
theorem Zfl:Aa (198,65) (199,66):=by unfold Aa;kernel_rfl
theorem WX:Aa (199,66) (200,66):=by unfold Aa;kernel_rfl
theorem Zap:Aa (200,66) (203,67):=by unfold Aa;kernel_rfl
theorem ZdZ:Aa (203,67) (204,67):=by unfold Aa;kernel_rfl
theorem Zbs:Aa (204,67) (205,68):=by unfold Aa;kernel_rfl
theorem Y5:Aa (205,68) (211,69):=by unfold Aa;kernel_rfl
theorem Zft:Aa (211,69) (212,69):=by unfold Aa;kernel_rfl
theorem Zdq:Aa (212,69) (213,70):=by unfold Aa;kernel_rfl
theorem Ze4:Aa (213,70) (214,71):=by unfold Aa;kernel_rfl
theorem ZaJ:Aa (214,71) (215,72):=by unfold Aa;kernel_rfl
def scanL:List (Nat×Nat):=[(0,0),(4,1),(5,1),(9,2),(10,2),(11,3),(12,3),(16,4),(17,4),(18,5),(19,5),(24,6),(25,7),(26,7),(30,8),(31,8),(37,9),(38,9),(39,10),(40,10),(41,11),(42,11),(46,12),(47,12),(48,13),(49,13),(53,14),(54,14),(55,15),(56,16),(57,16),(61,17),(62,17),(66,18),(67,18),(68,19),(69,19),(70,20),(71,20),(74,21),(75,21),(76,22),(77,22),(81,23),(82,23),(83,24),(84,24),(85,25),(89,26),(90,26),(91,27),(92,28),(93,29),(97,30),(98,30),(102,31),(103,31),(104,32),(105,32),(106,33),(107,33),(108,34),(109,34),(113,35),(114,35),(115,36),(116,36),(117,37),(118,38),(119,38),(123,39),(124,39),(127,40),(128,40),(129,41),(130,41),(134,42),(135,42),(136,43),(137,43),(141,44),(142,44),(145,45),(146,46),(147,46),(151,47),(152,47),(155,48),(156,48),(157,49),(158,49),(159,50),(160,50),(161,51),(162,51),(165,52),(166,52),(167,53),(168,54),(169,54),(171,55),(172,55),(173,56),(174,57),(175,58),(176,58),(180,59),(181,59),(184,60),(185,60),(186,61),(187,61),(188,62),(189,62),(193,63),(194,63),(195,64),(196,64),(197,65),(198,65),(199,66),(200,66),(203,67),(204,67),(205,68),(211,69),(212,69),(213,70),(214,71),(215,72)]
theorem scan_chain:Chain scanL:=⟨Z0,ZaS,ZbU,Zhh,Zcv,ZcS,YV,ZdU,ZcC,Zej,Yr,Zii,ZaG,Ys,Zem,Yl,ZgA,ZdE,Zgq,Z9,ZhW,YZ,Zhk,ZcR,ZhE,Zcn,ZaD,Zh5,Zgc,Ze6,ZbB,Zc9,ZgY,ZhX,W7,ZbL,Xo,Zbg,Za2,ZgG,Zgk,ZG,Zs,ZbF,ZW,ZU,Zfy,Xj,Zcx,ZY,Xd,Ym,Za3,ZgW,Zdr,ZgL,ZeE,Zz,ZT,Zep,Zgg,Yv,ZfM,Ze0,ZfX,XJ,Yu,XS,Zco,Zg6,ZeS,XH,Yd,YJ,Zgj,Zc4,ZaM,Zbi,ZfU,ZhK,ZB,YD,Zcd,ZbX,ZhY,WF,Zbo,ZgI,Zhx,Z8,ZdR,Zgn,Zhy,YN,ZaT,Zdz,ZgO,ZaY,Zck,Zdx,ZeN,XV,Zhi,ZdF,ZaQ,ZgX,Z4,Zt,ZN,Yf,ZfC,ZdJ,Ze5,ZeL,ZbO,YU,Zd3,Zb,ZbM,Zfl,WX,Zap,ZdZ,Zbs,Y5,Zft,Zdq,Ze4,ZaJ,trivial⟩
end Go.Vs.Tryz
