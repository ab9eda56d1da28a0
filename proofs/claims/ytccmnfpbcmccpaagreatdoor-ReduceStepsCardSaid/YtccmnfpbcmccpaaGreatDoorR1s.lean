/- All data declarations, scanned: each round by the kernel. -/
import Derived.Test.YtccmnfpbcmccpaaGreatDoorR0s
import Derived.Test.YtccmnfpbcmccpaaGreatDoorM6s
set_option linter.unusedSimpArgs false
set_option linter.unusedVariables false
set_option linter.deprecated false
namespace Go.Vs.Tryz
open Go Go.Vs
def T3:FuncId->Option VFun:=fun f=>bif f==121 then none else T f
def X3:Zab:=fun f args objs=>bif f==121 then (ZdD T X gl0 100 f args objs).map (Zcg false) else X f args objs
theorem T3_ok:∀f vf,T3 f=some vf->mFun Go.Proofs.Tryz.prog f vf=true:=by
 intro f vf h;unfold T3 at h;cases hf:f==121 with
 |true=>rw[hf]at h;cases h
 |false=>rw[hf]at h;exact T_ok f vf h
theorem X3_ok:∀(f:FuncId)(args:List V)(objs:List Obj)(rv:V)(objs':List Obj),X3 f args objs=some (rv,objs')->FnOk Go.Proofs.Tryz.prog gl0 f args objs rv objs':=by
 intro f args objs rv objs' h;unfold X3 at h;cases hf:f==121 with
 |true=>
  rw[hf]at h;obtain⟨y,h1,h2⟩:=qo.1 h;have:=(ev_ok (rv:=y.1) (objs':=y.2) h1).norm false;rw[show Zcg false (y.1,y.2)=(rv,objs')from h2]at this;exact this
 |false=>rw[hf]at h;exact X_ok f args objs rv objs' h
noncomputable def Kx:Ctx:=⟨lim T3 X3 gl0,gl0⟩
@[simp] theorem Kx_gl:Kx.gl=gl0:=rfl
theorem fn_x {f:FuncId}{vf:VFun}{args:List V}{objs:List Obj}{r:V×List Obj}(hT:T3 f=some vf)(hn:args.length=vf.nparams)(ho:objs.length<=64)
 (h:wp Kx vf.body (Zg0 vf.keep objs.length vf.results r) ⟨ZbT 0 args,ZbT 0 (objs.map some)⟩):Kx.call f args objs=some r:=ZoW hT hn ho h
theorem Zhe {n:Nat}{c:VCode}{s s':St}{e:Ex}{Q:Ex->St->Prop}(h:run ⟨Zb9 T3 X3 gl0 n,gl0⟩ n c s=some (e,s'))(hq:Q e s'):wp Kx c Q s:=
 ⟨n,e,s',Zdf (c':=lim T3 X3 gl0) (fun _ _ _ _ h=>Zfq h) (qe n) h,hq⟩
theorem ZyZ {n:Nat}{f:FuncId}{args:List V}{objs:List Obj}{r:V×List Obj}(h:Zb9 T3 X3 gl0 n f args objs=some r):Kx.call f args objs=some r:=Zfq h
def allText:List UInt8:=[100,97,116,97,32,66,111,111,108,32,61,32,84,114,117,101,32,124,32,70,97,108,115,101,59,32,100,97,116,97,32,79,112,116,105,111,110,32,97,32,61,32,78,111,110,101,32,124,32,83,111,109,101,32,97,59,32,100,97,116,97,32,76,105,115,116,32,97,32,61,32,78,105,108,32,124,32,67,111,110,115,32,97,32,40,76,105,115,116,32,97,41,59,100,97,116,97,32,80,97,105,114,32,97,32,98,32,61,32,80,97,105,114,32,97,32,98,59,32,100,97,116,97,32,78,97,116,32,61,32,90,101,114,111,32,124,32,83,117,99,99,32,78,97,116,59,32,100,97,116,97,32,70,117,110,32,97,32,98,32,61,32,70,117,110,32,40,97,32,45,62,32,98,41,59,32,100,97,116,97,32,84,119,111,32,97,32,61,32,66,111,116,104,32,97,32,97,32,124,32,79,110,101,32,40,79,112,116,105,111,110,32,97,41,59]
def allToks:List (List Cell):=[[.int .i64 4,.str [100,97,116,97],.int .i64 0],[.int .i64 2,.str [66,111,111,108],.int .i64 5],[.int .i64 5,.str [61],.int .i64 10],[.int .i64 2,.str [84,114,117,101],.int .i64 12],[.int .i64 5,.str [124],.int .i64 17],[.int .i64 2,.str [70,97,108,115,101],.int .i64 19],[.int .i64 5,.str [59],.int .i64 24],[.int .i64 4,.str [100,97,116,97],.int .i64 26],[.int .i64 2,.str [79,112,116,105,111,110],.int .i64 31],[.int .i64 1,.str [97],.int .i64 38],[.int .i64 5,.str [61],.int .i64 40],[.int .i64 2,.str [78,111,110,101],.int .i64 42],[.int .i64 5,.str [124],.int .i64 47],[.int .i64 2,.str [83,111,109,101],.int .i64 49],[.int .i64 1,.str [97],.int .i64 54],[.int .i64 5,.str [59],.int .i64 55],[.int .i64 4,.str [100,97,116,97],.int .i64 57],[.int .i64 2,.str [76,105,115,116],.int .i64 62],[.int .i64 1,.str [97],.int .i64 67],[.int .i64 5,.str [61],.int .i64 69],[.int .i64 2,.str [78,105,108],.int .i64 71],[.int .i64 5,.str [124],.int .i64 75],[.int .i64 2,.str [67,111,110,115],.int .i64 77],[.int .i64 1,.str [97],.int .i64 82],[.int .i64 5,.str [40],.int .i64 84],[.int .i64 2,.str [76,105,115,116],.int .i64 85],[.int .i64 1,.str [97],.int .i64 90],[.int .i64 5,.str [41],.int .i64 91],[.int .i64 5,.str [59],.int .i64 92],[.int .i64 4,.str [100,97,116,97],.int .i64 93],[.int .i64 2,.str [80,97,105,114],.int .i64 98],[.int .i64 1,.str [97],.int .i64 103],[.int .i64 1,.str [98],.int .i64 105],[.int .i64 5,.str [61],.int .i64 107],[.int .i64 2,.str [80,97,105,114],.int .i64 109],[.int .i64 1,.str [97],.int .i64 114],[.int .i64 1,.str [98],.int .i64 116],[.int .i64 5,.str [59],.int .i64 117],[.int .i64 4,.str [100,97,116,97],.int .i64 119],[.int .i64 2,.str [78,97,116],.int .i64 124],[.int .i64 5,.str [61],.int .i64 128],[.int .i64 2,.str [90,101,114,111],.int .i64 130],[.int .i64 5,.str [124],.int .i64 135],[.int .i64 2,.str [83,117,99,99],.int .i64 137],[.int .i64 2,.str [78,97,116],.int .i64 142],[.int .i64 5,.str [59],.int .i64 145],[.int .i64 4,.str [100,97,116,97],.int .i64 147],[.int .i64 2,.str [70,117,110],.int .i64 152],[.int .i64 1,.str [97],.int .i64 156],[.int .i64 1,.str [98],.int .i64 158],[.int .i64 5,.str [61],.int .i64 160],[.int .i64 2,.str [70,117,110],.int .i64 162],[.int .i64 5,.str [40],.int .i64 166],[.int .i64 1,.str [97],.int .i64 167],[.int .i64 5,.str [45,62],.int .i64 169],[.int .i64 1,.str [98],.int .i64 172],[.int .i64 5,.str [41],.int .i64 173],[.int .i64 5,.str [59],.int .i64 174],[.int .i64 4,.str [100,97,116,97],.int .i64 176],[.int .i64 2,.str [84,119,111],.int .i64 181],[.int .i64 1,.str [97],.int .i64 185],[.int .i64 5,.str [61],.int .i64 187],[.int .i64 2,.str [66,111,116,104],.int .i64 189],[.int .i64 1,.str [97],.int .i64 194],[.int .i64 1,.str [97],.int .i64 196],[.int .i64 5,.str [124],.int .i64 198],[.int .i64 2,.str [79,110,101],.int .i64 200],[.int .i64 5,.str [40],.int .i64 204],[.int .i64 2,.str [79,112,116,105,111,110],.int .i64 205],[.int .i64 1,.str [97],.int .i64 212],[.int .i64 5,.str [41],.int .i64 213],[.int .i64 5,.str [59],.int .i64 214]]
def Zwd (p:Nat×Nat):St:=⟨[(0,.sc (.c (.str allText))),(3,.sc (.ptr 128 0)),(4,.sc (.arr 577 p.2)),(5,.sc (.c (.int .i64 p.1)))],[(128,some (.box [zi,zi])),(577,some (.arr 3 (wr (allToks.take p.2)) 0))]⟩
def Zac (p q:Nat×Nat):Prop:=run ⟨Zb9 T3 X3 gl0 40,gl0⟩ 40 ZAQ (Zwd p)=some (.normal,Zwd q)
def Chain:List (Nat×Nat)->Prop
 |p::q::r=>Zac p q/\Chain (q::r)
 |_=>True
theorem Chain.get:∀{l:List (Nat×Nat)}{i:Nat}{p q:Nat×Nat},Chain l->l[i]?=some p->l[i+1]?=some q->Zac p q
 |p::q::r,0,_,_,h,h1,h2=>by
  simp only[qI,qa6,qb]at h1 h2;subst h1 h2;exact h.1
 |p::q::r,i+1,_,_,h,h1,h2=>Chain.get (l:=q::r) h.2 (by simpa using h1) (by simpa using h2)
 |[_],i,_,_,_,_,h2=>by simp at h2
 |[],_,_,_,_,h1,_=>by simp at h1
theorem scan0:Zac (0,0) (4,1):=by unfold Zac;kernel_rfl
theorem scan1:Zac (4,1) (5,1):=by unfold Zac;kernel_rfl
theorem scan2:Zac (5,1) (9,2):=by unfold Zac;kernel_rfl
theorem scan3:Zac (9,2) (10,2):=by unfold Zac;kernel_rfl
theorem scan4:Zac (10,2) (11,3):=by unfold Zac;kernel_rfl
theorem scan5:Zac (11,3) (12,3):=by unfold Zac;kernel_rfl
theorem scan6:Zac (12,3) (16,4):=by unfold Zac;kernel_rfl
theorem scan7:Zac (16,4) (17,4):=by unfold Zac;kernel_rfl
theorem scan8:Zac (17,4) (18,5):=by unfold Zac;kernel_rfl
theorem scan9:Zac (18,5) (19,5):=by unfold Zac;kernel_rfl
theorem scan10:Zac (19,5) (24,6):=by unfold Zac;kernel_rfl
theorem scan11:Zac (24,6) (25,7):=by unfold Zac;kernel_rfl
theorem scan12:Zac (25,7) (26,7):=by unfold Zac;kernel_rfl
theorem scan13:Zac (26,7) (30,8):=by unfold Zac;kernel_rfl
theorem scan14:Zac (30,8) (31,8):=by unfold Zac;kernel_rfl
theorem scan15:Zac (31,8) (37,9):=by unfold Zac;kernel_rfl
theorem scan16:Zac (37,9) (38,9):=by unfold Zac;kernel_rfl
theorem scan17:Zac (38,9) (39,10):=by unfold Zac;kernel_rfl
theorem scan18:Zac (39,10) (40,10):=by unfold Zac;kernel_rfl
theorem scan19:Zac (40,10) (41,11):=by unfold Zac;kernel_rfl
theorem scan20:Zac (41,11) (42,11):=by unfold Zac;kernel_rfl
theorem scan21:Zac (42,11) (46,12):=by unfold Zac;kernel_rfl
theorem scan22:Zac (46,12) (47,12):=by unfold Zac;kernel_rfl
theorem scan23:Zac (47,12) (48,13):=by unfold Zac;kernel_rfl
theorem scan24:Zac (48,13) (49,13):=by unfold Zac;kernel_rfl
theorem scan25:Zac (49,13) (53,14):=by unfold Zac;kernel_rfl
theorem scan26:Zac (53,14) (54,14):=by unfold Zac;kernel_rfl
theorem scan27:Zac (54,14) (55,15):=by unfold Zac;kernel_rfl
theorem scan28:Zac (55,15) (56,16):=by unfold Zac;kernel_rfl
theorem scan29:Zac (56,16) (57,16):=by unfold Zac;kernel_rfl
theorem scan30:Zac (57,16) (61,17):=by unfold Zac;kernel_rfl
theorem scan31:Zac (61,17) (62,17):=by unfold Zac;kernel_rfl
theorem scan32:Zac (62,17) (66,18):=by unfold Zac;kernel_rfl
theorem scan33:Zac (66,18) (67,18):=by unfold Zac;kernel_rfl
theorem scan34:Zac (67,18) (68,19):=by unfold Zac;kernel_rfl
theorem scan35:Zac (68,19) (69,19):=by unfold Zac;kernel_rfl
theorem scan36:Zac (69,19) (70,20):=by unfold Zac;kernel_rfl
theorem scan37:Zac (70,20) (71,20):=by unfold Zac;kernel_rfl
theorem scan38:Zac (71,20) (74,21):=by unfold Zac;kernel_rfl
theorem scan39:Zac (74,21) (75,21):=by unfold Zac;kernel_rfl
theorem scan40:Zac (75,21) (76,22):=by unfold Zac;kernel_rfl
theorem scan41:Zac (76,22) (77,22):=by unfold Zac;kernel_rfl
theorem scan42:Zac (77,22) (81,23):=by unfold Zac;kernel_rfl
theorem scan43:Zac (81,23) (82,23):=by unfold Zac;kernel_rfl
theorem scan44:Zac (82,23) (83,24):=by unfold Zac;kernel_rfl
theorem scan45:Zac (83,24) (84,24):=by unfold Zac;kernel_rfl
theorem scan46:Zac (84,24) (85,25):=by unfold Zac;kernel_rfl
theorem scan47:Zac (85,25) (89,26):=by unfold Zac;kernel_rfl
theorem scan48:Zac (89,26) (90,26):=by unfold Zac;kernel_rfl
theorem scan49:Zac (90,26) (91,27):=by unfold Zac;kernel_rfl
theorem scan50:Zac (91,27) (92,28):=by unfold Zac;kernel_rfl
theorem scan51:Zac (92,28) (93,29):=by unfold Zac;kernel_rfl
theorem scan52:Zac (93,29) (97,30):=by unfold Zac;kernel_rfl
theorem scan53:Zac (97,30) (98,30):=by unfold Zac;kernel_rfl
theorem scan54:Zac (98,30) (102,31):=by unfold Zac;kernel_rfl
theorem scan55:Zac (102,31) (103,31):=by unfold Zac;kernel_rfl
theorem scan56:Zac (103,31) (104,32):=by unfold Zac;kernel_rfl
theorem scan57:Zac (104,32) (105,32):=by unfold Zac;kernel_rfl
theorem scan58:Zac (105,32) (106,33):=by unfold Zac;kernel_rfl
theorem scan59:Zac (106,33) (107,33):=by unfold Zac;kernel_rfl
theorem scan60:Zac (107,33) (108,34):=by unfold Zac;kernel_rfl
theorem scan61:Zac (108,34) (109,34):=by unfold Zac;kernel_rfl
theorem scan62:Zac (109,34) (113,35):=by unfold Zac;kernel_rfl
theorem scan63:Zac (113,35) (114,35):=by unfold Zac;kernel_rfl
theorem scan64:Zac (114,35) (115,36):=by unfold Zac;kernel_rfl
theorem scan65:Zac (115,36) (116,36):=by unfold Zac;kernel_rfl
theorem scan66:Zac (116,36) (117,37):=by unfold Zac;kernel_rfl
theorem scan67:Zac (117,37) (118,38):=by unfold Zac;kernel_rfl
theorem scan68:Zac (118,38) (119,38):=by unfold Zac;kernel_rfl
theorem scan69:Zac (119,38) (123,39):=by unfold Zac;kernel_rfl
theorem scan70:Zac (123,39) (124,39):=by unfold Zac;kernel_rfl
theorem scan71:Zac (124,39) (127,40):=by unfold Zac;kernel_rfl
theorem scan72:Zac (127,40) (128,40):=by unfold Zac;kernel_rfl
theorem scan73:Zac (128,40) (129,41):=by unfold Zac;kernel_rfl
theorem scan74:Zac (129,41) (130,41):=by unfold Zac;kernel_rfl
theorem scan75:Zac (130,41) (134,42):=by unfold Zac;kernel_rfl
theorem scan76:Zac (134,42) (135,42):=by unfold Zac;kernel_rfl
theorem scan77:Zac (135,42) (136,43):=by unfold Zac;kernel_rfl
theorem scan78:Zac (136,43) (137,43):=by unfold Zac;kernel_rfl
theorem scan79:Zac (137,43) (141,44):=by unfold Zac;kernel_rfl
theorem scan80:Zac (141,44) (142,44):=by unfold Zac;kernel_rfl
theorem scan81:Zac (142,44) (145,45):=by unfold Zac;kernel_rfl
theorem scan82:Zac (145,45) (146,46):=by unfold Zac;kernel_rfl
theorem scan83:Zac (146,46) (147,46):=by unfold Zac;kernel_rfl
theorem scan84:Zac (147,46) (151,47):=by unfold Zac;kernel_rfl
theorem scan85:Zac (151,47) (152,47):=by unfold Zac;kernel_rfl
theorem scan86:Zac (152,47) (155,48):=by unfold Zac;kernel_rfl
theorem scan87:Zac (155,48) (156,48):=by unfold Zac;kernel_rfl
theorem scan88:Zac (156,48) (157,49):=by unfold Zac;kernel_rfl
theorem scan89:Zac (157,49) (158,49):=by unfold Zac;kernel_rfl
theorem scan90:Zac (158,49) (159,50):=by unfold Zac;kernel_rfl
theorem scan91:Zac (159,50) (160,50):=by unfold Zac;kernel_rfl
theorem scan92:Zac (160,50) (161,51):=by unfold Zac;kernel_rfl
theorem scan93:Zac (161,51) (162,51):=by unfold Zac;kernel_rfl
theorem scan94:Zac (162,51) (165,52):=by unfold Zac;kernel_rfl
theorem scan95:Zac (165,52) (166,52):=by unfold Zac;kernel_rfl
theorem scan96:Zac (166,52) (167,53):=by unfold Zac;kernel_rfl
theorem scan97:Zac (167,53) (168,54):=by unfold Zac;kernel_rfl
theorem scan98:Zac (168,54) (169,54):=by unfold Zac;kernel_rfl
theorem scan99:Zac (169,54) (171,55):=by unfold Zac;kernel_rfl
theorem ZAE:Zac (171,55) (172,55):=by unfold Zac;kernel_rfl
theorem ZAY:Zac (172,55) (173,56):=by unfold Zac;kernel_rfl
theorem Zze:Zac (173,56) (174,57):=by unfold Zac;kernel_rfl
theorem ZzO:Zac (174,57) (175,58):=by unfold Zac;kernel_rfl
theorem ZAz:Zac (175,58) (176,58):=by unfold Zac;kernel_rfl
theorem ZzX:Zac (176,58) (180,59):=by unfold Zac;kernel_rfl
theorem ZAB:Zac (180,59) (181,59):=by unfold Zac;kernel_rfl
theorem Zz5:Zac (181,59) (184,60):=by unfold Zac;kernel_rfl
theorem Zy7:Zac (184,60) (185,60):=by unfold Zac;kernel_rfl
theorem ZAK:Zac (185,60) (186,61):=by unfold Zac;kernel_rfl
theorem Zzb:Zac (186,61) (187,61):=by unfold Zac;kernel_rfl
theorem ZA9:Zac (187,61) (188,62):=by unfold Zac;kernel_rfl
theorem Zy6:Zac (188,62) (189,62):=by unfold Zac;kernel_rfl
theorem Zzr:Zac (189,62) (193,63):=by unfold Zac;kernel_rfl
theorem Zzi:Zac (193,63) (194,63):=by unfold Zac;kernel_rfl
theorem ZzJ:Zac (194,63) (195,64):=by unfold Zac;kernel_rfl
theorem Zy3:Zac (195,64) (196,64):=by unfold Zac;kernel_rfl
theorem ZBd:Zac (196,64) (197,65):=by unfold Zac;kernel_rfl
theorem ZA8:Zac (197,65) (198,65):=by unfold Zac;kernel_rfl
theorem Zy2:Zac (198,65) (199,66):=by unfold Zac;kernel_rfl
theorem ZA3:Zac (199,66) (200,66):=by unfold Zac;kernel_rfl
theorem ZAq:Zac (200,66) (203,67):=by unfold Zac;kernel_rfl
theorem Zzp:Zac (203,67) (204,67):=by unfold Zac;kernel_rfl
theorem ZAs:Zac (204,67) (205,68):=by unfold Zac;kernel_rfl
theorem ZAm:Zac (205,68) (211,69):=by unfold Zac;kernel_rfl
theorem ZAR:Zac (211,69) (212,69):=by unfold Zac;kernel_rfl
theorem ZAb:Zac (212,69) (213,70):=by unfold Zac;kernel_rfl
theorem Zz6:Zac (213,70) (214,71):=by unfold Zac;kernel_rfl
theorem ZzW:Zac (214,71) (215,72):=by unfold Zac;kernel_rfl
def scanL:List (Nat×Nat):=[(0,0),(4,1),(5,1),(9,2),(10,2),(11,3),(12,3),(16,4),(17,4),(18,5),(19,5),(24,6),(25,7),(26,7),(30,8),(31,8),(37,9),(38,9),(39,10),(40,10),(41,11),(42,11),(46,12),(47,12),(48,13),(49,13),(53,14),(54,14),(55,15),(56,16),(57,16),(61,17),(62,17),(66,18),(67,18),(68,19),(69,19),(70,20),(71,20),(74,21),(75,21),(76,22),(77,22),(81,23),(82,23),(83,24),(84,24),(85,25),(89,26),(90,26),(91,27),(92,28),(93,29),(97,30),(98,30),(102,31),(103,31),(104,32),(105,32),(106,33),(107,33),(108,34),(109,34),(113,35),(114,35),(115,36),(116,36),(117,37),(118,38),(119,38),(123,39),(124,39),(127,40),(128,40),(129,41),(130,41),(134,42),(135,42),(136,43),(137,43),(141,44),(142,44),(145,45),(146,46),(147,46),(151,47),(152,47),(155,48),(156,48),(157,49),(158,49),(159,50),(160,50),(161,51),(162,51),(165,52),(166,52),(167,53),(168,54),(169,54),(171,55),(172,55),(173,56),(174,57),(175,58),(176,58),(180,59),(181,59),(184,60),(185,60),(186,61),(187,61),(188,62),(189,62),(193,63),(194,63),(195,64),(196,64),(197,65),(198,65),(199,66),(200,66),(203,67),(204,67),(205,68),(211,69),(212,69),(213,70),(214,71),(215,72)]
theorem scan_chain:Chain scanL:=⟨scan0,scan1,scan2,scan3,scan4,scan5,scan6,scan7,scan8,scan9,scan10,scan11,scan12,scan13,scan14,scan15,scan16,scan17,scan18,scan19,scan20,scan21,scan22,scan23,scan24,scan25,scan26,scan27,scan28,scan29,scan30,scan31,scan32,scan33,scan34,scan35,scan36,scan37,scan38,scan39,scan40,scan41,scan42,scan43,scan44,scan45,scan46,scan47,scan48,scan49,scan50,scan51,scan52,scan53,scan54,scan55,scan56,scan57,scan58,scan59,scan60,scan61,scan62,scan63,scan64,scan65,scan66,scan67,scan68,scan69,scan70,scan71,scan72,scan73,scan74,scan75,scan76,scan77,scan78,scan79,scan80,scan81,scan82,scan83,scan84,scan85,scan86,scan87,scan88,scan89,scan90,scan91,scan92,scan93,scan94,scan95,scan96,scan97,scan98,scan99,ZAE,ZAY,Zze,ZzO,ZAz,ZzX,ZAB,Zz5,Zy7,ZAK,Zzb,ZA9,Zy6,Zzr,Zzi,ZzJ,Zy3,ZBd,ZA8,Zy2,ZA3,ZAq,Zzp,ZAs,ZAm,ZAR,ZAb,Zz6,ZzW,trivial⟩
end Go.Vs.Tryz
