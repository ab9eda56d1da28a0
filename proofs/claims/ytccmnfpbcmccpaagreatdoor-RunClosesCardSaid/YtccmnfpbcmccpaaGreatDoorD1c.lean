/- All data declarations, scanned: each round by the kernel. (Parts of one proof, put together.) -/
import Derived.Test.YtccmnfpbcmccpaaGreatDoorR0c
import Derived.Test.YtccmnfpbcmccpaaGreatDoorM6c
set_option linter.unusedSimpArgs false
set_option linter.unusedVariables false
set_option linter.deprecated false
namespace Go.Vs.Tryz
open Go Go.Vs
def T3:FuncId→Option VFun:=fun f=>bif f == 121 then none else T f
def X3:Zac:=fun f args objs=>bif f == 121 then (Zcb T X gl0 100 f args objs).map (ZcL false) else X f args objs
theorem T3_ok:∀ f vf,T3 f=some vf→mFun Go.Proofs.Tryz.prog f vf=true:=by
 intro f vf h
 unfold T3 at h
 cases hf:f == 121 with
 | true=>rw [hf] at h;cases h
 | false=>rw [hf] at h;exact T_ok f vf h
theorem X3_ok:∀ (f:FuncId)(args:List V)(objs:List Obj)(rv:V)(objs':List Obj),X3 f args objs=some (rv,objs')→FnOk Go.Proofs.Tryz.prog gl0 f args objs rv objs':=by
 intro f args objs rv objs' h
 unfold X3 at h
 cases hf:f == 121 with
 | true =>
  rw [hf] at h
  obtain ⟨y,h1,h2⟩:=Option.map_eq_some_iff.1 h
  have:=(ev_ok (rv:=y.1) (objs':=y.2) h1).norm false
  rw [show ZcL false (y.1,y.2)=(rv,objs') from h2] at this
  exact this
 | false=>rw [hf] at h;exact X_ok f args objs rv objs' h
noncomputable def Kx:Ctx:=⟨lim T3 X3 gl0,gl0⟩
@[simp] theorem Kx_gl:Kx.gl=gl0:=rfl
theorem fn_x {f:FuncId}{vf:VFun}{args:List V}{objs:List Obj}{r:V × List Obj}(hT:T3 f=some vf)(hn:args.length=vf.nparams)(ho:objs.length≤64)
 (h:wp Kx vf.body (ZeV vf.keep objs.length vf.results r) ⟨Za5 0 args,Za5 0 (objs.map some)⟩):Kx.call f args objs=some r:=ZjC hT hn ho h
theorem ZeM {n:Nat}{c:VCode}{s s':St}{e:Ex}{Q:Ex→St→Prop}(h:run ⟨ZbI T3 X3 gl0 n,gl0⟩ n c s=some (e,s'))(hq:Q e s'):wp Kx c Q s :=
 ⟨n,e,s',ZbP (c':=lim T3 X3 gl0) (fun _ _ _ _ h=>Zj9 h) (Nat.le_refl n) h,hq⟩
theorem Zpx {n:Nat}{f:FuncId}{args:List V}{objs:List Obj}{r:V × List Obj}(h:ZbI T3 X3 gl0 n f args objs=some r):Kx.call f args objs=some r:=Zj9 h
def allText:List UInt8:=[100,97,116,97,32,66,111,111,108,32,61,32,84,114,117,101,32,124,32,70,97,108,115,101,59,32,100,97,116,97,32,79,112,116,105,111,110,32,97,32,61,32,78,111,110,101,32,124,32,83,111,109,101,32,97,59,32,100,97,116,97,32,76,105,115,116,32,97,32,61,32,78,105,108,32,124,32,67,111,110,115,32,97,32,40,76,105,115,116,32,97,41,59,100,97,116,97,32,80,97,105,114,32,97,32,98,32,61,32,80,97,105,114,32,97,32,98,59,32,100,97,116,97,32,78,97,116,32,61,32,90,101,114,111,32,124,32,83,117,99,99,32,78,97,116,59,32,100,97,116,97,32,70,117,110,32,97,32,98,32,61,32,70,117,110,32,40,97,32,45,62,32,98,41,59,32,100,97,116,97,32,84,119,111,32,97,32,61,32,66,111,116,104,32,97,32,97,32,124,32,79,110,101,32,40,79,112,116,105,111,110,32,97,41,59]
def allToks:List (List Cell):=[[.int .i64 4,.str [100,97,116,97],.int .i64 0],[.int .i64 2,.str [66,111,111,108],.int .i64 5],[.int .i64 5,.str [61],.int .i64 10],[.int .i64 2,.str [84,114,117,101],.int .i64 12],[.int .i64 5,.str [124],.int .i64 17],[.int .i64 2,.str [70,97,108,115,101],.int .i64 19],[.int .i64 5,.str [59],.int .i64 24],[.int .i64 4,.str [100,97,116,97],.int .i64 26],[.int .i64 2,.str [79,112,116,105,111,110],.int .i64 31],[.int .i64 1,.str [97],.int .i64 38],[.int .i64 5,.str [61],.int .i64 40],[.int .i64 2,.str [78,111,110,101],.int .i64 42],[.int .i64 5,.str [124],.int .i64 47],[.int .i64 2,.str [83,111,109,101],.int .i64 49],[.int .i64 1,.str [97],.int .i64 54],[.int .i64 5,.str [59],.int .i64 55],[.int .i64 4,.str [100,97,116,97],.int .i64 57],[.int .i64 2,.str [76,105,115,116],.int .i64 62],[.int .i64 1,.str [97],.int .i64 67],[.int .i64 5,.str [61],.int .i64 69],[.int .i64 2,.str [78,105,108],.int .i64 71],[.int .i64 5,.str [124],.int .i64 75],[.int .i64 2,.str [67,111,110,115],.int .i64 77],[.int .i64 1,.str [97],.int .i64 82],[.int .i64 5,.str [40],.int .i64 84],[.int .i64 2,.str [76,105,115,116],.int .i64 85],[.int .i64 1,.str [97],.int .i64 90],[.int .i64 5,.str [41],.int .i64 91],[.int .i64 5,.str [59],.int .i64 92],[.int .i64 4,.str [100,97,116,97],.int .i64 93],[.int .i64 2,.str [80,97,105,114],.int .i64 98],[.int .i64 1,.str [97],.int .i64 103],[.int .i64 1,.str [98],.int .i64 105],[.int .i64 5,.str [61],.int .i64 107],[.int .i64 2,.str [80,97,105,114],.int .i64 109],[.int .i64 1,.str [97],.int .i64 114],[.int .i64 1,.str [98],.int .i64 116],[.int .i64 5,.str [59],.int .i64 117],[.int .i64 4,.str [100,97,116,97],.int .i64 119],[.int .i64 2,.str [78,97,116],.int .i64 124],[.int .i64 5,.str [61],.int .i64 128],[.int .i64 2,.str [90,101,114,111],.int .i64 130],[.int .i64 5,.str [124],.int .i64 135],[.int .i64 2,.str [83,117,99,99],.int .i64 137],[.int .i64 2,.str [78,97,116],.int .i64 142],[.int .i64 5,.str [59],.int .i64 145],[.int .i64 4,.str [100,97,116,97],.int .i64 147],[.int .i64 2,.str [70,117,110],.int .i64 152],[.int .i64 1,.str [97],.int .i64 156],[.int .i64 1,.str [98],.int .i64 158],[.int .i64 5,.str [61],.int .i64 160],[.int .i64 2,.str [70,117,110],.int .i64 162],[.int .i64 5,.str [40],.int .i64 166],[.int .i64 1,.str [97],.int .i64 167],[.int .i64 5,.str [45,62],.int .i64 169],[.int .i64 1,.str [98],.int .i64 172],[.int .i64 5,.str [41],.int .i64 173],[.int .i64 5,.str [59],.int .i64 174],[.int .i64 4,.str [100,97,116,97],.int .i64 176],[.int .i64 2,.str [84,119,111],.int .i64 181],[.int .i64 1,.str [97],.int .i64 185],[.int .i64 5,.str [61],.int .i64 187],[.int .i64 2,.str [66,111,116,104],.int .i64 189],[.int .i64 1,.str [97],.int .i64 194],[.int .i64 1,.str [97],.int .i64 196],[.int .i64 5,.str [124],.int .i64 198],[.int .i64 2,.str [79,110,101],.int .i64 200],[.int .i64 5,.str [40],.int .i64 204],[.int .i64 2,.str [79,112,116,105,111,110],.int .i64 205],[.int .i64 1,.str [97],.int .i64 212],[.int .i64 5,.str [41],.int .i64 213],[.int .i64 5,.str [59],.int .i64 214]]
def Zog (p:Nat × Nat):St:=⟨[(0,.sc (.c (.str allText))),(3,.sc (.ptr 128 0)),(4,.sc (.arr 577 p.2)),(5,.sc (.c (.int .i64 p.1)))],[(128,some (.box [zi,zi])),(577,some (.arr 3 (wr (allToks.take p.2)) 0))]⟩
def Zab (p q:Nat × Nat):Prop:=run ⟨ZbI T3 X3 gl0 40,gl0⟩ 40 ZpZ (Zog p)=some (.normal,Zog q)
def Chain:List (Nat × Nat)→Prop
 | p::q::r=>Zab p q∧Chain (q::r)
 | _=>True
theorem Chain.get:∀ {l:List (Nat × Nat)}{i:Nat}{p q:Nat × Nat},Chain l→l[i]?=some p→l[i+1]?=some q→Zab p q
 | p::q::r,0,_,_,h,h1,h2=>by
  simp only [List.getElem?_cons_zero,List.getElem?_cons_succ,Option.some.injEq] at h1 h2
  subst h1 h2
  exact h.1
 | p::q::r,i+1,_,_,h,h1,h2=>Chain.get (l:=q::r) h.2 (by simpa using h1) (by simpa using h2)
 | [_],i,_,_,_,_,h2=>by simp at h2
 | [],_,_,_,_,h1,_=>by simp at h1
theorem scan0:Zab (0,0) (4,1):=by unfold Zab;kernel_rfl
theorem scan1:Zab (4,1) (5,1):=by unfold Zab;kernel_rfl
theorem scan2:Zab (5,1) (9,2):=by unfold Zab;kernel_rfl
theorem scan3:Zab (9,2) (10,2):=by unfold Zab;kernel_rfl
theorem scan4:Zab (10,2) (11,3):=by unfold Zab;kernel_rfl
theorem scan5:Zab (11,3) (12,3):=by unfold Zab;kernel_rfl
theorem scan6:Zab (12,3) (16,4):=by unfold Zab;kernel_rfl
theorem scan7:Zab (16,4) (17,4):=by unfold Zab;kernel_rfl
theorem scan8:Zab (17,4) (18,5):=by unfold Zab;kernel_rfl
theorem scan9:Zab (18,5) (19,5):=by unfold Zab;kernel_rfl
theorem scan10:Zab (19,5) (24,6):=by unfold Zab;kernel_rfl
theorem scan11:Zab (24,6) (25,7):=by unfold Zab;kernel_rfl
theorem scan12:Zab (25,7) (26,7):=by unfold Zab;kernel_rfl
theorem scan13:Zab (26,7) (30,8):=by unfold Zab;kernel_rfl
theorem scan14:Zab (30,8) (31,8):=by unfold Zab;kernel_rfl
theorem scan15:Zab (31,8) (37,9):=by unfold Zab;kernel_rfl
theorem scan16:Zab (37,9) (38,9):=by unfold Zab;kernel_rfl
theorem scan17:Zab (38,9) (39,10):=by unfold Zab;kernel_rfl
theorem scan18:Zab (39,10) (40,10):=by unfold Zab;kernel_rfl
theorem scan19:Zab (40,10) (41,11):=by unfold Zab;kernel_rfl
theorem scan20:Zab (41,11) (42,11):=by unfold Zab;kernel_rfl
theorem scan21:Zab (42,11) (46,12):=by unfold Zab;kernel_rfl
theorem scan22:Zab (46,12) (47,12):=by unfold Zab;kernel_rfl
theorem scan23:Zab (47,12) (48,13):=by unfold Zab;kernel_rfl
theorem scan24:Zab (48,13) (49,13):=by unfold Zab;kernel_rfl
theorem scan25:Zab (49,13) (53,14):=by unfold Zab;kernel_rfl
theorem scan26:Zab (53,14) (54,14):=by unfold Zab;kernel_rfl
theorem scan27:Zab (54,14) (55,15):=by unfold Zab;kernel_rfl
theorem scan28:Zab (55,15) (56,16):=by unfold Zab;kernel_rfl
theorem scan29:Zab (56,16) (57,16):=by unfold Zab;kernel_rfl
theorem scan30:Zab (57,16) (61,17):=by unfold Zab;kernel_rfl
theorem scan31:Zab (61,17) (62,17):=by unfold Zab;kernel_rfl
theorem scan32:Zab (62,17) (66,18):=by unfold Zab;kernel_rfl
theorem scan33:Zab (66,18) (67,18):=by unfold Zab;kernel_rfl
theorem scan34:Zab (67,18) (68,19):=by unfold Zab;kernel_rfl
theorem scan35:Zab (68,19) (69,19):=by unfold Zab;kernel_rfl
theorem scan36:Zab (69,19) (70,20):=by unfold Zab;kernel_rfl
theorem scan37:Zab (70,20) (71,20):=by unfold Zab;kernel_rfl
theorem scan38:Zab (71,20) (74,21):=by unfold Zab;kernel_rfl
theorem scan39:Zab (74,21) (75,21):=by unfold Zab;kernel_rfl
theorem scan40:Zab (75,21) (76,22):=by unfold Zab;kernel_rfl
theorem scan41:Zab (76,22) (77,22):=by unfold Zab;kernel_rfl
theorem scan42:Zab (77,22) (81,23):=by unfold Zab;kernel_rfl
theorem scan43:Zab (81,23) (82,23):=by unfold Zab;kernel_rfl
theorem scan44:Zab (82,23) (83,24):=by unfold Zab;kernel_rfl
theorem scan45:Zab (83,24) (84,24):=by unfold Zab;kernel_rfl
theorem scan46:Zab (84,24) (85,25):=by unfold Zab;kernel_rfl
theorem scan47:Zab (85,25) (89,26):=by unfold Zab;kernel_rfl
theorem scan48:Zab (89,26) (90,26):=by unfold Zab;kernel_rfl
theorem scan49:Zab (90,26) (91,27):=by unfold Zab;kernel_rfl
theorem scan50:Zab (91,27) (92,28):=by unfold Zab;kernel_rfl
theorem scan51:Zab (92,28) (93,29):=by unfold Zab;kernel_rfl
theorem scan52:Zab (93,29) (97,30):=by unfold Zab;kernel_rfl
theorem scan53:Zab (97,30) (98,30):=by unfold Zab;kernel_rfl
theorem scan54:Zab (98,30) (102,31):=by unfold Zab;kernel_rfl
theorem scan55:Zab (102,31) (103,31):=by unfold Zab;kernel_rfl
theorem scan56:Zab (103,31) (104,32):=by unfold Zab;kernel_rfl
theorem scan57:Zab (104,32) (105,32):=by unfold Zab;kernel_rfl
theorem scan58:Zab (105,32) (106,33):=by unfold Zab;kernel_rfl
theorem scan59:Zab (106,33) (107,33):=by unfold Zab;kernel_rfl
theorem scan60:Zab (107,33) (108,34):=by unfold Zab;kernel_rfl
theorem scan61:Zab (108,34) (109,34):=by unfold Zab;kernel_rfl
theorem scan62:Zab (109,34) (113,35):=by unfold Zab;kernel_rfl
theorem scan63:Zab (113,35) (114,35):=by unfold Zab;kernel_rfl
theorem scan64:Zab (114,35) (115,36):=by unfold Zab;kernel_rfl
theorem scan65:Zab (115,36) (116,36):=by unfold Zab;kernel_rfl
theorem scan66:Zab (116,36) (117,37):=by unfold Zab;kernel_rfl
theorem scan67:Zab (117,37) (118,38):=by unfold Zab;kernel_rfl
theorem scan68:Zab (118,38) (119,38):=by unfold Zab;kernel_rfl
theorem scan69:Zab (119,38) (123,39):=by unfold Zab;kernel_rfl
theorem scan70:Zab (123,39) (124,39):=by unfold Zab;kernel_rfl
theorem scan71:Zab (124,39) (127,40):=by unfold Zab;kernel_rfl
theorem scan72:Zab (127,40) (128,40):=by unfold Zab;kernel_rfl
theorem scan73:Zab (128,40) (129,41):=by unfold Zab;kernel_rfl
theorem scan74:Zab (129,41) (130,41):=by unfold Zab;kernel_rfl
theorem scan75:Zab (130,41) (134,42):=by unfold Zab;kernel_rfl
theorem scan76:Zab (134,42) (135,42):=by unfold Zab;kernel_rfl
theorem scan77:Zab (135,42) (136,43):=by unfold Zab;kernel_rfl
theorem scan78:Zab (136,43) (137,43):=by unfold Zab;kernel_rfl
theorem scan79:Zab (137,43) (141,44):=by unfold Zab;kernel_rfl
theorem scan80:Zab (141,44) (142,44):=by unfold Zab;kernel_rfl
theorem scan81:Zab (142,44) (145,45):=by unfold Zab;kernel_rfl
theorem scan82:Zab (145,45) (146,46):=by unfold Zab;kernel_rfl
theorem scan83:Zab (146,46) (147,46):=by unfold Zab;kernel_rfl
theorem scan84:Zab (147,46) (151,47):=by unfold Zab;kernel_rfl
theorem scan85:Zab (151,47) (152,47):=by unfold Zab;kernel_rfl
theorem scan86:Zab (152,47) (155,48):=by unfold Zab;kernel_rfl
theorem scan87:Zab (155,48) (156,48):=by unfold Zab;kernel_rfl
theorem scan88:Zab (156,48) (157,49):=by unfold Zab;kernel_rfl
theorem scan89:Zab (157,49) (158,49):=by unfold Zab;kernel_rfl
theorem scan90:Zab (158,49) (159,50):=by unfold Zab;kernel_rfl
theorem scan91:Zab (159,50) (160,50):=by unfold Zab;kernel_rfl
theorem scan92:Zab (160,50) (161,51):=by unfold Zab;kernel_rfl
theorem scan93:Zab (161,51) (162,51):=by unfold Zab;kernel_rfl
theorem scan94:Zab (162,51) (165,52):=by unfold Zab;kernel_rfl
theorem scan95:Zab (165,52) (166,52):=by unfold Zab;kernel_rfl
theorem scan96:Zab (166,52) (167,53):=by unfold Zab;kernel_rfl
theorem scan97:Zab (167,53) (168,54):=by unfold Zab;kernel_rfl
theorem scan98:Zab (168,54) (169,54):=by unfold Zab;kernel_rfl
theorem scan99:Zab (169,54) (171,55):=by unfold Zab;kernel_rfl
theorem ZrK:Zab (171,55) (172,55):=by unfold Zab;kernel_rfl
theorem ZqK:Zab (172,55) (173,56):=by unfold Zab;kernel_rfl
theorem Zrb:Zab (173,56) (174,57):=by unfold Zab;kernel_rfl
theorem ZrQ:Zab (174,57) (175,58):=by unfold Zab;kernel_rfl
theorem Zra:Zab (175,58) (176,58):=by unfold Zab;kernel_rfl
theorem Zqc:Zab (176,58) (180,59):=by unfold Zab;kernel_rfl
theorem ZrF:Zab (180,59) (181,59):=by unfold Zab;kernel_rfl
theorem Zqp:Zab (181,59) (184,60):=by unfold Zab;kernel_rfl
theorem Zq7:Zab (184,60) (185,60):=by unfold Zab;kernel_rfl
theorem Zqj:Zab (185,60) (186,61):=by unfold Zab;kernel_rfl
theorem Zqe:Zab (186,61) (187,61):=by unfold Zab;kernel_rfl
theorem ZrP:Zab (187,61) (188,62):=by unfold Zab;kernel_rfl
theorem Zqy:Zab (188,62) (189,62):=by unfold Zab;kernel_rfl
theorem Zp4:Zab (189,62) (193,63):=by unfold Zab;kernel_rfl
theorem ZrX:Zab (193,63) (194,63):=by unfold Zab;kernel_rfl
theorem ZrU:Zab (194,63) (195,64):=by unfold Zab;kernel_rfl
theorem ZqZ:Zab (195,64) (196,64):=by unfold Zab;kernel_rfl
theorem Zrz:Zab (196,64) (197,65):=by unfold Zab;kernel_rfl
theorem Zp0:Zab (197,65) (198,65):=by unfold Zab;kernel_rfl
theorem ZqP:Zab (198,65) (199,66):=by unfold Zab;kernel_rfl
theorem ZrH:Zab (199,66) (200,66):=by unfold Zab;kernel_rfl
theorem ZrN:Zab (200,66) (203,67):=by unfold Zab;kernel_rfl
theorem Zqa:Zab (203,67) (204,67):=by unfold Zab;kernel_rfl
theorem ZqW:Zab (204,67) (205,68):=by unfold Zab;kernel_rfl
theorem ZrJ:Zab (205,68) (211,69):=by unfold Zab;kernel_rfl
theorem Zrq:Zab (211,69) (212,69):=by unfold Zab;kernel_rfl
theorem Zq6:Zab (212,69) (213,70):=by unfold Zab;kernel_rfl
theorem ZrR:Zab (213,70) (214,71):=by unfold Zab;kernel_rfl
theorem ZrA:Zab (214,71) (215,72):=by unfold Zab;kernel_rfl
def scanL:List (Nat × Nat):=[(0,0),(4,1),(5,1),(9,2),(10,2),(11,3),(12,3),(16,4),(17,4),(18,5),(19,5),(24,6),(25,7),(26,7),(30,8),(31,8),(37,9),(38,9),(39,10),(40,10),(41,11),(42,11),(46,12),(47,12),(48,13),(49,13),(53,14),(54,14),(55,15),(56,16),(57,16),(61,17),(62,17),(66,18),(67,18),(68,19),(69,19),(70,20),(71,20),(74,21),(75,21),(76,22),(77,22),(81,23),(82,23),(83,24),(84,24),(85,25),(89,26),(90,26),(91,27),(92,28),(93,29),(97,30),(98,30),(102,31),(103,31),(104,32),(105,32),(106,33),(107,33),(108,34),(109,34),(113,35),(114,35),(115,36),(116,36),(117,37),(118,38),(119,38),(123,39),(124,39),(127,40),(128,40),(129,41),(130,41),(134,42),(135,42),(136,43),(137,43),(141,44),(142,44),(145,45),(146,46),(147,46),(151,47),(152,47),(155,48),(156,48),(157,49),(158,49),(159,50),(160,50),(161,51),(162,51),(165,52),(166,52),(167,53),(168,54),(169,54),(171,55),(172,55),(173,56),(174,57),(175,58),(176,58),(180,59),(181,59),(184,60),(185,60),(186,61),(187,61),(188,62),(189,62),(193,63),(194,63),(195,64),(196,64),(197,65),(198,65),(199,66),(200,66),(203,67),(204,67),(205,68),(211,69),(212,69),(213,70),(214,71),(215,72)]
theorem scan_chain:Chain scanL:=⟨scan0,scan1,scan2,scan3,scan4,scan5,scan6,scan7,scan8,scan9,scan10,scan11,scan12,scan13,scan14,scan15,scan16,scan17,scan18,scan19,scan20,scan21,scan22,scan23,scan24,scan25,scan26,scan27,scan28,scan29,scan30,scan31,scan32,scan33,scan34,scan35,scan36,scan37,scan38,scan39,scan40,scan41,scan42,scan43,scan44,scan45,scan46,scan47,scan48,scan49,scan50,scan51,scan52,scan53,scan54,scan55,scan56,scan57,scan58,scan59,scan60,scan61,scan62,scan63,scan64,scan65,scan66,scan67,scan68,scan69,scan70,scan71,scan72,scan73,scan74,scan75,scan76,scan77,scan78,scan79,scan80,scan81,scan82,scan83,scan84,scan85,scan86,scan87,scan88,scan89,scan90,scan91,scan92,scan93,scan94,scan95,scan96,scan97,scan98,scan99,ZrK,ZqK,Zrb,ZrQ,Zra,Zqc,ZrF,Zqp,Zq7,Zqj,Zqe,ZrP,Zqy,Zp4,ZrX,ZrU,ZqZ,Zrz,Zp0,ZqP,ZrH,ZrN,Zqa,ZqW,ZrJ,Zrq,Zq6,ZrR,ZrA,trivial⟩
end Go.Vs.Tryz
