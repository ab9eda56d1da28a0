/- All data declarations, scanned: each round by the kernel. (Parts of one proof, put together.) -/
import Derived.Test.YtlcncicmkkelcaaGreatDoorR0f
import Derived.Test.YtlcncicmkkelcaaGreatDoorM6f
set_option linter.unusedSimpArgs false
set_option linter.unusedVariables false
set_option linter.deprecated false
namespace Go.Vs.Tryz
open Go Go.Vs
def T3:FuncId→Option VFun:=fun f=>bif f == 174 then none else T f
def X3:Oracle:=fun f args objs=>bif f == 174 then (evalFn T X gl0 100 f args objs).map (normR false) else X f args objs
theorem T3_ok:∀ f vf,T3 f=some vf→mFun Go.Proofs.Tryz.prog f vf=true:=by
 intro f vf h
 unfold T3 at h
 cases hf:f == 174 with
 | true=>rw [hf] at h;cases h
 | false=>rw [hf] at h;exact T_ok f vf h
theorem X3_ok:∀ (f:FuncId)(args:List V)(objs:List Obj)(rv:V)(objs':List Obj),X3 f args objs=some (rv,objs')→FnOk Go.Proofs.Tryz.prog gl0 f args objs rv objs':=by
 intro f args objs rv objs' h
 unfold X3 at h
 cases hf:f == 174 with
 | true =>
  rw [hf] at h
  obtain ⟨y,h1,h2⟩:=Option.map_eq_some_iff.1 h
  have:=(ev_ok (rv:=y.1) (objs':=y.2) h1).norm false
  rw [show normR false (y.1,y.2)=(rv,objs') from h2] at this
  exact this
 | false=>rw [hf] at h;exact X_ok f args objs rv objs' h
noncomputable def Kx:Ctx:=⟨lim T3 X3 gl0,gl0⟩
@[simp] theorem Kx_gl:Kx.gl=gl0:=rfl
theorem fn_x {f:FuncId}{vf:VFun}{args:List V}{objs:List Obj}{r:V × List Obj}(hT:T3 f=some vf)(hn:args.length=vf.nparams)(ho:objs.length≤64)
 (h:wp Kx vf.body (doneQ vf.keep objs.length vf.results r) ⟨enumF 0 args,enumF 0 (objs.map some)⟩):Kx.call f args objs=some r:=lim_wp hT hn ho h
theorem wp_run {n:Nat}{c:VCode}{s s':St}{e:Ex}{Q:Ex→St→Prop}(h:run ⟨evalN T3 X3 gl0 n,gl0⟩ n c s=some (e,s'))(hq:Q e s'):wp Kx c Q s :=
 ⟨n,e,s',run_mono (c':=lim T3 X3 gl0) (fun _ _ _ _ h=>lim_of h) (Nat.le_refl n) h,hq⟩
theorem call_x {n:Nat}{f:FuncId}{args:List V}{objs:List Obj}{r:V × List Obj}(h:evalN T3 X3 gl0 n f args objs=some r):Kx.call f args objs=some r:=lim_of h
def allText:List UInt8:=[100,97,116,97,32,66,111,111,108,32,61,32,84,114,117,101,32,124,32,70,97,108,115,101,59,32,100,97,116,97,32,79,112,116,105,111,110,32,97,32,61,32,78,111,110,101,32,124,32,83,111,109,101,32,97,59,32,100,97,116,97,32,76,105,115,116,32,97,32,61,32,78,105,108,32,124,32,67,111,110,115,32,97,32,40,76,105,115,116,32,97,41,59,100,97,116,97,32,80,97,105,114,32,97,32,98,32,61,32,80,97,105,114,32,97,32,98,59,32,100,97,116,97,32,78,97,116,32,61,32,90,101,114,111,32,124,32,83,117,99,99,32,78,97,116,59,32,100,97,116,97,32,70,117,110,32,97,32,98,32,61,32,70,117,110,32,40,97,32,45,62,32,98,41,59,32,100,97,116,97,32,84,119,111,32,97,32,61,32,66,111,116,104,32,97,32,97,32,124,32,79,110,101,32,40,79,112,116,105,111,110,32,97,41,59]
def allToks:List (List Cell):=[[.int .i64 4,.str [100,97,116,97],.int .i64 0],[.int .i64 2,.str [66,111,111,108],.int .i64 5],[.int .i64 5,.str [61],.int .i64 10],[.int .i64 2,.str [84,114,117,101],.int .i64 12],[.int .i64 5,.str [124],.int .i64 17],[.int .i64 2,.str [70,97,108,115,101],.int .i64 19],[.int .i64 5,.str [59],.int .i64 24],[.int .i64 4,.str [100,97,116,97],.int .i64 26],[.int .i64 2,.str [79,112,116,105,111,110],.int .i64 31],[.int .i64 1,.str [97],.int .i64 38],[.int .i64 5,.str [61],.int .i64 40],[.int .i64 2,.str [78,111,110,101],.int .i64 42],[.int .i64 5,.str [124],.int .i64 47],[.int .i64 2,.str [83,111,109,101],.int .i64 49],[.int .i64 1,.str [97],.int .i64 54],[.int .i64 5,.str [59],.int .i64 55],[.int .i64 4,.str [100,97,116,97],.int .i64 57],[.int .i64 2,.str [76,105,115,116],.int .i64 62],[.int .i64 1,.str [97],.int .i64 67],[.int .i64 5,.str [61],.int .i64 69],[.int .i64 2,.str [78,105,108],.int .i64 71],[.int .i64 5,.str [124],.int .i64 75],[.int .i64 2,.str [67,111,110,115],.int .i64 77],[.int .i64 1,.str [97],.int .i64 82],[.int .i64 5,.str [40],.int .i64 84],[.int .i64 2,.str [76,105,115,116],.int .i64 85],[.int .i64 1,.str [97],.int .i64 90],[.int .i64 5,.str [41],.int .i64 91],[.int .i64 5,.str [59],.int .i64 92],[.int .i64 4,.str [100,97,116,97],.int .i64 93],[.int .i64 2,.str [80,97,105,114],.int .i64 98],[.int .i64 1,.str [97],.int .i64 103],[.int .i64 1,.str [98],.int .i64 105],[.int .i64 5,.str [61],.int .i64 107],[.int .i64 2,.str [80,97,105,114],.int .i64 109],[.int .i64 1,.str [97],.int .i64 114],[.int .i64 1,.str [98],.int .i64 116],[.int .i64 5,.str [59],.int .i64 117],[.int .i64 4,.str [100,97,116,97],.int .i64 119],[.int .i64 2,.str [78,97,116],.int .i64 124],[.int .i64 5,.str [61],.int .i64 128],[.int .i64 2,.str [90,101,114,111],.int .i64 130],[.int .i64 5,.str [124],.int .i64 135],[.int .i64 2,.str [83,117,99,99],.int .i64 137],[.int .i64 2,.str [78,97,116],.int .i64 142],[.int .i64 5,.str [59],.int .i64 145],[.int .i64 4,.str [100,97,116,97],.int .i64 147],[.int .i64 2,.str [70,117,110],.int .i64 152],[.int .i64 1,.str [97],.int .i64 156],[.int .i64 1,.str [98],.int .i64 158],[.int .i64 5,.str [61],.int .i64 160],[.int .i64 2,.str [70,117,110],.int .i64 162],[.int .i64 5,.str [40],.int .i64 166],[.int .i64 1,.str [97],.int .i64 167],[.int .i64 5,.str [45,62],.int .i64 169],[.int .i64 1,.str [98],.int .i64 172],[.int .i64 5,.str [41],.int .i64 173],[.int .i64 5,.str [59],.int .i64 174],[.int .i64 4,.str [100,97,116,97],.int .i64 176],[.int .i64 2,.str [84,119,111],.int .i64 181],[.int .i64 1,.str [97],.int .i64 185],[.int .i64 5,.str [61],.int .i64 187],[.int .i64 2,.str [66,111,116,104],.int .i64 189],[.int .i64 1,.str [97],.int .i64 194],[.int .i64 1,.str [97],.int .i64 196],[.int .i64 5,.str [124],.int .i64 198],[.int .i64 2,.str [79,110,101],.int .i64 200],[.int .i64 5,.str [40],.int .i64 204],[.int .i64 2,.str [79,112,116,105,111,110],.int .i64 205],[.int .i64 1,.str [97],.int .i64 212],[.int .i64 5,.str [41],.int .i64 213],[.int .i64 5,.str [59],.int .i64 214]]
def scanS (p:Nat × Nat):St:=⟨[(0,.sc (.c (.str allText))),(3,.sc (.ptr 128 0)),(4,.sc (.arr 577 p.2)),(5,.sc (.c (.int .i64 p.1)))],[(128,some (.box [zi,zi])),(577,some (.arr 3 (wr (allToks.take p.2)) 0))]⟩
def scanR (p q:Nat × Nat):Prop:=run ⟨evalN T3 X3 gl0 40,gl0⟩ 40 l167_2 (scanS p)=some (.normal,scanS q)
def Chain:List (Nat × Nat)→Prop
 | p::q::r=>scanR p q∧Chain (q::r)
 | _=>True
theorem Chain.get:∀ {l:List (Nat × Nat)}{i:Nat}{p q:Nat × Nat},Chain l→l[i]?=some p→l[i+1]?=some q→scanR p q
 | p::q::r,0,_,_,h,h1,h2=>by
  simp only [List.getElem?_cons_zero,List.getElem?_cons_succ,Option.some.injEq] at h1 h2
  subst h1 h2
  exact h.1
 | p::q::r,i+1,_,_,h,h1,h2=>Chain.get (l:=q::r) h.2 (by simpa using h1) (by simpa using h2)
 | [_],i,_,_,_,_,h2=>by simp at h2
 | [],_,_,_,_,h1,_=>by simp at h1
theorem scan0:scanR (0,0) (4,1):=by unfold scanR;kernel_rfl
theorem scan1:scanR (4,1) (5,1):=by unfold scanR;kernel_rfl
theorem scan2:scanR (5,1) (9,2):=by unfold scanR;kernel_rfl
theorem scan3:scanR (9,2) (10,2):=by unfold scanR;kernel_rfl
theorem scan4:scanR (10,2) (11,3):=by unfold scanR;kernel_rfl
theorem scan5:scanR (11,3) (12,3):=by unfold scanR;kernel_rfl
theorem scan6:scanR (12,3) (16,4):=by unfold scanR;kernel_rfl
theorem scan7:scanR (16,4) (17,4):=by unfold scanR;kernel_rfl
theorem scan8:scanR (17,4) (18,5):=by unfold scanR;kernel_rfl
theorem scan9:scanR (18,5) (19,5):=by unfold scanR;kernel_rfl
theorem scan10:scanR (19,5) (24,6):=by unfold scanR;kernel_rfl
theorem scan11:scanR (24,6) (25,7):=by unfold scanR;kernel_rfl
theorem scan12:scanR (25,7) (26,7):=by unfold scanR;kernel_rfl
theorem scan13:scanR (26,7) (30,8):=by unfold scanR;kernel_rfl
theorem scan14:scanR (30,8) (31,8):=by unfold scanR;kernel_rfl
theorem scan15:scanR (31,8) (37,9):=by unfold scanR;kernel_rfl
theorem scan16:scanR (37,9) (38,9):=by unfold scanR;kernel_rfl
theorem scan17:scanR (38,9) (39,10):=by unfold scanR;kernel_rfl
theorem scan18:scanR (39,10) (40,10):=by unfold scanR;kernel_rfl
theorem scan19:scanR (40,10) (41,11):=by unfold scanR;kernel_rfl
theorem scan20:scanR (41,11) (42,11):=by unfold scanR;kernel_rfl
theorem scan21:scanR (42,11) (46,12):=by unfold scanR;kernel_rfl
theorem scan22:scanR (46,12) (47,12):=by unfold scanR;kernel_rfl
theorem scan23:scanR (47,12) (48,13):=by unfold scanR;kernel_rfl
theorem scan24:scanR (48,13) (49,13):=by unfold scanR;kernel_rfl
theorem scan25:scanR (49,13) (53,14):=by unfold scanR;kernel_rfl
theorem scan26:scanR (53,14) (54,14):=by unfold scanR;kernel_rfl
theorem scan27:scanR (54,14) (55,15):=by unfold scanR;kernel_rfl
theorem scan28:scanR (55,15) (56,16):=by unfold scanR;kernel_rfl
theorem scan29:scanR (56,16) (57,16):=by unfold scanR;kernel_rfl
theorem scan30:scanR (57,16) (61,17):=by unfold scanR;kernel_rfl
theorem scan31:scanR (61,17) (62,17):=by unfold scanR;kernel_rfl
theorem scan32:scanR (62,17) (66,18):=by unfold scanR;kernel_rfl
theorem scan33:scanR (66,18) (67,18):=by unfold scanR;kernel_rfl
theorem scan34:scanR (67,18) (68,19):=by unfold scanR;kernel_rfl
theorem scan35:scanR (68,19) (69,19):=by unfold scanR;kernel_rfl
theorem scan36:scanR (69,19) (70,20):=by unfold scanR;kernel_rfl
theorem scan37:scanR (70,20) (71,20):=by unfold scanR;kernel_rfl
theorem scan38:scanR (71,20) (74,21):=by unfold scanR;kernel_rfl
theorem scan39:scanR (74,21) (75,21):=by unfold scanR;kernel_rfl
theorem scan40:scanR (75,21) (76,22):=by unfold scanR;kernel_rfl
theorem scan41:scanR (76,22) (77,22):=by unfold scanR;kernel_rfl
theorem scan42:scanR (77,22) (81,23):=by unfold scanR;kernel_rfl
theorem scan43:scanR (81,23) (82,23):=by unfold scanR;kernel_rfl
theorem scan44:scanR (82,23) (83,24):=by unfold scanR;kernel_rfl
theorem scan45:scanR (83,24) (84,24):=by unfold scanR;kernel_rfl
theorem scan46:scanR (84,24) (85,25):=by unfold scanR;kernel_rfl
theorem scan47:scanR (85,25) (89,26):=by unfold scanR;kernel_rfl
theorem scan48:scanR (89,26) (90,26):=by unfold scanR;kernel_rfl
theorem scan49:scanR (90,26) (91,27):=by unfold scanR;kernel_rfl
theorem scan50:scanR (91,27) (92,28):=by unfold scanR;kernel_rfl
theorem scan51:scanR (92,28) (93,29):=by unfold scanR;kernel_rfl
theorem scan52:scanR (93,29) (97,30):=by unfold scanR;kernel_rfl
theorem scan53:scanR (97,30) (98,30):=by unfold scanR;kernel_rfl
theorem scan54:scanR (98,30) (102,31):=by unfold scanR;kernel_rfl
theorem scan55:scanR (102,31) (103,31):=by unfold scanR;kernel_rfl
theorem scan56:scanR (103,31) (104,32):=by unfold scanR;kernel_rfl
theorem scan57:scanR (104,32) (105,32):=by unfold scanR;kernel_rfl
theorem scan58:scanR (105,32) (106,33):=by unfold scanR;kernel_rfl
theorem scan59:scanR (106,33) (107,33):=by unfold scanR;kernel_rfl
theorem scan60:scanR (107,33) (108,34):=by unfold scanR;kernel_rfl
theorem scan61:scanR (108,34) (109,34):=by unfold scanR;kernel_rfl
theorem scan62:scanR (109,34) (113,35):=by unfold scanR;kernel_rfl
theorem scan63:scanR (113,35) (114,35):=by unfold scanR;kernel_rfl
theorem scan64:scanR (114,35) (115,36):=by unfold scanR;kernel_rfl
theorem scan65:scanR (115,36) (116,36):=by unfold scanR;kernel_rfl
theorem scan66:scanR (116,36) (117,37):=by unfold scanR;kernel_rfl
theorem scan67:scanR (117,37) (118,38):=by unfold scanR;kernel_rfl
theorem scan68:scanR (118,38) (119,38):=by unfold scanR;kernel_rfl
theorem scan69:scanR (119,38) (123,39):=by unfold scanR;kernel_rfl
theorem scan70:scanR (123,39) (124,39):=by unfold scanR;kernel_rfl
theorem scan71:scanR (124,39) (127,40):=by unfold scanR;kernel_rfl
theorem scan72:scanR (127,40) (128,40):=by unfold scanR;kernel_rfl
theorem scan73:scanR (128,40) (129,41):=by unfold scanR;kernel_rfl
theorem scan74:scanR (129,41) (130,41):=by unfold scanR;kernel_rfl
theorem scan75:scanR (130,41) (134,42):=by unfold scanR;kernel_rfl
theorem scan76:scanR (134,42) (135,42):=by unfold scanR;kernel_rfl
theorem scan77:scanR (135,42) (136,43):=by unfold scanR;kernel_rfl
theorem scan78:scanR (136,43) (137,43):=by unfold scanR;kernel_rfl
theorem scan79:scanR (137,43) (141,44):=by unfold scanR;kernel_rfl
theorem scan80:scanR (141,44) (142,44):=by unfold scanR;kernel_rfl
theorem scan81:scanR (142,44) (145,45):=by unfold scanR;kernel_rfl
theorem scan82:scanR (145,45) (146,46):=by unfold scanR;kernel_rfl
theorem scan83:scanR (146,46) (147,46):=by unfold scanR;kernel_rfl
theorem scan84:scanR (147,46) (151,47):=by unfold scanR;kernel_rfl
theorem scan85:scanR (151,47) (152,47):=by unfold scanR;kernel_rfl
theorem scan86:scanR (152,47) (155,48):=by unfold scanR;kernel_rfl
theorem scan87:scanR (155,48) (156,48):=by unfold scanR;kernel_rfl
theorem scan88:scanR (156,48) (157,49):=by unfold scanR;kernel_rfl
theorem scan89:scanR (157,49) (158,49):=by unfold scanR;kernel_rfl
theorem scan90:scanR (158,49) (159,50):=by unfold scanR;kernel_rfl
theorem scan91:scanR (159,50) (160,50):=by unfold scanR;kernel_rfl
theorem scan92:scanR (160,50) (161,51):=by unfold scanR;kernel_rfl
theorem scan93:scanR (161,51) (162,51):=by unfold scanR;kernel_rfl
theorem scan94:scanR (162,51) (165,52):=by unfold scanR;kernel_rfl
theorem scan95:scanR (165,52) (166,52):=by unfold scanR;kernel_rfl
theorem scan96:scanR (166,52) (167,53):=by unfold scanR;kernel_rfl
theorem scan97:scanR (167,53) (168,54):=by unfold scanR;kernel_rfl
theorem scan98:scanR (168,54) (169,54):=by unfold scanR;kernel_rfl
theorem scan99:scanR (169,54) (171,55):=by unfold scanR;kernel_rfl
theorem scan100:scanR (171,55) (172,55):=by unfold scanR;kernel_rfl
theorem scan101:scanR (172,55) (173,56):=by unfold scanR;kernel_rfl
theorem scan102:scanR (173,56) (174,57):=by unfold scanR;kernel_rfl
theorem scan103:scanR (174,57) (175,58):=by unfold scanR;kernel_rfl
theorem scan104:scanR (175,58) (176,58):=by unfold scanR;kernel_rfl
theorem scan105:scanR (176,58) (180,59):=by unfold scanR;kernel_rfl
theorem scan106:scanR (180,59) (181,59):=by unfold scanR;kernel_rfl
theorem scan107:scanR (181,59) (184,60):=by unfold scanR;kernel_rfl
theorem scan108:scanR (184,60) (185,60):=by unfold scanR;kernel_rfl
theorem scan109:scanR (185,60) (186,61):=by unfold scanR;kernel_rfl
theorem scan110:scanR (186,61) (187,61):=by unfold scanR;kernel_rfl
theorem scan111:scanR (187,61) (188,62):=by unfold scanR;kernel_rfl
theorem scan112:scanR (188,62) (189,62):=by unfold scanR;kernel_rfl
theorem scan113:scanR (189,62) (193,63):=by unfold scanR;kernel_rfl
theorem scan114:scanR (193,63) (194,63):=by unfold scanR;kernel_rfl
theorem scan115:scanR (194,63) (195,64):=by unfold scanR;kernel_rfl
theorem scan116:scanR (195,64) (196,64):=by unfold scanR;kernel_rfl
theorem scan117:scanR (196,64) (197,65):=by unfold scanR;kernel_rfl
theorem scan118:scanR (197,65) (198,65):=by unfold scanR;kernel_rfl
theorem scan119:scanR (198,65) (199,66):=by unfold scanR;kernel_rfl
theorem scan120:scanR (199,66) (200,66):=by unfold scanR;kernel_rfl
theorem scan121:scanR (200,66) (203,67):=by unfold scanR;kernel_rfl
theorem scan122:scanR (203,67) (204,67):=by unfold scanR;kernel_rfl
theorem scan123:scanR (204,67) (205,68):=by unfold scanR;kernel_rfl
theorem scan124:scanR (205,68) (211,69):=by unfold scanR;kernel_rfl
theorem scan125:scanR (211,69) (212,69):=by unfold scanR;kernel_rfl
theorem scan126:scanR (212,69) (213,70):=by unfold scanR;kernel_rfl
theorem scan127:scanR (213,70) (214,71):=by unfold scanR;kernel_rfl
theorem scan128:scanR (214,71) (215,72):=by unfold scanR;kernel_rfl
def scanL:List (Nat × Nat):=[(0,0),(4,1),(5,1),(9,2),(10,2),(11,3),(12,3),(16,4),(17,4),(18,5),(19,5),(24,6),(25,7),(26,7),(30,8),(31,8),(37,9),(38,9),(39,10),(40,10),(41,11),(42,11),(46,12),(47,12),(48,13),(49,13),(53,14),(54,14),(55,15),(56,16),(57,16),(61,17),(62,17),(66,18),(67,18),(68,19),(69,19),(70,20),(71,20),(74,21),(75,21),(76,22),(77,22),(81,23),(82,23),(83,24),(84,24),(85,25),(89,26),(90,26),(91,27),(92,28),(93,29),(97,30),(98,30),(102,31),(103,31),(104,32),(105,32),(106,33),(107,33),(108,34),(109,34),(113,35),(114,35),(115,36),(116,36),(117,37),(118,38),(119,38),(123,39),(124,39),(127,40),(128,40),(129,41),(130,41),(134,42),(135,42),(136,43),(137,43),(141,44),(142,44),(145,45),(146,46),(147,46),(151,47),(152,47),(155,48),(156,48),(157,49),(158,49),(159,50),(160,50),(161,51),(162,51),(165,52),(166,52),(167,53),(168,54),(169,54),(171,55),(172,55),(173,56),(174,57),(175,58),(176,58),(180,59),(181,59),(184,60),(185,60),(186,61),(187,61),(188,62),(189,62),(193,63),(194,63),(195,64),(196,64),(197,65),(198,65),(199,66),(200,66),(203,67),(204,67),(205,68),(211,69),(212,69),(213,70),(214,71),(215,72)]
theorem scan_chain:Chain scanL:=⟨scan0,scan1,scan2,scan3,scan4,scan5,scan6,scan7,scan8,scan9,scan10,scan11,scan12,scan13,scan14,scan15,scan16,scan17,scan18,scan19,scan20,scan21,scan22,scan23,scan24,scan25,scan26,scan27,scan28,scan29,scan30,scan31,scan32,scan33,scan34,scan35,scan36,scan37,scan38,scan39,scan40,scan41,scan42,scan43,scan44,scan45,scan46,scan47,scan48,scan49,scan50,scan51,scan52,scan53,scan54,scan55,scan56,scan57,scan58,scan59,scan60,scan61,scan62,scan63,scan64,scan65,scan66,scan67,scan68,scan69,scan70,scan71,scan72,scan73,scan74,scan75,scan76,scan77,scan78,scan79,scan80,scan81,scan82,scan83,scan84,scan85,scan86,scan87,scan88,scan89,scan90,scan91,scan92,scan93,scan94,scan95,scan96,scan97,scan98,scan99,scan100,scan101,scan102,scan103,scan104,scan105,scan106,scan107,scan108,scan109,scan110,scan111,scan112,scan113,scan114,scan115,scan116,scan117,scan118,scan119,scan120,scan121,scan122,scan123,scan124,scan125,scan126,scan127,scan128,trivial⟩
end Go.Vs.Tryz
