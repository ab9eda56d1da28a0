/- What the reference's parser makes of one text of chapter 11's example. (Parts of one proof, put together.) -/
import Derived.Test.YtlcncicmkkelcaaGreatDoorR0b
set_option linter.unusedSimpArgs false
set_option linter.unusedVariables false
set_option linter.deprecated false
set_option maxRecDepth 100000
namespace Go.Vs.Tryz
open Go Go.Vs
def txt1:List UInt8:=[92,121,46,32,120,32,121]
def val1:V:=(.ag [(.c (.int .i64 4)),(.c (.int .i64 0)),(.c (.str [121])),(.c (.int .i64 0)),(.c (.sl [[(.int .i64 5),(.int .i64 4),(.str []),(.int .i64 0),(.sl [[(.int .i64 1),(.int .i64 4),(.str [120]),(.int .i64 0),(.sl []),(.sl []),(.int .i64 0),(.str []),(.int .i64 0),(.int .i64 0),(.sl [])],[(.int .i64 1),(.int .i64 6),(.str [121]),(.int .i64 0),(.sl []),(.sl []),(.int .i64 0),(.str []),(.int .i64 0),(.int .i64 0),(.sl [])]]),(.sl []),(.int .i64 0),(.str []),(.int .i64 0),(.int .i64 0),(.sl [])]])),.nil,(.c (.int .i64 0)),(.c (.str [])),(.c (.int .i64 0)),(.c (.int .i64 0)),.nil])
theorem read1:ev 60 67 [.sc (.c (.str txt1))] []=some (val1,[]):=by kernel_rfl
def txt2:List UInt8:=[121]
def val2:V:=(.ag [(.c (.int .i64 1)),(.c (.int .i64 0)),(.c (.str [121])),(.c (.int .i64 0)),.nil,.nil,(.c (.int .i64 0)),(.c (.str [])),(.c (.int .i64 0)),(.c (.int .i64 0)),.nil])
theorem read2:ev 60 67 [.sc (.c (.str txt2))] []=some (val2,[]):=by kernel_rfl
def txt3:List UInt8:=[92,120,46,32,92,121,46,32,120]
def val3:V:=(.ag [(.c (.int .i64 4)),(.c (.int .i64 0)),(.c (.str [120])),(.c (.int .i64 0)),(.c (.sl [[(.int .i64 4),(.int .i64 4),(.str [121]),(.int .i64 0),(.sl [[(.int .i64 1),(.int .i64 8),(.str [120]),(.int .i64 0),(.sl []),(.sl []),(.int .i64 0),(.str []),(.int .i64 0),(.int .i64 0),(.sl [])]]),(.sl []),(.int .i64 0),(.str []),(.int .i64 0),(.int .i64 0),(.sl [])]])),.nil,(.c (.int .i64 0)),(.c (.str [])),(.c (.int .i64 0)),(.c (.int .i64 0)),.nil])
theorem read3:ev 60 67 [.sc (.c (.str txt3))] []=some (val3,[]):=by kernel_rfl
def txt4:List UInt8:=[92,97,46,32,92,98,46,32,97]
def val4:V:=(.ag [(.c (.int .i64 4)),(.c (.int .i64 0)),(.c (.str [97])),(.c (.int .i64 0)),(.c (.sl [[(.int .i64 4),(.int .i64 4),(.str [98]),(.int .i64 0),(.sl [[(.int .i64 1),(.int .i64 8),(.str [97]),(.int .i64 0),(.sl []),(.sl []),(.int .i64 0),(.str []),(.int .i64 0),(.int .i64 0),(.sl [])]]),(.sl []),(.int .i64 0),(.str []),(.int .i64 0),(.int .i64 0),(.sl [])]])),.nil,(.c (.int .i64 0)),(.c (.str [])),(.c (.int .i64 0)),(.c (.int .i64 0)),.nil])
theorem read4:ev 60 67 [.sc (.c (.str txt4))] []=some (val4,[]):=by kernel_rfl
def txt5:List UInt8:=[92,97,46,32,92,98,46,32,98]
def val5:V:=(.ag [(.c (.int .i64 4)),(.c (.int .i64 0)),(.c (.str [97])),(.c (.int .i64 0)),(.c (.sl [[(.int .i64 4),(.int .i64 4),(.str [98]),(.int .i64 0),(.sl [[(.int .i64 1),(.int .i64 8),(.str [98]),(.int .i64 0),(.sl []),(.sl []),(.int .i64 0),(.str []),(.int .i64 0),(.int .i64 0),(.sl [])]]),(.sl []),(.int .i64 0),(.str []),(.int .i64 0),(.int .i64 0),(.sl [])]])),.nil,(.c (.int .i64 0)),(.c (.str [])),(.c (.int .i64 0)),(.c (.int .i64 0)),.nil])
theorem read5:ev 60 67 [.sc (.c (.str txt5))] []=some (val5,[]):=by kernel_rfl
def txt6:List UInt8:=[92,118,49,46,32,121,32,118,49]
def val6:V:=(.ag [(.c (.int .i64 4)),(.c (.int .i64 0)),(.c (.str [118,49])),(.c (.int .i64 0)),(.c (.sl [[(.int .i64 5),(.int .i64 5),(.str []),(.int .i64 0),(.sl [[(.int .i64 1),(.int .i64 5),(.str [121]),(.int .i64 0),(.sl []),(.sl []),(.int .i64 0),(.str []),(.int .i64 0),(.int .i64 0),(.sl [])],[(.int .i64 1),(.int .i64 7),(.str [118,49]),(.int .i64 0),(.sl []),(.sl []),(.int .i64 0),(.str []),(.int .i64 0),(.int .i64 0),(.sl [])]]),(.sl []),(.int .i64 0),(.str []),(.int .i64 0),(.int .i64 0),(.sl [])]])),.nil,(.c (.int .i64 0)),(.c (.str [])),(.c (.int .i64 0)),(.c (.int .i64 0)),.nil])
theorem read6:ev 60 67 [.sc (.c (.str txt6))] []=some (val6,[]):=by kernel_rfl
def txt7:List UInt8:=[102,32,40,92,120,46,32,120,32,121,41]
def val7:V:=(.ag [(.c (.int .i64 5)),(.c (.int .i64 0)),(.c (.str [])),(.c (.int .i64 0)),(.c (.sl [[(.int .i64 1),(.int .i64 0),(.str [102]),(.int .i64 0),(.sl []),(.sl []),(.int .i64 0),(.str []),(.int .i64 0),(.int .i64 0),(.sl [])],[(.int .i64 4),(.int .i64 3),(.str [120]),(.int .i64 0),(.sl [[(.int .i64 5),(.int .i64 7),(.str []),(.int .i64 0),(.sl [[(.int .i64 1),(.int .i64 7),(.str [120]),(.int .i64 0),(.sl []),(.sl []),(.int .i64 0),(.str []),(.int .i64 0),(.int .i64 0),(.sl [])],[(.int .i64 1),(.int .i64 9),(.str [121]),(.int .i64 0),(.sl []),(.sl []),(.int .i64 0),(.str []),(.int .i64 0),(.int .i64 0),(.sl [])]]),(.sl []),(.int .i64 0),(.str []),(.int .i64 0),(.int .i64 0),(.sl [])]]),(.sl []),(.int .i64 0),(.str []),(.int .i64 0),(.int .i64 0),(.sl [])]])),.nil,(.c (.int .i64 0)),(.c (.str [])),(.c (.int .i64 0)),(.c (.int .i64 0)),.nil])
theorem read7:ev 60 67 [.sc (.c (.str txt7))] []=some (val7,[]):=by kernel_rfl
def arg8:List V:=[(.ag [(.c (.int .i64 4)),(.c (.int .i64 0)),(.c (.str [121])),(.c (.int .i64 0)),(.c (.sl [[(.int .i64 5),(.int .i64 4),(.str []),(.int .i64 0),(.sl [[(.int .i64 1),(.int .i64 4),(.str [120]),(.int .i64 0),(.sl []),(.sl []),(.int .i64 0),(.str []),(.int .i64 0),(.int .i64 0),(.sl [])],[(.int .i64 1),(.int .i64 6),(.str [121]),(.int .i64 0),(.sl []),(.sl []),(.int .i64 0),(.str []),(.int .i64 0),(.int .i64 0),(.sl [])]]),(.sl []),(.int .i64 0),(.str []),(.int .i64 0),(.int .i64 0),(.sl [])]])),(.c (.sl [])),(.c (.int .i64 0)),(.c (.str [])),(.c (.int .i64 0)),(.c (.int .i64 0)),(.c (.sl []))]),(.sc (.c (.str [120]))),(.ag [(.c (.int .i64 1)),(.c (.int .i64 0)),(.c (.str [121])),(.c (.int .i64 0)),(.c (.sl [])),(.c (.sl [])),(.c (.int .i64 0)),(.c (.str [])),(.c (.int .i64 0)),(.c (.int .i64 0)),(.c (.sl []))])]
def val8:V:=(.ag [(.c (.int .i64 4)),(.c (.int .i64 0)),(.c (.str [118,49])),(.c (.int .i64 0)),(.c (.sl [[(.int .i64 5),(.int .i64 4),(.str []),(.int .i64 0),(.sl [[(.int .i64 1),(.int .i64 0),(.str [121]),(.int .i64 0),(.sl []),(.sl []),(.int .i64 0),(.str []),(.int .i64 0),(.int .i64 0),(.sl [])],[(.int .i64 1),(.int .i64 6),(.str [118,49]),(.int .i64 0),(.sl []),(.sl []),(.int .i64 0),(.str []),(.int .i64 0),(.int .i64 0),(.sl [])]]),(.sl []),(.int .i64 0),(.str []),(.int .i64 0),(.int .i64 0),(.sl [])]])),(.c (.sl [])),(.c (.int .i64 0)),(.c (.str [])),(.c (.int .i64 0)),(.c (.int .i64 0)),(.c (.sl []))])
theorem call8:ev 60 31 arg8 []=some (val8,[]):=by kernel_rfl
def arg9:List V:=[(.ag [(.c (.int .i64 4)),(.c (.int .i64 0)),(.c (.str [120])),(.c (.int .i64 0)),(.c (.sl [[(.int .i64 4),(.int .i64 4),(.str [121]),(.int .i64 0),(.sl [[(.int .i64 1),(.int .i64 8),(.str [120]),(.int .i64 0),(.sl []),(.sl []),(.int .i64 0),(.str []),(.int .i64 0),(.int .i64 0),(.sl [])]]),(.sl []),(.int .i64 0),(.str []),(.int .i64 0),(.int .i64 0),(.sl [])]])),(.c (.sl [])),(.c (.int .i64 0)),(.c (.str [])),(.c (.int .i64 0)),(.c (.int .i64 0)),(.c (.sl []))]),(.ag [(.c (.int .i64 4)),(.c (.int .i64 0)),(.c (.str [97])),(.c (.int .i64 0)),(.c (.sl [[(.int .i64 4),(.int .i64 4),(.str [98]),(.int .i64 0),(.sl [[(.int .i64 1),(.int .i64 8),(.str [97]),(.int .i64 0),(.sl []),(.sl []),(.int .i64 0),(.str []),(.int .i64 0),(.int .i64 0),(.sl [])]]),(.sl []),(.int .i64 0),(.str []),(.int .i64 0),(.int .i64 0),(.sl [])]])),(.c (.sl [])),(.c (.int .i64 0)),(.c (.str [])),(.c (.int .i64 0)),(.c (.int .i64 0)),(.c (.sl []))])]
def val9:V:=(.sc (.c (.bool true)))
theorem call9:ev 60 24 arg9 []=some (val9,[]):=by kernel_rfl
def arg10:List V:=[(.ag [(.c (.int .i64 4)),(.c (.int .i64 0)),(.c (.str [120])),(.c (.int .i64 0)),(.c (.sl [[(.int .i64 4),(.int .i64 4),(.str [121]),(.int .i64 0),(.sl [[(.int .i64 1),(.int .i64 8),(.str [120]),(.int .i64 0),(.sl []),(.sl []),(.int .i64 0),(.str []),(.int .i64 0),(.int .i64 0),(.sl [])]]),(.sl []),(.int .i64 0),(.str []),(.int .i64 0),(.int .i64 0),(.sl [])]])),(.c (.sl [])),(.c (.int .i64 0)),(.c (.str [])),(.c (.int .i64 0)),(.c (.int .i64 0)),(.c (.sl []))]),(.ag [(.c (.int .i64 4)),(.c (.int .i64 0)),(.c (.str [97])),(.c (.int .i64 0)),(.c (.sl [[(.int .i64 4),(.int .i64 4),(.str [98]),(.int .i64 0),(.sl [[(.int .i64 1),(.int .i64 8),(.str [98]),(.int .i64 0),(.sl []),(.sl []),(.int .i64 0),(.str []),(.int .i64 0),(.int .i64 0),(.sl [])]]),(.sl []),(.int .i64 0),(.str []),(.int .i64 0),(.int .i64 0),(.sl [])]])),(.c (.sl [])),(.c (.int .i64 0)),(.c (.str [])),(.c (.int .i64 0)),(.c (.int .i64 0)),(.c (.sl []))])]
def val10:V:=(.sc (.c (.bool false)))
theorem call10:ev 60 24 arg10 []=some (val10,[]):=by kernel_rfl
def arg11:List V:=[(.ag [(.c (.int .i64 4)),(.c (.int .i64 0)),(.c (.str [118,49])),(.c (.int .i64 0)),(.c (.sl [[(.int .i64 5),(.int .i64 4),(.str []),(.int .i64 0),(.sl [[(.int .i64 1),(.int .i64 0),(.str [121]),(.int .i64 0),(.sl []),(.sl []),(.int .i64 0),(.str []),(.int .i64 0),(.int .i64 0),(.sl [])],[(.int .i64 1),(.int .i64 6),(.str [118,49]),(.int .i64 0),(.sl []),(.sl []),(.int .i64 0),(.str []),(.int .i64 0),(.int .i64 0),(.sl [])]]),(.sl []),(.int .i64 0),(.str []),(.int .i64 0),(.int .i64 0),(.sl [])]])),(.c (.sl [])),(.c (.int .i64 0)),(.c (.str [])),(.c (.int .i64 0)),(.c (.int .i64 0)),(.c (.sl []))]),(.ag [(.c (.int .i64 4)),(.c (.int .i64 0)),(.c (.str [118,49])),(.c (.int .i64 0)),(.c (.sl [[(.int .i64 5),(.int .i64 5),(.str []),(.int .i64 0),(.sl [[(.int .i64 1),(.int .i64 5),(.str [121]),(.int .i64 0),(.sl []),(.sl []),(.int .i64 0),(.str []),(.int .i64 0),(.int .i64 0),(.sl [])],[(.int .i64 1),(.int .i64 7),(.str [118,49]),(.int .i64 0),(.sl []),(.sl []),(.int .i64 0),(.str []),(.int .i64 0),(.int .i64 0),(.sl [])]]),(.sl []),(.int .i64 0),(.str []),(.int .i64 0),(.int .i64 0),(.sl [])]])),(.c (.sl [])),(.c (.int .i64 0)),(.c (.str [])),(.c (.int .i64 0)),(.c (.int .i64 0)),(.c (.sl []))])]
def val11:V:=(.sc (.c (.bool true)))
theorem call11:ev 60 35 arg11 []=some (val11,[]):=by kernel_rfl
def arg12:List V:=[(.ag [(.c (.int .i64 5)),(.c (.int .i64 0)),(.c (.str [])),(.c (.int .i64 0)),(.c (.sl [[(.int .i64 1),(.int .i64 0),(.str [102]),(.int .i64 0),(.sl []),(.sl []),(.int .i64 0),(.str []),(.int .i64 0),(.int .i64 0),(.sl [])],[(.int .i64 4),(.int .i64 3),(.str [120]),(.int .i64 0),(.sl [[(.int .i64 5),(.int .i64 7),(.str []),(.int .i64 0),(.sl [[(.int .i64 1),(.int .i64 7),(.str [120]),(.int .i64 0),(.sl []),(.sl []),(.int .i64 0),(.str []),(.int .i64 0),(.int .i64 0),(.sl [])],[(.int .i64 1),(.int .i64 9),(.str [121]),(.int .i64 0),(.sl []),(.sl []),(.int .i64 0),(.str []),(.int .i64 0),(.int .i64 0),(.sl [])]]),(.sl []),(.int .i64 0),(.str []),(.int .i64 0),(.int .i64 0),(.sl [])]]),(.sl []),(.int .i64 0),(.str []),(.int .i64 0),(.int .i64 0),(.sl [])]])),(.c (.sl [])),(.c (.int .i64 0)),(.c (.str [])),(.c (.int .i64 0)),(.c (.int .i64 0)),(.c (.sl []))])]
def val12:V:=(.sc (.c (.sl [[(.str [102])],[(.str [121])]])))
theorem call12:ev 60 30 arg12 []=some (val12,[]):=by kernel_rfl
def arg13:List V:=[(.sc (.c (.sl [[(.str [102])],[(.str [121])]]))),(.sc (.c (.sl [[(.str [102])],[(.str [121])]])))]
def val13:V:=(.sc (.c (.bool true)))
theorem call13:ev 60 68 arg13 []=some (val13,[]):=by kernel_rfl
end Go.Vs.Tryz
namespace Go.Vs
open Go
mutual
def Cell.eqb:Cell→Cell→Bool
 | .int k n,.int k' n'=>decide (k=k') && decide (n=n')
 | .bool b,.bool b'=>b == b'
 | .str s,.str s'=>s == s'
 | .sl rows,.sl rows'=>Cell.eqRows rows rows'
 | .nilfn,.nilfn=>true
 | .nilptr,.nilptr=>true
 | .nilif,.nilif=>true
 | _,_=>false
def Cell.eqRows:List (List Cell)→List (List Cell)→Bool
 | [],[]=>true
 | r::rs,r'::rs'=>Cell.eqList r r' && Cell.eqRows rs rs'
 | _,_=>false
def Cell.eqList:List Cell→List Cell→Bool
 | [],[]=>true
 | c::cs,c'::cs'=>Cell.eqb c c' && Cell.eqList cs cs'
 | _,_=>false
end
mutual
theorem Cell.eqb_eq:∀ (a b:Cell),Cell.eqb a b=true→a=b
 | .int k n,b,h=>by cases b<;>simp_all [Cell.eqb]
 | .bool _,b,h=>by cases b<;>simp_all [Cell.eqb]
 | .str _,b,h=>by cases b<;>simp_all [Cell.eqb]
 | .sl rows,b,h=>by
  cases b with
  | sl rows'=>rw [Cell.eqRows_eq rows rows' (by simpa [Cell.eqb] using h)]
  | _=>simp [Cell.eqb] at h
 | .fn ..,b,h=>by cases b<;>simp [Cell.eqb] at h
 | .nilfn,b,h=>by cases b<;>simp_all [Cell.eqb]
 | .nilptr,b,h=>by cases b<;>simp_all [Cell.eqb]
 | .nilif,b,h=>by cases b<;>simp_all [Cell.eqb]
 | .ifc ..,b,h=>by cases b<;>simp [Cell.eqb] at h
 | .ro ..,b,h=>by cases b<;>simp [Cell.eqb] at h
theorem Cell.eqRows_eq:∀ (a b:List (List Cell)),Cell.eqRows a b=true→a=b
 | [],b,h=>by cases b<;>simp_all [Cell.eqRows]
 | r::rs,b,h=>by
  cases b with
  | nil=>simp [Cell.eqRows] at h
  | cons r' rs' =>
   simp only [Cell.eqRows,Bool.and_eq_true] at h
   rw [Cell.eqList_eq r r' h.1,Cell.eqRows_eq rs rs' h.2]
theorem Cell.eqList_eq:∀ (a b:List Cell),Cell.eqList a b=true→a=b
 | [],b,h=>by cases b<;>simp_all [Cell.eqList]
 | c::cs,b,h=>by
  cases b with
  | nil=>simp [Cell.eqList] at h
  | cons c' cs' =>
   simp only [Cell.eqList,Bool.and_eq_true] at h
   rw [Cell.eqb_eq c c' h.1,Cell.eqList_eq cs cs' h.2]
end
def W.eqb:W→W→Bool
 | .c a,.c b=>a.eqb b
 | .nil,.nil=>true
 | _,_=>false
theorem W.eqb_eq {a b:W}(h:a.eqb b=true):a=b:=by
 cases a<;>cases b<;>first | rfl | (simp [W.eqb] at h;done) | exact congrArg W.c (Cell.eqb_eq _ _ (by simpa [W.eqb] using h))
def eqWs:List W→List W→Bool
 | [],[]=>true
 | c::cs,c'::cs'=>c.eqb c' && eqWs cs cs'
 | _,_=>false
theorem Zo9:∀ {a b:List W},eqWs a b=true→a=b
 | [],b,h=>by cases b<;>simp_all [eqWs]
 | c::cs,b,h=>by
  cases b with
  | nil=>simp [eqWs] at h
  | cons c' cs' =>
   simp only [eqWs,Bool.and_eq_true] at h
   rw [W.eqb_eq h.1,Zo9 h.2]
def V.eqb:V→V→Bool
 | .sc a,.sc b=>a.eqb b
 | .ag a,.ag b=>eqWs a b
 | _,_=>false
theorem V.eqb_eq {a b:V}(h:a.eqb b=true):a=b:=by
 cases a<;>cases b<;>first | (simp [V.eqb] at h;done) | exact congrArg V.sc (W.eqb_eq (by simpa [V.eqb] using h)) | exact congrArg V.ag (Zo9 (by simpa [V.eqb] using h))
def eqVs:List V→List V→Bool
 | [],[]=>true
 | c::cs,c'::cs'=>c.eqb c' && eqVs cs cs'
 | _,_=>false
theorem ZoR:∀ {a b:List V},eqVs a b=true→a=b
 | [],b,h=>by cases b<;>simp_all [eqVs]
 | c::cs,b,h=>by
  cases b with
  | nil=>simp [eqVs] at h
  | cons c' cs' =>
   simp only [eqVs,Bool.and_eq_true] at h
   rw [V.eqb_eq h.1,ZoR h.2]
abbrev Zqm:=List (Nat × List V × V)
def Zpt:Zqm→Nat→List V→Option (V × List Obj)
 | [],_,_=>none
 | (g,k,v)::r,f,l=>bif f == g && eqVs l k then some (v,[]) else Zpt r f l
theorem ZjM:∀ {m:Zqm}{f:Nat}{l:List V}{q:V × List Obj},Zpt m f l=some q→q.2=[]∧(f,l,q.1)∈m
 | [],_,_,_,h=>by cases h
 | (g,k,v)::r,f,l,q,h=>by
  simp only [Zpt] at h
  cases hk:(f == g && eqVs l k) with
  | true =>
   rw [hk] at h
   simp only [cond_true,Option.some.injEq] at h
   simp only [Bool.and_eq_true,beq_iff_eq] at hk
   obtain ⟨rfl,hk⟩:=hk
   have:=ZoR hk
   subst this
   subst h
   exact ⟨rfl,by simp⟩
  | false =>
   rw [hk] at h
   obtain ⟨h1,h2⟩:=ZjM h
   exact ⟨h1,List.mem_cons_of_mem _ h2⟩
theorem ZqC {P:Program}{gl:Nat→List Cell}{T:FuncId→Option VFun}(hP:P.follows .mixedOrders=true)(hT:∀ f vf,T f=some vf→mFun P f vf=true){m:Zqm}(hm:∀ p∈m,FnOk P gl p.1 p.2.1 [] p.2.2 []){f:FuncId}{n:Nat}{args:List V}{objs:List Obj}{rv:V}{objs':List Obj}
 (h:Zcx (fun g=>bif g == f then T g else none) (fun g args objs=>match objs with | []=>Zpt m g args | _=>none) gl n f args objs=some (rv,objs')):FnOk P gl f args objs rv objs':=by
 refine ZgW hP (fun g vf hg => ?_) (fun g args objs rv objs' hx => ?_) n h
 ·cases hgf:(g == f) with
  | true=>rw [hgf] at hg;exact hT g vf hg
  | false=>rw [hgf] at hg;cases hg
 ·cases objs with
  | cons _ _=>cases hx
  | nil =>
   obtain ⟨h1,h2⟩:=ZjM hx
   simp only at h1 h2
   subst h1
   exact hm _ h2
namespace Tryz
def Zni:Zqm:=[(67,[.sc (.c (.str txt1))],val1),(67,[.sc (.c (.str txt2))],val2),(67,[.sc (.c (.str txt3))],val3),(67,[.sc (.c (.str txt4))],val4),(67,[.sc (.c (.str txt5))],val5),(67,[.sc (.c (.str txt6))],val6),(67,[.sc (.c (.str txt7))],val7),(31,arg8,val8),(24,arg9,val9),(24,arg10,val10),(35,arg11,val11),(30,arg12,val12),(68,arg13,val13)]
theorem ZmD:∀ p∈Zni,FnOk Go.Proofs.Tryz.prog gl0 p.1 p.2.1 [] p.2.2 []:=by
 intro p hp
 simp only [Zni,List.mem_cons,List.not_mem_nil,or_false] at hp
 rcases hp with rfl|rfl|rfl|rfl|rfl|rfl|rfl|rfl|rfl|rfl|rfl|rfl|rfl
 ·exact Ze6 read1
 ·exact Ze6 read2
 ·exact Ze6 read3
 ·exact Ze6 read4
 ·exact Ze6 read5
 ·exact Ze6 read6
 ·exact Ze6 read7
 ·exact Ze6 call8
 ·exact Ze6 call9
 ·exact Ze6 call10
 ·exact Ze6 call11
 ·exact Ze6 call12
 ·exact Ze6 call13
theorem ZrS:FnOk Go.Proofs.Tryz.prog gl0 19 [] [] (.sc (.c (.bool true))) [] :=
 ZqC (n:=2) follows T_ok ZmD (by kernel_rfl)
end Tryz
end Go.Vs
