/- Chapter 11's example, evaluated: the answers of its calls are taken from their own theorems. (Parts of one proof, put together.) -/
import Derived.Test.YtlcncicmkkelcaaGreatDoorR0s
set_option linter.unusedSimpArgs false
set_option linter.unusedVariables false
set_option linter.deprecated false
set_option maxRecDepth 100000
namespace Go.Vs
open Go
mutual
def Cell.eqb:Cell→Cell→Bool
 | .int k n,.int k' n'=>decide (k=k') && decide (n=n')
 | .bool b,.bool b'=>b == b'
 | .str s,.str s'=>s == s'
 | .sl rows,.sl rows'=>Cell.eqRows rows rows'
 | .nilfn,.nilfn=>true
 | .nilptr,.nilptr=>true
 | .nilif,.nilif=>true
 | _,_=>false
def Cell.eqRows:List (List Cell)→List (List Cell)→Bool
 | [],[]=>true
 | r::rs,r'::rs'=>Cell.eqList r r' && Cell.eqRows rs rs'
 | _,_=>false
def Cell.eqList:List Cell→List Cell→Bool
 | [],[]=>true
 | c::cs,c'::cs'=>Cell.eqb c c' && Cell.eqList cs cs'
 | _,_=>false
end
mutual
theorem Cell.eqb_eq:∀ (a b:Cell),Cell.eqb a b=true→a=b
 | .int k n,b,h=>by cases b<;>simp_all [Cell.eqb]
 | .bool _,b,h=>by cases b<;>simp_all [Cell.eqb]
 | .str _,b,h=>by cases b<;>simp_all [Cell.eqb]
 | .sl rows,b,h=>by
  cases b with
  | sl rows'=>rw [Cell.eqRows_eq rows rows' (by simpa [Cell.eqb] using h)]
  | _=>simp [Cell.eqb] at h
 | .fn ..,b,h=>by cases b<;>simp [Cell.eqb] at h
 | .nilfn,b,h=>by cases b<;>simp_all [Cell.eqb]
 | .nilptr,b,h=>by cases b<;>simp_all [Cell.eqb]
 | .nilif,b,h=>by cases b<;>simp_all [Cell.eqb]
 | .ifc ..,b,h=>by cases b<;>simp [Cell.eqb] at h
 | .ro ..,b,h=>by cases b<;>simp [Cell.eqb] at h
theorem Cell.eqRows_eq:∀ (a b:List (List Cell)),Cell.eqRows a b=true→a=b
 | [],b,h=>by cases b<;>simp_all [Cell.eqRows]
 | r::rs,b,h=>by
  cases b with
  | nil=>simp [Cell.eqRows] at h
  | cons r' rs' =>
   simp only [Cell.eqRows,Bool.and_eq_true] at h
   rw [Cell.eqList_eq r r' h.1,Cell.eqRows_eq rs rs' h.2]
theorem Cell.eqList_eq:∀ (a b:List Cell),Cell.eqList a b=true→a=b
 | [],b,h=>by cases b<;>simp_all [Cell.eqList]
 | c::cs,b,h=>by
  cases b with
  | nil=>simp [Cell.eqList] at h
  | cons c' cs' =>
   simp only [Cell.eqList,Bool.and_eq_true] at h
   rw [Cell.eqb_eq c c' h.1,Cell.eqList_eq cs cs' h.2]
end
def W.eqb:W→W→Bool
 | .c a,.c b=>a.eqb b
 | .nil,.nil=>true
 | _,_=>false
theorem W.eqb_eq {a b:W}(h:a.eqb b=true):a=b:=by
 cases a<;>cases b<;>first | rfl | (simp [W.eqb] at h;done) | exact congrArg W.c (Cell.eqb_eq _ _ (by simpa [W.eqb] using h))
def eqWs:List W→List W→Bool
 | [],[]=>true
 | c::cs,c'::cs'=>c.eqb c' && eqWs cs cs'
 | _,_=>false
theorem eqWs_eq:∀ {a b:List W},eqWs a b=true→a=b
 | [],b,h=>by cases b<;>simp_all [eqWs]
 | c::cs,b,h=>by
  cases b with
  | nil=>simp [eqWs] at h
  | cons c' cs' =>
   simp only [eqWs,Bool.and_eq_true] at h
   rw [W.eqb_eq h.1,eqWs_eq h.2]
def V.eqb:V→V→Bool
 | .sc a,.sc b=>a.eqb b
 | .ag a,.ag b=>eqWs a b
 | _,_=>false
theorem V.eqb_eq {a b:V}(h:a.eqb b=true):a=b:=by
 cases a<;>cases b<;>first | (simp [V.eqb] at h;done) | exact congrArg V.sc (W.eqb_eq (by simpa [V.eqb] using h)) | exact congrArg V.ag (eqWs_eq (by simpa [V.eqb] using h))
def eqVs:List V→List V→Bool
 | [],[]=>true
 | c::cs,c'::cs'=>c.eqb c' && eqVs cs cs'
 | _,_=>false
theorem eqVs_eq:∀ {a b:List V},eqVs a b=true→a=b
 | [],b,h=>by cases b<;>simp_all [eqVs]
 | c::cs,b,h=>by
  cases b with
  | nil=>simp [eqVs] at h
  | cons c' cs' =>
   simp only [eqVs,Bool.and_eq_true] at h
   rw [V.eqb_eq h.1,eqVs_eq h.2]
abbrev Known:=List (Nat × List V × V)
def findK:Known→Nat→List V→Option (V × List Obj)
 | [],_,_=>none
 | (g,k,v)::r,f,l=>bif f == g && eqVs l k then some (v,[]) else findK r f l
theorem findK_mem:∀ {m:Known}{f:Nat}{l:List V}{q:V × List Obj},findK m f l=some q→q.2=[]∧(f,l,q.1)∈m
 | [],_,_,_,h=>by cases h
 | (g,k,v)::r,f,l,q,h=>by
  simp only [findK] at h
  cases hk:(f == g && eqVs l k) with
  | true =>
   rw [hk] at h
   simp only [cond_true,Option.some.injEq] at h
   simp only [Bool.and_eq_true,beq_iff_eq] at hk
   obtain ⟨rfl,hk⟩:=hk
   have:=eqVs_eq hk
   subst this
   subst h
   exact ⟨rfl,by simp⟩
  | false =>
   rw [hk] at h
   obtain ⟨h1,h2⟩:=findK_mem h
   exact ⟨h1,List.mem_cons_of_mem _ h2⟩
theorem known_ok {P:Program}{gl:Nat→List Cell}{T:FuncId→Option VFun}(hP:P.follows .mixedOrders=true)(hT:∀ f vf,T f=some vf→mFun P f vf=true){m:Known}(hm:∀ p∈m,FnOk P gl p.1 p.2.1 [] p.2.2 []){f:FuncId}{n:Nat}{args:List V}{objs:List Obj}{rv:V}{objs':List Obj}
 (h:evalFn (fun g=>bif g == f then T g else none) (fun g args objs=>match objs with | []=>findK m g args | _=>none) gl n f args objs=some (rv,objs')):FnOk P gl f args objs rv objs':=by
 refine evalFn_ok hP (fun g vf hg => ?_) (fun g args objs rv objs' hx => ?_) n h
 ·cases hgf:(g == f) with
  | true=>rw [hgf] at hg;exact hT g vf hg
  | false=>rw [hgf] at hg;cases hg
 ·cases objs with
  | cons _ _=>cases hx
  | nil =>
   obtain ⟨h1,h2⟩:=findK_mem hx
   simp only at h1 h2
   subst h1
   exact hm _ h2
end Go.Vs
namespace Go.Vs.Tryz
open Go Go.Vs
def first29arg1:List V:=[]
def first29val1:V:=(.ag [(.c (.int .i64 4)),(.c (.str [73,110,116])),(.c (.int .i64 0)),(.c (.int .i64 0)),.nil])
theorem first29call1:ev 60 47 first29arg1 []=some (first29val1,[]):=by kernel_rfl
def first29arg2:List V:=[(.ag [(.c (.int .i64 4)),(.c (.str [73,110,116])),(.c (.int .i64 0)),(.c (.int .i64 0)),(.c (.sl []))])]
def first29val2:V:=(.ag [(.c (.int .i64 0)),(.c (.int .i64 4)),(.c (.str [73,110,116])),(.c (.int .i64 0)),(.c (.int .i64 0)),(.c (.sl []))])
theorem first29call2:ev 60 46 first29arg2 []=some (first29val2,[]):=by kernel_rfl
def first29arg3:List V:=[(.sc (.c (.str [120])))]
def first29val3:V:=(.ag [(.c (.int .i64 1)),(.c (.int .i64 0)),(.c (.str [120])),(.c (.int .i64 0)),.nil,.nil,(.c (.int .i64 0)),(.c (.str [])),(.c (.int .i64 0)),(.c (.int .i64 0)),.nil])
theorem first29call3:ev 60 48 first29arg3 []=some (first29val3,[]):=by kernel_rfl
def first29arg4:List V:=[(.sc (.c (.str [121]))),(.ag [(.c (.int .i64 1)),(.c (.int .i64 0)),(.c (.str [120])),(.c (.int .i64 0)),(.c (.sl [])),(.c (.sl [])),(.c (.int .i64 0)),(.c (.str [])),(.c (.int .i64 0)),(.c (.int .i64 0)),(.c (.sl []))])]
def first29val4:V:=(.ag [(.c (.int .i64 4)),(.c (.int .i64 0)),(.c (.str [121])),(.c (.int .i64 0)),(.c (.sl [[(.int .i64 1),(.int .i64 0),(.str [120]),(.int .i64 0),(.sl []),(.sl []),(.int .i64 0),(.str []),(.int .i64 0),(.int .i64 0),(.sl [])]])),.nil,(.c (.int .i64 0)),(.c (.str [])),(.c (.int .i64 0)),(.c (.int .i64 0)),.nil])
theorem first29call4:ev 60 49 first29arg4 []=some (first29val4,[]):=by kernel_rfl
def first29arg5:List V:=[(.sc (.c (.str [121])))]
def first29val5:V:=(.ag [(.c (.int .i64 1)),(.c (.int .i64 0)),(.c (.str [121])),(.c (.int .i64 0)),.nil,.nil,(.c (.int .i64 0)),(.c (.str [])),(.c (.int .i64 0)),(.c (.int .i64 0)),.nil])
theorem first29call5:ev 60 48 first29arg5 []=some (first29val5,[]):=by kernel_rfl
def first29arg6:List V:=[(.sc (.c (.str [121]))),(.ag [(.c (.int .i64 1)),(.c (.int .i64 0)),(.c (.str [121])),(.c (.int .i64 0)),(.c (.sl [])),(.c (.sl [])),(.c (.int .i64 0)),(.c (.str [])),(.c (.int .i64 0)),(.c (.int .i64 0)),(.c (.sl []))])]
def first29val6:V:=(.ag [(.c (.int .i64 4)),(.c (.int .i64 0)),(.c (.str [121])),(.c (.int .i64 0)),(.c (.sl [[(.int .i64 1),(.int .i64 0),(.str [121]),(.int .i64 0),(.sl []),(.sl []),(.int .i64 0),(.str []),(.int .i64 0),(.int .i64 0),(.sl [])]])),.nil,(.c (.int .i64 0)),(.c (.str [])),(.c (.int .i64 0)),(.c (.int .i64 0)),.nil])
theorem first29call6:ev 60 49 first29arg6 []=some (first29val6,[]):=by kernel_rfl
def first29arg7:List V:=[(.sc (.c (.sl []))),(.sc (.c (.sl [[(.str [120]),(.int .i64 0),(.int .i64 4),(.str [73,110,116]),(.int .i64 0),(.int .i64 0),(.sl [])]]))),(.ag [(.c (.int .i64 1)),(.c (.int .i64 0)),(.c (.str [120])),(.c (.int .i64 0)),(.c (.sl [])),(.c (.sl [])),(.c (.int .i64 0)),(.c (.str [])),(.c (.int .i64 0)),(.c (.int .i64 0)),(.c (.sl []))]),(.ag [(.c (.int .i64 4)),(.c (.int .i64 0)),(.c (.str [121])),(.c (.int .i64 0)),(.c (.sl [[(.int .i64 1),(.int .i64 0),(.str [120]),(.int .i64 0),(.sl []),(.sl []),(.int .i64 0),(.str []),(.int .i64 0),(.int .i64 0),(.sl [])]])),(.c (.sl [])),(.c (.int .i64 0)),(.c (.str [])),(.c (.int .i64 0)),(.c (.int .i64 0)),(.c (.sl []))])]
def first29val7:V:=(.sc (.c (.int .i64 (-1))))
theorem first29call7:ev 60 15 first29arg7 []=some (first29val7,[]):=by kernel_rfl
def first29arg8:List V:=[(.sc (.c (.sl []))),(.sc (.c (.sl [[(.str [120]),(.int .i64 0),(.int .i64 4),(.str [73,110,116]),(.int .i64 0),(.int .i64 0),(.sl [])]]))),(.ag [(.c (.int .i64 4)),(.c (.int .i64 0)),(.c (.str [121])),(.c (.int .i64 0)),(.c (.sl [[(.int .i64 1),(.int .i64 0),(.str [120]),(.int .i64 0),(.sl []),(.sl []),(.int .i64 0),(.str []),(.int .i64 0),(.int .i64 0),(.sl [])]])),(.c (.sl [])),(.c (.int .i64 0)),(.c (.str [])),(.c (.int .i64 0)),(.c (.int .i64 0)),(.c (.sl []))]),(.ag [(.c (.int .i64 4)),(.c (.int .i64 0)),(.c (.str [121])),(.c (.int .i64 0)),(.c (.sl [[(.int .i64 1),(.int .i64 0),(.str [121]),(.int .i64 0),(.sl []),(.sl []),(.int .i64 0),(.str []),(.int .i64 0),(.int .i64 0),(.sl [])]])),(.c (.sl [])),(.c (.int .i64 0)),(.c (.str [])),(.c (.int .i64 0)),(.c (.int .i64 0)),(.c (.sl []))])]
def first29val8:V:=(.sc (.c (.int .i64 (-1))))
theorem first29call8:ev 60 15 first29arg8 []=some (first29val8,[]):=by kernel_rfl
def first29arg9:List V:=[(.sc (.c (.str [122])))]
def first29val9:V:=(.ag [(.c (.int .i64 1)),(.c (.int .i64 0)),(.c (.str [122])),(.c (.int .i64 0)),.nil,.nil,(.c (.int .i64 0)),(.c (.str [])),(.c (.int .i64 0)),(.c (.int .i64 0)),.nil])
theorem first29call9:ev 60 48 first29arg9 []=some (first29val9,[]):=by kernel_rfl
def first29arg10:List V:=[(.sc (.c (.str [122]))),(.ag [(.c (.int .i64 1)),(.c (.int .i64 0)),(.c (.str [122])),(.c (.int .i64 0)),(.c (.sl [])),(.c (.sl [])),(.c (.int .i64 0)),(.c (.str [])),(.c (.int .i64 0)),(.c (.int .i64 0)),(.c (.sl []))])]
def first29val10:V:=(.ag [(.c (.int .i64 4)),(.c (.int .i64 0)),(.c (.str [122])),(.c (.int .i64 0)),(.c (.sl [[(.int .i64 1),(.int .i64 0),(.str [122]),(.int .i64 0),(.sl []),(.sl []),(.int .i64 0),(.str []),(.int .i64 0),(.int .i64 0),(.sl [])]])),.nil,(.c (.int .i64 0)),(.c (.str [])),(.c (.int .i64 0)),(.c (.int .i64 0)),.nil])
theorem first29call10:ev 60 49 first29arg10 []=some (first29val10,[]):=by kernel_rfl
def first29arg11:List V:=[(.sc (.c (.sl []))),(.sc (.c (.sl [[(.str [120]),(.int .i64 0),(.int .i64 4),(.str [73,110,116]),(.int .i64 0),(.int .i64 0),(.sl [])]]))),(.ag [(.c (.int .i64 4)),(.c (.int .i64 0)),(.c (.str [121])),(.c (.int .i64 0)),(.c (.sl [[(.int .i64 1),(.int .i64 0),(.str [121]),(.int .i64 0),(.sl []),(.sl []),(.int .i64 0),(.str []),(.int .i64 0),(.int .i64 0),(.sl [])]])),(.c (.sl [])),(.c (.int .i64 0)),(.c (.str [])),(.c (.int .i64 0)),(.c (.int .i64 0)),(.c (.sl []))]),(.ag [(.c (.int .i64 4)),(.c (.int .i64 0)),(.c (.str [122])),(.c (.int .i64 0)),(.c (.sl [[(.int .i64 1),(.int .i64 0),(.str [122]),(.int .i64 0),(.sl []),(.sl []),(.int .i64 0),(.str []),(.int .i64 0),(.int .i64 0),(.sl [])]])),(.c (.sl [])),(.c (.int .i64 0)),(.c (.str [])),(.c (.int .i64 0)),(.c (.int .i64 0)),(.c (.sl []))])]
def first29val11:V:=(.sc (.c (.int .i64 0)))
theorem first29call11:ev 60 15 first29arg11 []=some (first29val11,[]):=by kernel_rfl
def first29arg12:List V:=[(.ag [(.c (.int .i64 4)),(.c (.int .i64 0)),(.c (.str [121])),(.c (.int .i64 0)),(.c (.sl [[(.int .i64 1),(.int .i64 0),(.str [120]),(.int .i64 0),(.sl []),(.sl []),(.int .i64 0),(.str []),(.int .i64 0),(.int .i64 0),(.sl [])]])),(.c (.sl [])),(.c (.int .i64 0)),(.c (.str [])),(.c (.int .i64 0)),(.c (.int .i64 0)),(.c (.sl []))])]
def first29val12:V:=(.sc (.c (.int .i64 2)))
theorem first29call12:ev 60 41 first29arg12 []=some (first29val12,[]):=by kernel_rfl
def first29arg13:List V:=[(.sc (.c (.sl [[(.str [120]),(.int .i64 0),(.int .i64 4),(.str [73,110,116]),(.int .i64 0),(.int .i64 0),(.sl [])]]))),(.sc (.c (.int .i64 0)))]
def first29val13:V:=(.sc (.c (.str [118,49])))
theorem first29call13:ev 60 44 first29arg13 []=some (first29val13,[]):=by kernel_rfl
def first29known:Known:=[(47,first29arg1,first29val1),(46,first29arg2,first29val2),(48,first29arg3,first29val3),(49,first29arg4,first29val4),(48,first29arg5,first29val5),(49,first29arg6,first29val6),(15,first29arg7,first29val7),(15,first29arg8,first29val8),(48,first29arg9,first29val9),(49,first29arg10,first29val10),(15,first29arg11,first29val11),(41,first29arg12,first29val12),(44,first29arg13,first29val13)]
theorem first29known_ok:∀ p∈first29known,FnOk Go.Proofs.Tryz.prog gl0 p.1 p.2.1 [] p.2.2 []:=by
 intro p hp
 simp only [first29known,List.mem_cons,List.not_mem_nil,or_false] at hp
 rcases hp with rfl|rfl|rfl|rfl|rfl|rfl|rfl|rfl|rfl|rfl|rfl|rfl|rfl
 ·exact ev_ok first29call1
 ·exact ev_ok first29call2
 ·exact ev_ok first29call3
 ·exact ev_ok first29call4
 ·exact ev_ok first29call5
 ·exact ev_ok first29call6
 ·exact ev_ok first29call7
 ·exact ev_ok first29call8
 ·exact ev_ok first29call9
 ·exact ev_ok first29call10
 ·exact ev_ok first29call11
 ·exact ev_ok first29call12
 ·exact ev_ok first29call13
theorem first29:FnOk Go.Proofs.Tryz.prog gl0 12 [] [] (.sc (.c (.bool true))) [] :=
 known_ok (n:=2) follows T_ok first29known_ok (by kernel_rfl)
end Go.Vs.Tryz
