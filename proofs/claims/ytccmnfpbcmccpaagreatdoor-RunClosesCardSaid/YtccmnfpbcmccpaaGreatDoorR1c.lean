/- Declarations chosen by bits, two made expressions, and Proper, walked. (Parts of one proof, put together.) -/
import Derived.Test.YtccmnfpbcmccpaaGreatDoorR0c
import Derived.Test.YtccmnfpbcmccpaaGreatDoorM6c
set_option linter.unusedSimpArgs false
set_option linter.unusedVariables false
set_option linter.deprecated false
set_option maxHeartbeats 2000000
set_option maxRecDepth 100000
namespace Go.Vs.Tryz
open Go Go.Vs
variable {A:Zac}
def Zpv (ds7:List DataD)(r:V × List Obj):Prop:=∃ ds,(∀ d∈ds,d∈ds7)∧Zdz ds∧r=(Zal ds,[])
def ZpN (bits:Int)(ds7:List DataD)(i:Nat)(s:St):Prop:=∃ ds:List DataD,ds.length≤i+1∧(∀ d∈ds,d∈ds7∧Zko d) ∧
 s=⟨[(0,intV bits),(3,Zal ds7),(4,.sc (.arr 257 ds.length)),(5,intV i)],[(257,some (.arr 4 (wr (Zah ds)) 0))]⟩
@[simp] theorem dataRows0:Zah []=[]:=rfl
@[simp] theorem dataRows1 (d:DataD):wr (Zah [d])=[wc (Zau d)]:=rfl
theorem Zrf (bits:Int)(ds7:List DataD)(h7:ds7.length=7)(hg:∀ d∈ds7,Zko d)(h55:(K A).call 81 [] []=some (Zal ds7,[])) :
 ∃ r,Zpv ds7 r∧(K A).call 42 [intV bits] []=some r:=by
 refine Zap _ (vf:=v42) (by kernel_rfl) rfl (by simp) ?_
 obtain ⟨d1,hd1⟩:=Zaa (l:=ds7) (i:=1) (by omega)
 have hgd1:=hg d1 (List.mem_of_getElem? hd1)
 have fin:∀ s,ZpN bits ds7 0 s→wp (K A) (.loop ZnW) (Zby 0 (Zcv (K A) (.seq (.region [] [o 44 (.mv (tv 4)),o 2 (.mv (tv 44))] [] [2]) .ret) (Zdy false 0 [.tmp 2] (Zpv ds7)))) s:=by
  intro s hs
  refine Zaf (ZpN bits ds7) 7 hs ?_ ?_
  ·rintro i s hi ⟨ds,hds1,hds2,rfl⟩
   obtain ⟨d,hd⟩:=Zaa (l:=ds7) (i:=i) (by omega)
   have hgd:=hg d (List.mem_of_getElem? hd)
   have hi2:(i:Int)<7:=by omega
   unfold ZnW
   by_cases hi1:i=1
   ·subst hi1
    simp (disch:=first|omega|(simp;done)|(simp;omega)) [h7,hd,-getElem?_pos]
    exact ⟨ds,by omega,hds2,by simp⟩
   ·have hi1':¬(i:Int)=1:=by omega
    by_cases hb:andI .i64 (shrI .i64 bits i) 1=1
    ·simp (disch:=first|omega|(simp;done)|(simp;omega)) [h7,hd,hi2,hi1',hb,-getElem?_pos]
     refine ⟨ds++[d],by simp;omega,?_,by simp⟩
     intro x hx
     rcases List.mem_append.1 hx with hx|hx
     ·exact hds2 x hx
     ·simp only [List.mem_singleton] at hx
      exact hx▸⟨List.mem_of_getElem? hd,hgd⟩
    ·simp (disch:=first|omega|(simp;done)|(simp;omega)) [h7,hd,hi2,hi1',hb,-getElem?_pos]
     exact ⟨ds,by omega,hds2,by simp⟩
  ·rintro s ⟨ds,hds1,hds2,rfl⟩
   unfold ZnW
   simp (disch:=first|omega|(simp;done)|(simp;omega)) [h7,-getElem?_pos]
   exact ⟨ds,fun d hd=>(hds2 d hd).1,⟨by omega,fun d hd=>(hds2 d hd).2⟩,rfl⟩
 unfold v42
 by_cases h1:andI .i64 bits 2=0
 ·by_cases h2:andI .i64 bits 64=0
  ·simp (disch:=first|omega|(simp;done)|(simp;omega)) [h55,h1,h2,-getElem?_pos]
   exact fin _ ⟨[],by simp,by simp,by simp⟩
  ·simp (disch:=first|omega|(simp;done)|(simp;omega)) [h55,h1,h2,h7,hd1,-getElem?_pos]
   exact fin _ ⟨[d1],by simp,by simp [hgd1,List.mem_of_getElem? hd1],by simp⟩
 ·simp (disch:=first|omega|(simp;done)|(simp;omega)) [h55,h1,h7,hd1,-getElem?_pos]
  exact fin _ ⟨[d1],by simp,by simp [hgd1,List.mem_of_getElem? hd1],by simp⟩
def MadeP (L:List Int)(r:V × List Obj):Prop:=∃ a b J,a.wf∧a.weight≤32 ^ 4∧b.wf∧b.weight≤32 ^ 3∧J≤L.length∧r=(.tu [expV a,expV b,.sc (.ptr 0 0)],[Zan L J])
def BoolP (r:V × List Obj):Prop:=∃ b,r=(ZaG b,[])
end Go.Vs.Tryz
namespace Go.Vs
open Go
mutual
def Cell.eqb:Cell→Cell→Bool
 | .int k n,.int k' n'=>decide (k=k') && decide (n=n')
 | .bool b,.bool b'=>b == b'
 | .str s,.str s'=>s == s'
 | .sl rows,.sl rows'=>Cell.eqRows rows rows'
 | .nilfn,.nilfn=>true
 | .nilptr,.nilptr=>true
 | .nilif,.nilif=>true
 | _,_=>false
def Cell.eqRows:List (List Cell)→List (List Cell)→Bool
 | [],[]=>true
 | r::rs,r'::rs'=>Cell.eqList r r' && Cell.eqRows rs rs'
 | _,_=>false
def Cell.eqList:List Cell→List Cell→Bool
 | [],[]=>true
 | c::cs,c'::cs'=>Cell.eqb c c' && Cell.eqList cs cs'
 | _,_=>false
end
mutual
theorem Cell.eqb_eq:∀ (a b:Cell),Cell.eqb a b=true→a=b
 | .int k n,b,h=>by cases b<;>simp_all [Cell.eqb]
 | .bool _,b,h=>by cases b<;>simp_all [Cell.eqb]
 | .str _,b,h=>by cases b<;>simp_all [Cell.eqb]
 | .sl rows,b,h=>by
  cases b with
  | sl rows'=>rw [Cell.eqRows_eq rows rows' (by simpa [Cell.eqb] using h)]
  | _=>simp [Cell.eqb] at h
 | .fn ..,b,h=>by cases b<;>simp [Cell.eqb] at h
 | .nilfn,b,h=>by cases b<;>simp_all [Cell.eqb]
 | .nilptr,b,h=>by cases b<;>simp_all [Cell.eqb]
 | .nilif,b,h=>by cases b<;>simp_all [Cell.eqb]
 | .ifc ..,b,h=>by cases b<;>simp [Cell.eqb] at h
 | .ro ..,b,h=>by cases b<;>simp [Cell.eqb] at h
theorem Cell.eqRows_eq:∀ (a b:List (List Cell)),Cell.eqRows a b=true→a=b
 | [],b,h=>by cases b<;>simp_all [Cell.eqRows]
 | r::rs,b,h=>by
  cases b with
  | nil=>simp [Cell.eqRows] at h
  | cons r' rs' =>
   simp only [Cell.eqRows,Bool.and_eq_true] at h
   rw [Cell.eqList_eq r r' h.1,Cell.eqRows_eq rs rs' h.2]
theorem Cell.eqList_eq:∀ (a b:List Cell),Cell.eqList a b=true→a=b
 | [],b,h=>by cases b<;>simp_all [Cell.eqList]
 | c::cs,b,h=>by
  cases b with
  | nil=>simp [Cell.eqList] at h
  | cons c' cs' =>
   simp only [Cell.eqList,Bool.and_eq_true] at h
   rw [Cell.eqb_eq c c' h.1,Cell.eqList_eq cs cs' h.2]
end
def W.eqb:W→W→Bool
 | .c a,.c b=>a.eqb b
 | .nil,.nil=>true
 | _,_=>false
theorem W.eqb_eq {a b:W}(h:a.eqb b=true):a=b:=by
 cases a<;>cases b<;>first | rfl | (simp [W.eqb] at h;done) | exact congrArg W.c (Cell.eqb_eq _ _ (by simpa [W.eqb] using h))
def eqWs:List W→List W→Bool
 | [],[]=>true
 | c::cs,c'::cs'=>c.eqb c' && eqWs cs cs'
 | _,_=>false
theorem ZlR:∀ {a b:List W},eqWs a b=true→a=b
 | [],b,h=>by cases b<;>simp_all [eqWs]
 | c::cs,b,h=>by
  cases b with
  | nil=>simp [eqWs] at h
  | cons c' cs' =>
   simp only [eqWs,Bool.and_eq_true] at h
   rw [W.eqb_eq h.1,ZlR h.2]
def V.eqb:V→V→Bool
 | .sc a,.sc b=>a.eqb b
 | .ag a,.ag b=>eqWs a b
 | _,_=>false
theorem V.eqb_eq {a b:V}(h:a.eqb b=true):a=b:=by
 cases a<;>cases b<;>first | (simp [V.eqb] at h;done) | exact congrArg V.sc (W.eqb_eq (by simpa [V.eqb] using h)) | exact congrArg V.ag (ZlR (by simpa [V.eqb] using h))
def eqVs:List V→List V→Bool
 | [],[]=>true
 | c::cs,c'::cs'=>c.eqb c' && eqVs cs cs'
 | _,_=>false
theorem ZlB:∀ {a b:List V},eqVs a b=true→a=b
 | [],b,h=>by cases b<;>simp_all [eqVs]
 | c::cs,b,h=>by
  cases b with
  | nil=>simp [eqVs] at h
  | cons c' cs' =>
   simp only [eqVs,Bool.and_eq_true] at h
   rw [V.eqb_eq h.1,ZlB h.2]
abbrev Zov:=List (Nat × List V × V)
def Zo3:Zov→Nat→List V→Option (V × List Obj)
 | [],_,_=>none
 | (g,k,v)::r,f,l=>bif f == g && eqVs l k then some (v,[]) else Zo3 r f l
theorem Zh5:∀ {m:Zov}{f:Nat}{l:List V}{q:V × List Obj},Zo3 m f l=some q→q.2=[]∧(f,l,q.1)∈m
 | [],_,_,_,h=>by cases h
 | (g,k,v)::r,f,l,q,h=>by
  simp only [Zo3] at h
  cases hk:(f == g && eqVs l k) with
  | true =>
   rw [hk] at h
   simp only [cond_true,Option.some.injEq] at h
   simp only [Bool.and_eq_true,beq_iff_eq] at hk
   obtain ⟨rfl,hk⟩:=hk
   have:=ZlB hk
   subst this
   subst h
   exact ⟨rfl,by simp⟩
  | false =>
   rw [hk] at h
   obtain ⟨h1,h2⟩:=Zh5 h
   exact ⟨h1,List.mem_cons_of_mem _ h2⟩
theorem Zpi {P:Program}{gl:Nat→List Cell}{T:FuncId→Option VFun}(hP:P.follows .mixedOrders=true)(hT:∀ f vf,T f=some vf→mFun P f vf=true){m:Zov}(hm:∀ p∈m,FnOk P gl p.1 p.2.1 [] p.2.2 []){f:FuncId}{n:Nat}{args:List V}{objs:List Obj}{rv:V}{objs':List Obj}
 (h:Zcb (fun g=>bif g == f then T g else none) (fun g args objs=>match objs with | []=>Zo3 m g args | _=>none) gl n f args objs=some (rv,objs')):FnOk P gl f args objs rv objs':=by
 refine Zfk hP (fun g vf hg => ?_) (fun g args objs rv objs' hx => ?_) n h
 ·cases hgf:(g == f) with
  | true=>rw [hgf] at hg;exact hT g vf hg
  | false=>rw [hgf] at hg;cases hg
 ·cases objs with
  | cons _ _=>cases hx
  | nil =>
   obtain ⟨h1,h2⟩:=Zh5 hx
   simp only at h1 h2
   subst h1
   exact hm _ h2
end Go.Vs
namespace Go.Vs.Tryz
open Go Go.Vs
theorem ZeY {n:Nat}{f:FuncId}{args:List V}{res:V}(h:(ev n f args []).map (ZcL false)=some (res,[])):FnOk Go.Proofs.Tryz.prog gl0 f args [] res []:=by
 obtain ⟨y,h1,h2⟩:=Option.map_eq_some_iff.1 h
 have:=(ev_ok (rv:=y.1) (objs':=y.2) h1).norm false
 rw [show ZcL false (y.1,y.2)=(res,[]) from h2] at this
 exact this
def rlP:V:=(.ag [(.c (.sl [])),(.c (.sl [[(.int .i64 0),(.bool true),(.str [102]),(.bool false),(.int .i64 0),(.str []),(.int .i64 0),(.int .i64 0),(.sl []),(.int .i64 4),(.int .i64 12),(.str [120]),(.int .i64 0),(.sl [[(.int .i64 5),(.int .i64 16),(.str []),(.int .i64 0),(.sl [[(.int .i64 1),(.int .i64 16),(.str [102]),(.int .i64 0),(.sl []),(.sl []),(.int .i64 0),(.str []),(.int .i64 0),(.int .i64 0),(.sl [])],[(.int .i64 1),(.int .i64 18),(.str [120]),(.int .i64 0),(.sl []),(.sl []),(.int .i64 0),(.str []),(.int .i64 0),(.int .i64 0),(.sl [])]]),(.sl []),(.int .i64 0),(.str []),(.int .i64 0),(.int .i64 0),(.sl [])]]),(.sl []),(.int .i64 0),(.str []),(.int .i64 0),(.int .i64 0),(.sl [])],[(.int .i64 21),(.bool false),(.str [110]),(.bool false),(.int .i64 0),(.str []),(.int .i64 0),(.int .i64 0),(.sl []),(.int .i64 5),(.int .i64 29),(.str []),(.int .i64 0),(.sl [[(.int .i64 1),(.int .i64 29),(.str [102]),(.int .i64 0),(.sl []),(.sl []),(.int .i64 0),(.str []),(.int .i64 0),(.int .i64 0),(.sl [])],[(.int .i64 3),(.int .i64 31),(.str []),(.int .i64 1),(.sl []),(.sl []),(.int .i64 0),(.str []),(.int .i64 0),(.int .i64 0),(.sl [])]]),(.sl []),(.int .i64 0),(.str []),(.int .i64 0),(.int .i64 0),(.sl [])]]))])
def rlE0:V:=(.ag [(.c (.int .i64 7)),(.c (.int .i64 0)),(.c (.str [102])),(.c (.int .i64 0)),(.c (.sl [[(.int .i64 4),(.int .i64 0),(.str [120]),(.int .i64 0),(.sl [[(.int .i64 5),(.int .i64 0),(.str []),(.int .i64 0),(.sl [[(.int .i64 1),(.int .i64 0),(.str [102]),(.int .i64 0),(.sl []),(.sl []),(.int .i64 0),(.str []),(.int .i64 0),(.int .i64 0),(.sl [])],[(.int .i64 1),(.int .i64 0),(.str [120]),(.int .i64 0),(.sl []),(.sl []),(.int .i64 0),(.str []),(.int .i64 0),(.int .i64 0),(.sl [])]]),(.sl []),(.int .i64 0),(.str []),(.int .i64 0),(.int .i64 0),(.sl [])]]),(.sl []),(.int .i64 0),(.str []),(.int .i64 0),(.int .i64 0),(.sl [])],[(.int .i64 6),(.int .i64 0),(.str [110]),(.int .i64 0),(.sl [[(.int .i64 5),(.int .i64 0),(.str []),(.int .i64 0),(.sl [[(.int .i64 1),(.int .i64 0),(.str [102]),(.int .i64 0),(.sl []),(.sl []),(.int .i64 0),(.str []),(.int .i64 0),(.int .i64 0),(.sl [])],[(.int .i64 3),(.int .i64 0),(.str []),(.int .i64 1),(.sl []),(.sl []),(.int .i64 0),(.str []),(.int .i64 0),(.int .i64 0),(.sl [])]]),(.sl []),(.int .i64 0),(.str []),(.int .i64 0),(.int .i64 0),(.sl [])],[(.int .i64 1),(.int .i64 0),(.str [110]),(.int .i64 0),(.sl []),(.sl []),(.int .i64 0),(.str []),(.int .i64 0),(.int .i64 0),(.sl [])]]),(.sl []),(.int .i64 0),(.str []),(.int .i64 0),(.int .i64 0),(.sl [])]])),(.c (.sl [])),(.c (.int .i64 0)),(.c (.str [])),(.c (.int .i64 0)),(.c (.int .i64 0)),(.c (.sl []))])
def rlE1:V:=(.ag [(.c (.int .i64 6)),(.c (.int .i64 0)),(.c (.str [110])),(.c (.int .i64 0)),(.c (.sl [[(.int .i64 5),(.int .i64 0),(.str []),(.int .i64 0),(.sl [[(.int .i64 7),(.int .i64 0),(.str [102]),(.int .i64 0),(.sl [[(.int .i64 4),(.int .i64 0),(.str [120]),(.int .i64 0),(.sl [[(.int .i64 5),(.int .i64 0),(.str []),(.int .i64 0),(.sl [[(.int .i64 1),(.int .i64 0),(.str [102]),(.int .i64 0),(.sl []),(.sl []),(.int .i64 0),(.str []),(.int .i64 0),(.int .i64 0),(.sl [])],[(.int .i64 1),(.int .i64 0),(.str [120]),(.int .i64 0),(.sl []),(.sl []),(.int .i64 0),(.str []),(.int .i64 0),(.int .i64 0),(.sl [])]]),(.sl []),(.int .i64 0),(.str []),(.int .i64 0),(.int .i64 0),(.sl [])]]),(.sl []),(.int .i64 0),(.str []),(.int .i64 0),(.int .i64 0),(.sl [])],[(.int .i64 4),(.int .i64 0),(.str [120]),(.int .i64 0),(.sl [[(.int .i64 5),(.int .i64 0),(.str []),(.int .i64 0),(.sl [[(.int .i64 1),(.int .i64 0),(.str [102]),(.int .i64 0),(.sl []),(.sl []),(.int .i64 0),(.str []),(.int .i64 0),(.int .i64 0),(.sl [])],[(.int .i64 1),(.int .i64 0),(.str [120]),(.int .i64 0),(.sl []),(.sl []),(.int .i64 0),(.str []),(.int .i64 0),(.int .i64 0),(.sl [])]]),(.sl []),(.int .i64 0),(.str []),(.int .i64 0),(.int .i64 0),(.sl [])]]),(.sl []),(.int .i64 0),(.str []),(.int .i64 0),(.int .i64 0),(.sl [])]]),(.sl []),(.int .i64 0),(.str []),(.int .i64 0),(.int .i64 0),(.sl [])],[(.int .i64 3),(.int .i64 0),(.str []),(.int .i64 1),(.sl []),(.sl []),(.int .i64 0),(.str []),(.int .i64 0),(.int .i64 0),(.sl [])]]),(.sl []),(.int .i64 0),(.str []),(.int .i64 0),(.int .i64 0),(.sl [])],[(.int .i64 1),(.int .i64 0),(.str [110]),(.int .i64 0),(.sl []),(.sl []),(.int .i64 0),(.str []),(.int .i64 0),(.int .i64 0),(.sl [])]])),(.c (.sl [])),(.c (.int .i64 0)),(.c (.str [])),(.c (.int .i64 0)),(.c (.int .i64 0)),(.c (.sl []))])
def rlE2:V:=(.ag [(.c (.int .i64 5)),(.c (.int .i64 0)),(.c (.str [])),(.c (.int .i64 0)),(.c (.sl [[(.int .i64 7),(.int .i64 0),(.str [102]),(.int .i64 0),(.sl [[(.int .i64 4),(.int .i64 0),(.str [120]),(.int .i64 0),(.sl [[(.int .i64 5),(.int .i64 0),(.str []),(.int .i64 0),(.sl [[(.int .i64 1),(.int .i64 0),(.str [102]),(.int .i64 0),(.sl []),(.sl []),(.int .i64 0),(.str []),(.int .i64 0),(.int .i64 0),(.sl [])],[(.int .i64 1),(.int .i64 0),(.str [120]),(.int .i64 0),(.sl []),(.sl []),(.int .i64 0),(.str []),(.int .i64 0),(.int .i64 0),(.sl [])]]),(.sl []),(.int .i64 0),(.str []),(.int .i64 0),(.int .i64 0),(.sl [])]]),(.sl []),(.int .i64 0),(.str []),(.int .i64 0),(.int .i64 0),(.sl [])],[(.int .i64 4),(.int .i64 0),(.str [120]),(.int .i64 0),(.sl [[(.int .i64 5),(.int .i64 0),(.str []),(.int .i64 0),(.sl [[(.int .i64 1),(.int .i64 0),(.str [102]),(.int .i64 0),(.sl []),(.sl []),(.int .i64 0),(.str []),(.int .i64 0),(.int .i64 0),(.sl [])],[(.int .i64 1),(.int .i64 0),(.str [120]),(.int .i64 0),(.sl []),(.sl []),(.int .i64 0),(.str []),(.int .i64 0),(.int .i64 0),(.sl [])]]),(.sl []),(.int .i64 0),(.str []),(.int .i64 0),(.int .i64 0),(.sl [])]]),(.sl []),(.int .i64 0),(.str []),(.int .i64 0),(.int .i64 0),(.sl [])]]),(.sl []),(.int .i64 0),(.str []),(.int .i64 0),(.int .i64 0),(.sl [])],[(.int .i64 3),(.int .i64 0),(.str []),(.int .i64 1),(.sl []),(.sl []),(.int .i64 0),(.str []),(.int .i64 0),(.int .i64 0),(.sl [])]])),(.c (.sl [])),(.c (.int .i64 0)),(.c (.str [])),(.c (.int .i64 0)),(.c (.int .i64 0)),(.c (.sl []))])
def rlE3:V:=(.ag [(.c (.int .i64 5)),(.c (.int .i64 0)),(.c (.str [])),(.c (.int .i64 0)),(.c (.sl [[(.int .i64 4),(.int .i64 0),(.str [120]),(.int .i64 0),(.sl [[(.int .i64 5),(.int .i64 0),(.str []),(.int .i64 0),(.sl [[(.int .i64 7),(.int .i64 0),(.str [102]),(.int .i64 0),(.sl [[(.int .i64 4),(.int .i64 0),(.str [120]),(.int .i64 0),(.sl [[(.int .i64 5),(.int .i64 0),(.str []),(.int .i64 0),(.sl [[(.int .i64 1),(.int .i64 0),(.str [102]),(.int .i64 0),(.sl []),(.sl []),(.int .i64 0),(.str []),(.int .i64 0),(.int .i64 0),(.sl [])],[(.int .i64 1),(.int .i64 0),(.str [120]),(.int .i64 0),(.sl []),(.sl []),(.int .i64 0),(.str []),(.int .i64 0),(.int .i64 0),(.sl [])]]),(.sl []),(.int .i64 0),(.str []),(.int .i64 0),(.int .i64 0),(.sl [])]]),(.sl []),(.int .i64 0),(.str []),(.int .i64 0),(.int .i64 0),(.sl [])],[(.int .i64 4),(.int .i64 0),(.str [120]),(.int .i64 0),(.sl [[(.int .i64 5),(.int .i64 0),(.str []),(.int .i64 0),(.sl [[(.int .i64 1),(.int .i64 0),(.str [102]),(.int .i64 0),(.sl []),(.sl []),(.int .i64 0),(.str []),(.int .i64 0),(.int .i64 0),(.sl [])],[(.int .i64 1),(.int .i64 0),(.str [120]),(.int .i64 0),(.sl []),(.sl []),(.int .i64 0),(.str []),(.int .i64 0),(.int .i64 0),(.sl [])]]),(.sl []),(.int .i64 0),(.str []),(.int .i64 0),(.int .i64 0),(.sl [])]]),(.sl []),(.int .i64 0),(.str []),(.int .i64 0),(.int .i64 0),(.sl [])]]),(.sl []),(.int .i64 0),(.str []),(.int .i64 0),(.int .i64 0),(.sl [])],[(.int .i64 1),(.int .i64 0),(.str [120]),(.int .i64 0),(.sl []),(.sl []),(.int .i64 0),(.str []),(.int .i64 0),(.int .i64 0),(.sl [])]]),(.sl []),(.int .i64 0),(.str []),(.int .i64 0),(.int .i64 0),(.sl [])]]),(.sl []),(.int .i64 0),(.str []),(.int .i64 0),(.int .i64 0),(.sl [])],[(.int .i64 3),(.int .i64 0),(.str []),(.int .i64 1),(.sl []),(.sl []),(.int .i64 0),(.str []),(.int .i64 0),(.int .i64 0),(.sl [])]])),(.c (.sl [])),(.c (.int .i64 0)),(.c (.str [])),(.c (.int .i64 0)),(.c (.int .i64 0)),(.c (.sl []))])
def ZlV:List V:=[(.sc (.c (.str [108,101,116,32,105,100,32,61,32,92,120,46,32,120,59,32,108,101,116,32,110,32,61,32,105,100,32,49,59])))]
def Zm3:V:=(.ag [(.c (.sl [])),(.c (.sl [[(.int .i64 0),(.bool false),(.str [105,100]),(.bool false),(.int .i64 0),(.str []),(.int .i64 0),(.int .i64 0),(.sl []),(.int .i64 4),(.int .i64 9),(.str [120]),(.int .i64 0),(.sl [[(.int .i64 1),(.int .i64 13),(.str [120]),(.int .i64 0),(.sl []),(.sl []),(.int .i64 0),(.str []),(.int .i64 0),(.int .i64 0),(.sl [])]]),(.sl []),(.int .i64 0),(.str []),(.int .i64 0),(.int .i64 0),(.sl [])],[(.int .i64 16),(.bool false),(.str [110]),(.bool false),(.int .i64 0),(.str []),(.int .i64 0),(.int .i64 0),(.sl []),(.int .i64 5),(.int .i64 24),(.str []),(.int .i64 0),(.sl [[(.int .i64 1),(.int .i64 24),(.str [105,100]),(.int .i64 0),(.sl []),(.sl []),(.int .i64 0),(.str []),(.int .i64 0),(.int .i64 0),(.sl [])],[(.int .i64 3),(.int .i64 27),(.str []),(.int .i64 1),(.sl []),(.sl []),(.int .i64 0),(.str []),(.int .i64 0),(.int .i64 0),(.sl [])]]),(.sl []),(.int .i64 0),(.str []),(.int .i64 0),(.int .i64 0),(.sl [])]]))])
theorem ZoP:(ev 60 34 ZlV []).map (ZcL false)=some (Zm3,[]):=by kernel_rfl
def Zle:List V:=[(.ag [(.c (.sl [])),(.c (.sl [[(.int .i64 0),(.bool false),(.str [105,100]),(.bool false),(.int .i64 0),(.str []),(.int .i64 0),(.int .i64 0),(.sl []),(.int .i64 4),(.int .i64 9),(.str [120]),(.int .i64 0),(.sl [[(.int .i64 1),(.int .i64 13),(.str [120]),(.int .i64 0),(.sl []),(.sl []),(.int .i64 0),(.str []),(.int .i64 0),(.int .i64 0),(.sl [])]]),(.sl []),(.int .i64 0),(.str []),(.int .i64 0),(.int .i64 0),(.sl [])],[(.int .i64 16),(.bool false),(.str [110]),(.bool false),(.int .i64 0),(.str []),(.int .i64 0),(.int .i64 0),(.sl []),(.int .i64 5),(.int .i64 24),(.str []),(.int .i64 0),(.sl [[(.int .i64 1),(.int .i64 24),(.str [105,100]),(.int .i64 0),(.sl []),(.sl []),(.int .i64 0),(.str []),(.int .i64 0),(.int .i64 0),(.sl [])],[(.int .i64 3),(.int .i64 27),(.str []),(.int .i64 1),(.sl []),(.sl []),(.int .i64 0),(.str []),(.int .i64 0),(.int .i64 0),(.sl [])]]),(.sl []),(.int .i64 0),(.str []),(.int .i64 0),(.int .i64 0),(.sl [])]]))]),(.sc (.c (.int .i64 20)))]
def ZmD:V:=(.tu [(.ag [(.c (.int .i64 3)),(.c (.int .i64 0)),(.c (.str [])),(.c (.int .i64 1)),(.c (.sl [])),(.c (.sl [])),(.c (.int .i64 0)),(.c (.str [])),(.c (.int .i64 0)),(.c (.int .i64 0)),(.c (.sl []))]),(.sc (.c (.int .i64 3))),(.sc (.c (.bool true)))])
theorem Zoh:(ev 60 31 Zle []).map (ZcL false)=some (ZmD,[]):=by kernel_rfl
def ZlO:List V:=[(.ag [(.c (.int .i64 3)),(.c (.int .i64 0)),(.c (.str [])),(.c (.int .i64 1)),(.c (.sl [])),(.c (.sl [])),(.c (.int .i64 0)),(.c (.str [])),(.c (.int .i64 0)),(.c (.int .i64 0)),(.c (.sl []))]),(.ag [(.c (.int .i64 3)),(.c (.int .i64 0)),(.c (.str [])),(.c (.int .i64 1)),(.c (.sl [])),(.c (.sl [])),(.c (.int .i64 0)),(.c (.str [])),(.c (.int .i64 0)),(.c (.int .i64 0)),(.c (.sl []))])]
def ZnE:V:=(.sc (.c (.bool true)))
theorem Zo2:(ev 60 18 ZlO []).map (ZcL false)=some (ZnE,[]):=by kernel_rfl
def Znq:List V:=[(.ag [(.c (.sl [])),(.c (.sl []))])]
def Znv:V:=(.ag [(.c (.int .i64 3)),(.c (.int .i64 0)),(.c (.str [])),(.c (.int .i64 0)),(.c (.sl [])),(.c (.sl [])),(.c (.int .i64 0)),(.c (.str [])),(.c (.int .i64 0)),(.c (.int .i64 0)),(.c (.sl []))])
theorem Zo1:(ev 60 27 Znq []).map (ZcL false)=some (Znv,[]):=by kernel_rfl
def Zms:Zov:=[(34,ZlV,Zm3),(31,Zle,ZmD),(18,ZlO,ZnE),(27,Znq,Znv)]
theorem ZkA:∀ p∈Zms,FnOk Go.Proofs.Tryz.prog gl0 p.1 p.2.1 [] p.2.2 []:=by
 intro p hp
 simp only [Zms,List.mem_cons,List.not_mem_nil,or_false] at hp
 rcases hp with rfl|rfl|rfl|rfl
 ·exact ZeY ZoP
 ·exact ZeY Zoh
 ·exact ZeY Zo2
 ·exact ZeY Zo1
theorem Zqu:FnOk Go.Proofs.Tryz.prog gl0 25 [] [] (.sc (.c (.bool true))) [] :=
 Zpi (n:=2) follows T_ok ZkA (by kernel_rfl)
end Go.Vs.Tryz
namespace Go.Vs
open Go
structure EntD where
 name:Str
 count:Int
 ty:Ty
def Zba (e:EntD):List Cell:=.str e.name::.int .i64 e.count::e.ty.row
def Za8 (l:List EntD):List (List Cell):=l.map Zba
@[simp] theorem entRow_len (e:EntD):(Zba e).length=7:=by simp [Zba]
@[simp] theorem entRows_len (l:List EntD):(Za8 l).length=l.length:=by simp [Za8]
@[simp] theorem entRows_get (l:List EntD) (i:Nat):(Za8 l)[i]?=(l[i]?).map Zba:=by simp [Za8]
@[simp] theorem okRows_ent (l:List EntD):ZaM 7 (wr (Za8 l))=true:=Za2 l entRow_len
@[simp] theorem entRows_snoc (l:List EntD) (x:EntD):wr (Za8 l)++[wc (Zba x)]=wr (Za8 (l++[x])):=by simp [Za8,wr]
@[simp] theorem entRows0:Za8 []=[]:=rfl
def ZaI (c:Int)(t:Ty):List Cell:=.int .i64 c::t.row
@[simp] theorem schRow_len (c:Int) (t:Ty):(ZaI c t).length=6:=by simp [ZaI]
section
variable (e:EntD)(c:Int)(t:Ty)
@[simp] theorem cut_n0:cut (Zba e) 0 1=some [.str e.name]:=by simp [Zba]
@[simp] theorem cut_n1:cut (Zba e) 1 6=some (ZaI e.count e.ty):=by rw [Zba,ZaI,Ty.row_eq];rfl
@[simp] theorem cut_n:cut (Zba e) 0 7=some (Zba e):=by rw [Zba,Ty.row_eq];rfl
@[simp] theorem cutw_n0:cut (wc (Zba e)) 0 1=some [.c (.str e.name)]:=by rw [Zba,Ty.row_eq];rfl
@[simp] theorem cutw_n1:cut (wc (Zba e)) 1 6=some (wc (ZaI e.count e.ty)):=by rw [Zba,ZaI,Ty.row_eq];rfl
@[simp] theorem cutw_n:cut (wc (Zba e)) 0 7=some (wc (Zba e)):=by rw [Zba,Ty.row_eq];rfl
@[simp] theorem cutw_sch:cut (wc (ZaI c t)) 0 6=some (wc (ZaI c t)):=by rw [ZaI,Ty.row_eq];rfl
@[simp] theorem flat_sch:(wc (ZaI c t)).all ZbU=false:=by rw [ZaI,Ty.row_eq];simp [wc,ZbU]
@[simp] theorem flat_ent:(wc (Zba e)).all ZbU=false:=by rw [Zba,Ty.row_eq];simp [wc,ZbU]
end
section
variable {C:Ctx}{E:Nat→Option V}{L:Nat→Option Obj}{oid:Nat}
@[simp] theorem x_sl {s:Nat} {x:Opd} {lo hi mx:Option Opd}:Zae C E L oid (.sl s x lo hi mx)=Zbb L s (x.val C E) (lo.map (·.val C E)) (hi.map (·.val C E)) (mx.map (·.val C E)):=rfl
theorem Zc9 {α:Type}{f:α→List Cell}{k:Nat}(h:∀ a,(f a).length=k)(l:List α):Za0 k (l.map f)=true:=by
 cases l with
 | nil=>rfl
 | cons a r=>simp [Za0,h a]
@[simp] theorem fit_ent (l:List EntD):Za0 7 (Za8 l)=true:=Zc9 entRow_len l
@[simp] theorem fit_data (l:List DataD):Za0 4 (Zah l)=true:=Zc9 dataRow_len l
@[simp] theorem slice_from {s n:Nat} {k:IntKind} {rows:List (List Cell)} (h:n≤rows.length):Zbb L s (.sc (.c (.sl rows))) (some (.sc (.c (.int k (n:Int))))) none none=bif Za0 s rows then some (.sc (.c (.sl (rows.drop n))),[]) else none:=by
 simp [Zbb,Zax,ZbF,ZbY,Nat.lt_succ_of_le h]
@[simp] theorem slice_from1 {s n:Nat} {k:IntKind} {rows:List (List Cell)} (h:n+1≤rows.length):Zbb L s (.sc (.c (.sl rows))) (some (.sc (.c (.int k ((n:Int)+1))))) none none=bif Za0 s rows then some (.sc (.c (.sl (rows.drop (n+1)))),[]) else none:=slice_from (n:=n+1) h
@[simp] theorem slice_to {s n:Nat} {k:IntKind} {rows:List (List Cell)} (h:n≤rows.length):Zbb L s (.sc (.c (.sl rows))) none (some (.sc (.c (.int k (n:Int))))) none=bif Za0 s rows then some (.sc (.c (.sl (rows.take n))),[]) else none:=by
 simp [Zbb,Zax,ZbF,ZbY,Nat.lt_succ_of_le h]
@[simp] theorem entRows_drop (l:List EntD) (n:Nat):(Za8 l).drop n=Za8 (l.drop n):=by simp [Za8]
@[simp] theorem dataRows_take (l:List DataD) (n:Nat):(Zah l).take n=Zah (l.take n):=by simp [Zah]
@[simp] theorem call1_clo {call:Zac} {f:FuncId} {w:W} {args:List (Bool × V)}:ZcF call L oid (.sc (.clo f [true] [[w]])) args=ZgY call L oid f (Zat L (args++[(true,.sc w)])):=by
 rw [ZeX]
 rfl
end
end Go.Vs
namespace Go.Vs.Tryz
open Go Go.Vs
variable {A:Zac}
abbrev Zbv (l:List EntD):V:=.sc (.c (.sl (Za8 l)))
def ZbM (l:List EntD):List Str:=l.map (·.name)
@[simp] theorem names_len (l:List EntD):(ZbM l).length=l.length:=by simp [ZbM]
@[simp] theorem names_get (l:List EntD) (i:Nat):(ZbM l)[i]?=(l[i]?).map (·.name):=by simp [ZbM]
def ZbQ (l:List EntD):Nat→List EntD
 | 0=>[]
 | i+1=>match l[i]? with
  | none=>ZbQ l i
  | some e=>if e.name∈ZbM (l.drop (i+1)) then ZbQ l i else ZbQ l i++[e]
theorem ZcR (l:List EntD):∀ i,(ZbQ l i).length≤i
 | 0=>by simp [ZbQ]
 | i+1=>by
  have:=ZcR l i
  simp only [ZbQ]
  split
  ·omega
  ·split
   ·omega
   ·simp;omega
variable {A:Zac}
def rlast (l:List Str)(s:Str):Int:=if s∈l then (l.length:Int)-1-Zbx l.reverse s else -1
theorem ZfG {l:List Str}{i:Nat}(h:i<l.length):l.reverse[i]?=l[l.length-1-i]?:=List.getElem?_reverse h
def LookP (b:Bool)(r:V × List Obj):Prop:=∃ c t,r=(.tu [.ag (wc (ZaI c t)),ZaG b],[])
theorem ZoZ (l:List EntD)(s:Str)(h:l.length≤1073741824):∃ r,LookP (decide (s∈ZbM l)) r∧(K A).call 184 [Zbv l,strV s] []=some r:=by
 refine Zap _ (vf:=v184) (by kernel_rfl) rfl (by simp) ?_
 unfold v184
 have hp:=ZoK (ZbM l).reverse s
 rw [List.length_reverse,names_len] at hp
 simp (disch:=first|omega|(simp;done)|(simp;omega))
 refine ZaV (fun i=>⟨[(0,Zbv l),(1,strV s),(4,.sc (.ptr 64 0)),(6,intV ((l.length:Int)-1-i))],[(64,some (.box [zi,zi,zs,zi,zi,.nil]))]⟩) (Zbx (ZbM l).reverse s) ?_ ?_ ?_
 ·simp
 ·intro i hi
  obtain ⟨x,hx,hne⟩:=Zjl hi
  have hlt:i<l.length:=by omega
  rw [ZfG (by simpa using hlt),names_get,names_len] at hx
  obtain ⟨e,he,rfl⟩:=Option.map_eq_some_iff.1 hx
  have hc:(l.length:Int)-1-i=((l.length-1-i:Nat):Int):=by omega
  have hc2:(l.length:Int)-1-(i+1)=((l.length-1-i:Nat):Int)-1:=by omega
  unfold ZnG
  simp (disch:=first|omega|(simp;done)|(simp;omega)) [hc,hc2,he,hne,-getElem?_pos]
 ·unfold ZnG
  by_cases hm:Zbx (ZbM l).reverse s<l.length
  ·have hx:=Ze1 (l:=(ZbM l).reverse) (s:=s) (by simpa using hm)
   have hmem:s∈ZbM l:=by
    have:=Zcm.1 (show Zbx (ZbM l).reverse s<(ZbM l).reverse.length by simpa using hm)
    simpa using this
   rw [ZfG (by simpa using hm),names_get,names_len] at hx
   obtain ⟨e,he,hes⟩:=Option.map_eq_some_iff.1 hx
   have hc:(l.length:Int)-1-(Zbx (ZbM l).reverse s:Nat)=((l.length-1-Zbx (ZbM l).reverse s:Nat):Int):=by omega
   simp (disch:=first|omega|(simp;done)|(simp;omega)) [hc,he,hes,hmem,-getElem?_pos]
   exact ⟨_,_,rfl⟩
  ·have hn:s∉ZbM l:=fun h=>hm (by have:=Zcm.2 (List.mem_reverse.2 h);simpa using this)
   have hc:(l.length:Int)-1-(Zbx (ZbM l).reverse s:Nat)=-1:=by omega
   simp (disch:=first|omega|(simp;done)|(simp;omega)) [hc,hn,-getElem?_pos]
   refine ⟨0,tz,?_⟩
   simp [ZaI,tz,Ty.row]
theorem ZlK (l:List EntD)(h:l.length≤1073741824):(K A).call 135 [Zbv l] []=some (Zbv (ZbQ l l.length),[]):=by
 refine ZaW (vf:=v135) (by kernel_rfl) rfl (by simp) ?_
 unfold v135
 simp (disch:=first|omega|(simp;done)|(simp;omega))
 refine ZaV (fun i=>⟨[(0,Zbv l),(3,.sc (.arr 129 (ZbQ l i).length)),(4,intV i)],[(129,some (.arr 7 (wr (Za8 (ZbQ l i))) 0))]⟩) l.length ?_ ?_ ?_
 ·simp [ZbQ]
 ·intro i hi
  obtain ⟨e,he⟩:=Zaa hi
  obtain ⟨_,⟨c,t,rfl⟩,hc⟩:=ZoZ (A:=A) (l.drop (i+1)) e.name (by simp;omega)
  have hsl:=ZcR l i
  have hi':i+1≤l.length:=hi
  unfold Zm6
  by_cases hn:e.name∈ZbM (l.drop (i+1))
  ·simp (disch:=first|omega|(simp;done)|(simp;omega)) [he,hi,hc,hn,ZbQ,-getElem?_pos]
  ·simp (disch:=first|omega|(simp;done)|(simp;omega)) [he,hi,hc,hn,ZbQ,-getElem?_pos]
 ·unfold Zm6
  simp (disch:=first|omega|(simp;done)|(simp;omega))
def Zbq (d:DataD):List Str:=d.cons.map (·.name)
@[simp] theorem cnames_len (d:DataD):(Zbq d).length=d.cons.length:=by simp [Zbq]
@[simp] theorem cnames_get (d:DataD) (i:Nat):(Zbq d)[i]?=(d.cons[i]?).map (·.name):=by simp [Zbq]
def Zd4 (ds:List DataD)(c:Str):Nat:=ds.findIdx fun d=>decide (c∈Zbq d)
theorem ZmY {ds:List DataD}{c:Str}(h:Zd4 ds c<ds.length):∃ d,ds[Zd4 ds c]?=some d∧c∈Zbq d:=by
 refine ⟨ds[Zd4 ds c],List.getElem?_eq_getElem h,?_⟩
 have h1:=List.findIdx_getElem (w:=h)
 exact of_decide_eq_true h1
def Zrw (ds:List DataD)(c:Str):Int × Int × Bool:=match ds[Zd4 ds c]? with
 | some d=>(Zd4 ds c,Zbx (Zbq d) c,true)
 | none=>(0,0,false)
abbrev findV (r:Int × Int × Bool):V:=.tu [intV r.1,intV r.2.1,ZaG r.2.2]
end Go.Vs.Tryz
namespace Go.Vs
open Go
section
variable {C:Ctx}
theorem Zhv (ks:List Nat)(s:St):Zca ks s=s.scrub ks:=by
 cases ks with
 | cons _ _=>rfl
 | nil =>
  obtain ⟨E,O⟩:=s
  unfold Zca St.scrub
  have:(O.any fun x=>x.2.isSome && List.contains [] x.1)=false:=by
   rw [List.any_eq_false]
   intro x _
   simp
  simp only [this,cond_false]
theorem ZmP {x:Opd}{f s p q k:Nat}{ag:Bool}{asg body:VCode}{Q:Ex→St→Prop}{st:St}{rows:List (List Cell)}(hx:x.val C (get? st.env)=.sc (.clo f [true] [[.ptr k 0]]))(hk:64≤k)
 (hL:look st.objs k=some (.box [.c (.sl rows)])) (hn:rows.length≤4294967296) (I:Nat→St→Prop) (h0:I rows.length (Zca [k] st))
 (round:∀ i st' row,I (i+1) st'→rows[i]?=some row→row.length=s∧∃ v,asV ag (wc row)=some v ∧
   wp C asg (fun e s1=>e=.normal∧((Zak body).all fun k=>(look s1.objs k).isNone)=true ∧
    wp C body (fun e s2=>(e=.normal∧I i ⟨(Zca (Zak asg++Zak body) st').env,s2.objs⟩)∨(e≠.normal∧Q e ⟨(Zca (Zak asg++Zak body) st').env,s2.objs⟩)) s1)
    ⟨put (put (Zca (Zak asg++Zak body) st').env p (.sc (.c (.int .i64 i)))) q v,(Zca (Zak asg++Zak body) st').objs⟩)
 (fin:∀ st',I 0 st'→Q .normal st'):wp C (.rangeB x f s ag p q asg body) Q st:=by
 have key:∀ i,i≤rows.length→∀ st',I i st'→∃ n e s',(∀ n',n≤n'→ZcH (run C n' asg) (run C n' body) (Zak asg++Zak body) (Zak body) s ag p q rows i st'=some (e,s'))∧Q e s':=by
  intro i
  induction i with
  | zero=>exact fun _ st' h=>⟨0,.normal,st',fun _ _=>rfl,fin st' h⟩
  | succ i ih =>
   intro hi st' h
   obtain ⟨row,hrow⟩:∃ row,rows[i]?=some row:=⟨rows[i],List.getElem?_eq_getElem (by omega)⟩
   obtain ⟨hlen,v,hv,n1,e1,s1,h1,rfl,h2,n2,e2,s2,h3,h4⟩:=round i st' row h hrow
   rw [Zhv] at h1 h4
   have hl:(row.length == s)=true:=by simp [hlen]
   have r1:∀ n',n1≤n'→run C n' asg ⟨put (put (st'.scrub (Zak asg++Zak body)).env p (.sc (.c (.int .i64 i)))) q v,(st'.scrub (Zak asg++Zak body)).objs⟩=some (.normal,s1):=fun n' hn=>ZbP (gl:=C.gl) (c:=C.call) (Le.refl _) hn h1
   have r2:∀ n',n2≤n'→run C n' body s1=some (e2,s2):=fun n' hn=>ZbP (gl:=C.gl) (c:=C.call) (Le.refl _) hn h3
   have hv':asV ag (row.map W.c)=some v:=hv
   rcases h4 with ⟨rfl,h4⟩|⟨hne,h4⟩
   ·obtain ⟨n3,e3,s3,h5,h6⟩:=ih (by omega) _ h4
    refine ⟨max n1 (max n2 n3),e3,s3,fun n' hn' => ?_,h6⟩
    have ha:=r1 n' (by omega)
    have hb:=r2 n' (by omega)
    simp only [ZcH,hrow,hl,cond_true,hv',ha,h2,hb]
    exact h5 n' (by omega)
   ·refine ⟨max n1 n2,e2,_,fun n' hn' => ?_,h4⟩
    have ha:=r1 n' (by omega)
    have hb:=r2 n' (by omega)
    simp only [ZcH,hrow,hl,cond_true,hv',ha,h2,hb]
    cases e2 with
    | normal=>exact absurd rfl hne
    | exit _=>rfl
    | ret=>rfl
 obtain ⟨n,e,s',h1,h2⟩:=key rows.length (Nat.le_refl _) _ h0
 refine ⟨n,e,s',?_,h2⟩
 have hb:(f == f && Nat.ble 64 k)=true:=by
  simp only [beq_self_eq_true,Bool.true_and]
  exact Nat.ble_eq_true_of_le hk
 have hb2:Nat.ble rows.length ZdR=true:=Nat.ble_eq_true_of_le (by unfold ZdR;omega)
 rw [Zhv] at h1
 simp only [run,hx,hb,cond_true,hL,hb2]
 exact h1 n (Nat.le_refl n)
attribute [simp] Zak
end
end Go.Vs
namespace Go.Vs.Tryz
open Go Go.Vs
variable {A:Zac}
def ZdB (ds:List DataD)(i:Nat):Nat:=((ds.take i).map fun d=>d.cons.length).sum
theorem Zfp {ds:List DataD}{i:Nat}{d:DataD}(h:ds[i]?=some d):ZdB ds (i+1)=ZdB ds i+d.cons.length:=by
 unfold ZdB
 rw [ZaQ h,List.map_append,List.sum_append]
 simp
def Zd8 (ds:List DataD)(seen bound:List Str)(e:Exp):Int :=
 if e.kind=1 then (if e.name∈bound then seen.length+rlast bound e.name else rlast seen e.name)
 else if e.kind=2 then match Zrw ds e.name with
  | (i,k,true)=>seen.length+bound.length+k+ZdB ds i.toNat
  | _=>-1
 else -1
variable {A:Zac}
theorem ZnV {l:List Str}{s:Str}{i:Nat}(h:l[i]?=some s)(hj:∀ j x,i<j→l[j]?=some x→¬x=s):rlast l s=i:=by
 have hi:=(List.getElem?_eq_some_iff.1 h).1
 have hmem:s∈l:=List.mem_of_getElem? h
 unfold rlast
 rw [if_pos hmem]
 have hp:=Zcm.2 (List.mem_reverse.2 hmem)
 have hx:=Ze1 hp
 rw [List.length_reverse] at hp
 rw [ZfG hp] at hx
 have h1:¬i<l.length-1-Zbx l.reverse s:=fun hlt=>hj _ s hlt hx rfl
 have h2:¬l.length-1-i<Zbx l.reverse s:=by
  intro hlt
  obtain ⟨x,hx2,hne⟩:=Zjl hlt
  rw [ZfG (by omega),show l.length-1-(l.length-1-i)=i by omega,h] at hx2
  cases hx2
  exact hne rfl
 omega
theorem ZgP {l:List Str}{s:Str}(h:s∉l):rlast l s=-1:=if_neg h
theorem Zm2 {l:List Str}{s:Str}(h:s∈l):0≤rlast l s:=by
 unfold rlast
 rw [if_pos h]
 have:=Zcm.2 (List.mem_reverse.2 h)
 rw [List.length_reverse] at this
 omega
def seenN (ctx:List EntD):List Str:=ZbM (ZbQ ctx ctx.length)
variable {A:Zac}
end Go.Vs.Tryz
namespace Go.Vs
open Go
mutual
def Ty.size:Ty→Nat
 | .mk _ _ _ _ a=>1+Ty.sizes a
def Ty.sizes:List Ty→Nat
 | []=>0
 | t::r=>t.size+Ty.sizes r
end
theorem Ty.sizes_map:∀ l:List Ty,Ty.sizes l=(l.map Ty.size).sum
 | []=>by simp [Ty.sizes]
 | t::r=>by simp [Ty.sizes,Ty.sizes_map r]
theorem Ty.size_eq (t:Ty):t.size=1+(t.args.map Ty.size).sum:=by
 cases t
 simp [Ty.size,Ty.args,Ty.sizes_map]
theorem Ty.size_pos (t:Ty):1≤t.size:=by
 rw [Ty.size_eq]
 omega
theorem Zee {l:List Nat}{n:Nat}(h:n∈l):n≤l.sum:=by
 induction l with
 | nil=>cases h
 | cons a r ih =>
  simp only [List.sum_cons]
  rcases List.mem_cons.1 h with rfl|h
  ·omega
  ·have:=ih h
   omega
theorem Ty.arg_lt {t x:Ty}(h:x∈t.args):x.size<t.size:=by
 have:=Zee (List.mem_map_of_mem (f:=Ty.size) h)
 rw [t.size_eq]
 omega
theorem Ty.len_le (l:List Ty):l.length≤(l.map Ty.size).sum:=by
 induction l with
 | nil=>simp
 | cons a r ih =>
  have:=a.size_pos
  simp only [List.length_cons,List.map_cons,List.sum_cons]
  omega
theorem Ty.args_lt (t:Ty):t.args.length<t.size:=by
 have:=Ty.len_le t.args
 rw [t.size_eq]
 omega
theorem Ty.size_leaf {k:Int}{n:Str}{i h:Int}:(Ty.mk k n i h []).size=1:=by simp [Ty.size,Ty.sizes]
structure AssD where
 id:Int
 ty:Ty
def Zbn (a:AssD):List Cell:=.int .i64 a.id::a.ty.row
def ZbK (l:List AssD):List (List Cell):=l.map Zbn
@[simp] theorem assRow_len (a:AssD):(Zbn a).length=6:=by simp [Zbn]
@[simp] theorem assRows_len (l:List AssD):(ZbK l).length=l.length:=by simp [ZbK]
@[simp] theorem assRows_get (l:List AssD) (i:Nat):(ZbK l)[i]?=(l[i]?).map Zbn:=by simp [ZbK]
@[simp] theorem okRows_ass (l:List AssD):ZaM 6 (wr (ZbK l))=true:=Za2 l assRow_len
@[simp] theorem assRows_snoc (l:List AssD) (x:AssD):wr (ZbK l)++[wc (Zbn x)]=wr (ZbK (l++[x])):=by simp [ZbK,wr]
@[simp] theorem assRows0:ZbK []=[]:=rfl
section
variable (a:AssD)
@[simp] theorem cut_as0:cut (Zbn a) 0 1=some [.int .i64 a.id]:=by rw [Zbn,Ty.row_eq];rfl
@[simp] theorem cut_as1:cut (Zbn a) 1 5=some a.ty.row:=by rw [Zbn,Ty.row_eq];rfl
@[simp] theorem cut_as:cut (Zbn a) 0 6=some (Zbn a):=by rw [Zbn,Ty.row_eq];rfl
@[simp] theorem cutw_as0:cut (wc (Zbn a)) 0 1=some [.c (.int .i64 a.id)]:=by rw [Zbn,Ty.row_eq];rfl
@[simp] theorem cutw_as1:cut (wc (Zbn a)) 1 5=some (wc a.ty.row):=by rw [Zbn,Ty.row_eq];rfl
@[simp] theorem cutw_as:cut (wc (Zbn a)) 0 6=some (wc (Zbn a)):=by rw [Zbn,Ty.row_eq];rfl
@[simp] theorem flat_ass:(wc (Zbn a)).all ZbU=false:=by rw [Zbn,Ty.row_eq];simp [wc,ZbU]
end
end Go.Vs
namespace Go.Vs.Tryz
open Go Go.Vs
variable {A:Zac}
abbrev Zci (l:List Int):V:=.sc (.c (.sl (Zao l)))
abbrev tysV (l:List Ty):V:=.sc (.c (.sl (Ty.rows l)))
abbrev ZdI (l:List AssD):V:=.sc (.c (.sl (ZbK l)))
abbrev schV (c:Int)(t:Ty):V:=.ag (wc (ZaI c t))
theorem Zi7 (h i:Int):(K A).call 118 [intV h,intV i] []=some (tyV (.mk 3 [] i h []),[]):=by
 refine ZaW (vf:=v118) (by kernel_rfl) rfl (by simp) ?_
 unfold v118
 simp (disch:=first|omega|(simp;done)|(simp;omega)) [Ty.row]
theorem Zmg (i:Int):(K A).call 212 [intV i] []=some (tyV (.mk 1 [] i 0 []),[]):=by
 refine ZaW (vf:=v212) (by kernel_rfl) rfl (by simp) ?_
 unfold v212
 simp (disch:=first|omega|(simp;done)|(simp;omega)) [Ty.row]
theorem ZgM (i:Int):(K A).call 169 [intV i] []=some (tyV (.mk 2 [] i 0 []),[]):=by
 refine ZaW (vf:=v169) (by kernel_rfl) rfl (by simp) ?_
 unfold v169
 simp (disch:=first|omega|(simp;done)|(simp;omega)) [Ty.row]
def ZoV (r:V × List Obj):Prop:=∃ b,r=(ZaG b,[])
theorem ZgI (t:Ty):(K A).call 65 [tyV t] []=some (schV 0 t,[]):=by
 refine ZaW (vf:=v65) (by kernel_rfl) rfl (by simp) ?_
 unfold v65
 simp (disch:=first|omega|(simp;done)|(simp;omega)) [ZaI,Ty.row_eq]
theorem Zfo (l:List EntD)(s:Str)(c:Int)(t:Ty)(h:l.length≤1073741):(K A).call 64 [Zbv l,strV s,schV c t] []=some (Zbv (l++[⟨s,c,t⟩]),[]):=by
 refine ZaW (vf:=v64) (by kernel_rfl) rfl (by simp) ?_
 unfold v64
 cases l with
 | nil=>simp (disch:=first|omega|(simp;done)|(simp;omega)) [Zba,ZaI,Za8]
 | cons a r =>
  have hn:Za8 (a::r)=Zba a::Za8 r:=rfl
  have hok:=okRows_ent (a::r)
  rw [hn,wr_cons] at hok
  simp only [List.length_cons] at h
  have he:(W.c (.str s)::wc (ZaI c t))=wc (Zba ⟨s,c,t⟩):=rfl
  simp (disch:=first|omega|(simp;done)|(simp;omega)) [hn,hok,he]
  rfl
variable {A:Zac}
def cmpI (a b:Int):Int:=if a<b then -1 else if b<a then 1 else 0
def orI:List Int→Int
 | []=>0
 | a::r=>if a=0 then orI r else a
def kindM (e:Exp):Int:=if e.kind=4 then 0 else if e.kind=8 then 2 else 1
end Go.Vs.Tryz
