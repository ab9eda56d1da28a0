/- Comparing by the program: the closure compare, walked. (Parts of one proof, put together.) -/
import Derived.Test.YtccmnfpbcmccpaaGreatDoorR6c
import Derived.Test.YtccmnfpbcmccpaaGreatDoorR5c
import Derived.Test.YtccmnfpbcmccpaaGreatDoorX0c
import Derived.Test.YtccmnfpbcmccpaaGreatDoorR3c
import Derived.Test.YtccmnfpbcmccpaaGreatDoorR4c
import Derived.Test.YtccmnfpbcmccpaaGreatDoorR1c
set_option linter.unusedSimpArgs false
set_option linter.unusedVariables false
set_option linter.deprecated false
set_option maxHeartbeats 8000000
namespace Go.Vs.Tryz
open Go Go.Vs
variable {A:Zac}
@[simp] theorem calleeOf_c1 {f:FuncId} {w:W}:Zbd (.sc (.clo f [true] [[w]]))=some (f,[(true,.sc w)]):=rfl
@[simp] theorem calleeOf_c2 {f:FuncId} {w0 w1:W}:Zbd (.sc (.clo f [true,true] [[w0],[w1]]))=some (f,[(true,.sc w0),(true,.sc w1)]):=rfl
@[simp] theorem calleeOf_c3 {f:FuncId} {w0 w1 w2:W}:Zbd (.sc (.clo f [true,true,true] [[w0],[w1],[w2]]))=some (f,[(true,.sc w0),(true,.sc w1),(true,.sc w2)]):=rfl
variable {A:Zac}
def conNames (ds:List DataD):Prop:=∀ d∈ds,∀ c∈d.cons,nameOk 65 90 c.name
def TermP (L:List Int)(ds:List DataD)(N:List Str)(B:Nat)(r:V × List Obj):Prop:=∃ e J,good e∧ZdL ds e N∧e.weight≤B∧J≤L.length∧r=(expV e,[Zan L J])
def ZnT (lo hi:Nat)(s:Str):Bool:=decide (s.length≤12) && (match s with
 | []=>false
 | c::_=>decide (lo≤c.toNat) && decide (c.toNat≤hi)) && s.all Zpw && keyWords.all fun k=>decide (s≠k)
theorem Zhd {lo hi:Nat}{s:Str}(h:ZnT lo hi s=true):nameOk lo hi s:=by
 unfold ZnT at h
 simp only [Bool.and_eq_true,decide_eq_true_eq,List.all_eq_true] at h
 obtain ⟨⟨⟨h1,h2⟩,h3⟩,h4⟩:=h
 refine ⟨h1,?_,h3,fun hk=>h4 s hk rfl⟩
 cases s with
 | nil=>cases h2
 | cons c r =>
  simp only [Bool.and_eq_true,decide_eq_true_eq] at h2
  exact ⟨c,rfl,h2.1,h2.2⟩
def conB (s:Str)(n:Nat):Bool:=(decide (s=[45,62]) && decide (n=2)) || (decide (s=[73,110,116]) && decide (n=0)) || (decide (s≠[45,62]) && decide (s≠[73,110,116]) && ZnT 65 90 s && decide (n≤4))
theorem Zk6 {s:Str}{n:Nat}(h:conB s n=true):ZeS s n:=by
 unfold conB at h
 simp only [Bool.or_eq_true,Bool.and_eq_true,decide_eq_true_eq] at h
 rcases h with (⟨h1,h2⟩|⟨h1,h2⟩)|⟨⟨⟨h1,h2⟩,h3⟩,h4⟩
 ·exact .inl ⟨h1,h2⟩
 ·exact .inr (.inl ⟨h1,h2⟩)
 ·exact .inr (.inr ⟨h1,h2,Zhd h3,h4⟩)
def Zon:Nat→Ty→Bool
 | 0,_=>false
 | n+1,t=>((decide (t.kind=4) && decide (t.id=0) && decide (t.home=0) && conB t.name t.args.length) || (decide (t.kind=5) && decide (t.id=0) && decide (t.home=0) && t.args.isEmpty && ZnT 97 122 t.name)) && t.args.all (Zon n)
theorem ZjJ:∀ (n:Nat)(t:Ty),Zon n t=true→tyS 0 t
 | 0,_,h=>by cases h
 | n+1,t,h=>by
  unfold Zon at h
  simp only [Bool.and_eq_true,Bool.or_eq_true,decide_eq_true_eq,List.all_eq_true,List.isEmpty_iff] at h
  obtain ⟨h1,h2⟩:=h
  refine Zev.2 ⟨?_,fun x hx=>ZjJ n x (h2 x hx)⟩
  rcases h1 with ⟨⟨⟨k,i⟩,ho⟩,hc⟩|⟨⟨⟨⟨k,i⟩,ho⟩,ha⟩,hn⟩
  ·exact ⟨fun q=>by omega,fun q=>by omega,fun q=>by omega,fun q=>by omega,fun _=>⟨i,ho,Zk6 hc⟩,fun q=>by omega,by omega,by omega⟩
  ·exact ⟨fun q=>by omega,fun q=>by omega,fun q=>by omega,fun q=>by omega,fun q=>by omega,fun _=>⟨i,ho,ha,Zhd hn⟩,by omega,by omega⟩
def datB (d:DataD):Bool:=(d.cons.all fun c=>(c.fields.all fun f=>Zon 9 f && decide (f.size≤20)) && decide (c.fields.length≤2) && ZnT 65 90 c.name) && conB d.name d.params.length && decide (d.cons.length≤2)
theorem dat7:ds7.all datB=true:=by kernel_rfl
theorem Zq8 {d:DataD}(h:datB d=true):(∀ c∈d.cons,(∀ f∈c.fields,tyS 0 f∧f.size≤20)∧c.fields.length≤2∧nameOk 65 90 c.name)∧ZeS d.name d.params.length∧d.cons.length≤2:=by
 unfold datB at h
 simp only [Bool.and_eq_true,decide_eq_true_eq,List.all_eq_true] at h
 obtain ⟨⟨h1,h2⟩,h3⟩:=h
 exact ⟨fun c hc=>⟨fun f hf=>⟨ZjJ 9 f ((h1 c hc).1.1 f hf).1,((h1 c hc).1.1 f hf).2⟩,(h1 c hc).1.2,Zhd (h1 c hc).2⟩,Zk6 h2,h3⟩
theorem at7 {d:DataD}(hd:d∈ds7):(∀ c∈d.cons,(∀ f∈c.fields,tyS 0 f∧f.size≤20)∧c.fields.length≤2∧nameOk 65 90 c.name)∧ZeS d.name d.params.length∧d.cons.length≤2:=Zq8 (List.all_eq_true.1 dat7 d hd)
theorem fit7:∀ d∈ds7,fitD d:=fun d hd=>⟨good7 d hd,fun c hc=>((at7 hd).1 c hc).1,(at7 hd).2.1,fun c hc=>((at7 hd).1 c hc).2.1⟩
theorem small7:Zh6 ds7:=fun d hd=>⟨(at7 hd).2.2,fun c hc=>((at7 hd).1 c hc).2.1⟩
end Go.Vs.Tryz
namespace Go.Vs
open Go
def tyO:Option Ty→List W
 | none=>[zi,zs,zi,zi,.nil]
 | some t=>wc t.row
def tyOs (l:List (Option Ty)):List (List W):=l.map tyO
def boOs (l:List Bool):List (List W):=l.map fun b=>[.c (.bool b)]
@[simp] theorem tyOs_len (l:List (Option Ty)):(tyOs l).length=l.length:=by simp [tyOs]
@[simp] theorem boOs_len (l:List Bool):(boOs l).length=l.length:=by simp [boOs]
@[simp] theorem tyOs_get (l:List (Option Ty)) (i:Nat):(tyOs l)[i]?=(l[i]?).map tyO:=by simp [tyOs]
@[simp] theorem boOs_get (l:List Bool) (i:Nat):(boOs l)[i]?=(l[i]?).map fun b=>[W.c (.bool b)]:=by simp [boOs]
theorem Zp3 (o:Option Ty):(tyO o).length=5:=by cases o<;>simp [tyO,wc]
theorem Zjn (n:Nat):List.replicate n [zi,zs,zi,zi,W.nil]=tyOs (List.replicate n none):=by simp [tyOs,tyO]
theorem Zg6 (n:Nat):List.replicate n [W.c (.bool false)]=boOs (List.replicate n false):=by simp [boOs]
theorem Zol (l:List (Option Ty))(i:Nat)(t:Ty):(tyOs l).set i (wc t.row)=tyOs (l.set i (some t)):=by simp [tyOs,tyO,List.map_set]
theorem ZoG (l:List Bool)(i:Nat)(b:Bool):(boOs l).set i [W.c (.bool b)]=boOs (l.set i b):=by simp [boOs,List.map_set]
theorem ZdT {α:Type}:∀ (l:List α)(i:Nat)(a:α),setRow l i a=l.set i a
 | [],_,_=>by simp [setRow]
 | _::_,0,_=>by simp [setRow]
 | _::r,n+1,a=>by simp [setRow,ZdT r n a]
theorem ZiR (l:List (Option Ty))(i:Nat)(t:Ty):setRow (tyOs l) i (wc t.row)=tyOs (l.set i (some t)):=by rw [ZdT,Zol]
theorem Zjf (l:List Bool)(i:Nat)(b:Bool):setRow (boOs l) i [W.c (.bool b)]=boOs (l.set i b):=by rw [ZdT,ZoG]
theorem ZoU (L:Nat→Option Obj)(d:Nat)(l:List (Option Ty)):Zad (Zad (W.toC L d)) (tyOs l)=some (l.map fun o=>(o.getD (.mk 0 [] 0 0 [])).row):=by
 unfold tyOs
 induction l with
 | nil=>rfl
 | cons a r ih =>
  have h1:Zad (W.toC L d) (tyO a)=some (a.getD (.mk 0 [] 0 0 [])).row:=by
   cases a with
   | none=>simp [tyO,Ty.row,Zad,Ty.rows]
   | some t=>simp [tyO]
  simp only [List.map_cons,Zad,h1,ih]
theorem Zrx (L:Nat→Option Obj)(d:Nat)(o:Option Ty){y:W}(hy:y∈tyO o):W.ids L d y=[]:=by
 cases o with
 | none =>
  simp only [tyO,List.mem_cons,List.not_mem_nil,or_false] at hy
  rcases hy with rfl|rfl|rfl|rfl|rfl<;>cases d<;>rfl
 | some t =>
  have h:=wc_ids L d t.row
  rw [List.flatMap_eq_nil_iff] at h
  exact h y hy
@[simp] theorem tyOs_allIds (L:Nat→Option Obj) (d:Nat) (l:List (Option Ty)) (p:Nat→Bool):((tyOs l).all fun a=>a.all fun b=>(W.ids L d b).all p)=true:=by
 simp only [List.all_eq_true,tyOs,List.mem_map]
 rintro _ ⟨o,_,rfl⟩ y hy
 rw [Zrx L d o hy]
 simp
@[simp] theorem tyOs_refs (d:Nat) (l:List (Option Ty)):(tyOs l).flatMap (fun x=>x.flatMap (W.refs d))=[]:=by
 simp only [List.flatMap_eq_nil_iff,tyOs,List.mem_map]
 rintro _ ⟨o,_,rfl⟩ y hy
 cases o with
 | none =>
  simp only [tyO,List.mem_cons,List.not_mem_nil,or_false] at hy
  rcases hy with rfl|rfl|rfl|rfl|rfl<;>cases d<;>rfl
 | some t =>
  have h:=wc_refs d t.row
  rw [List.flatMap_eq_nil_iff] at h
  exact h y hy
@[simp] theorem boOs_refs (d:Nat) (l:List Bool):(boOs l).flatMap (fun x=>x.flatMap (W.refs d))=[]:=by
 simp only [List.flatMap_eq_nil_iff,boOs,List.mem_map]
 rintro _ ⟨o,_,rfl⟩ y hy
 simp only [List.mem_cons,List.not_mem_nil,or_false] at hy
 subst hy
 cases d<;>rfl
@[simp] theorem tyOs_ren (ρ:Nat→Option Nat) (d:Nat) (l:List (Option Ty)):(tyOs l).map (fun x=>x.map (W.ren ρ d))=tyOs l:=by
 unfold tyOs
 rw [List.map_map]
 refine List.map_congr_left fun o _ => ?_
 cases o with
 | none=>cases d<;>rfl
 | some t=>simp [tyO]
@[simp] theorem boOs_ren (ρ:Nat→Option Nat) (d:Nat) (l:List Bool):(boOs l).map (fun x=>x.map (W.ren ρ d))=boOs l:=by
 unfold boOs
 rw [List.map_map]
 refine List.map_congr_left fun o _ => ?_
 cases d<;>rfl
end Go.Vs
namespace Go.Vs.Tryz
open Go Go.Vs
variable {A:Zac}
def InsI (n:Nat)(l:List (Option Ty))(ks:List Bool):Prop:=l.length=n∧ks.length=n∧(∀ t,some t∈l→t.size≤1073741824)∧∀ i:Nat,ks[i]?=some true→∃ t,l[i]?=some (some t)
def InsR (n:Nat)(r:V × List Obj):Prop:=∃ (b:Bool)(l:List (Option Ty))(ks:List Bool),InsI n l ks∧r=(ZaG b,[.arr 5 (tyOs l) 0,.arr 1 (boOs ks) 0])
theorem Znf (o:Option Ty)(t:Ty):splice (tyO o) 0 (wc t.row)=some (wc t.row):=by
 have h1:=Zp3 o
 unfold splice
 simp [h1]
theorem Ziv {q:Nat}(n:Nat)(hn:n≤1073741824)(p:Ty):∀ (t:Ty)(l:List (Option Ty))(ks:List Bool),tyB 0 q p→t.size≤1073741824→InsI n l ks →
 ∃ r,InsR n r∧(K A).call 185 [tyV p,tyV t,.sc (.arr 0 n),.sc (.arr 1 n)] [.arr 5 (tyOs l) 0,.arr 1 (boOs ks) 0]=some r:=by
 induction p using Ty.ind with
 | h p ih =>
 intro t l ks hp ht hI
 obtain ⟨hl,hk,hs,hkn⟩:=hI
 have htl:=t.args_lt
 refine Zap _ (vf:=v185) (by kernel_rfl) rfl (by simp) ?_
 unfold v185
 by_cases h2:p.kind=2∧p.id<n
 ·obtain ⟨h2,h3⟩:=h2
  have h0:=hp.one.2.1 h2
  obtain ⟨i,hi⟩:∃ i:Nat,p.id=i:=⟨p.id.toNat,by omega⟩
  have hin:i<n:=by omega
  have hin2:(i:Int)<n:=by omega
  obtain ⟨b,hb⟩:=Zaa (l:=ks) (i:=i) (by omega)
  obtain ⟨o',ho⟩:=Zaa (l:=l) (i:=i) (by omega)
  cases b with
  | true =>
   obtain ⟨u,hu⟩:=hkn i hb
   rw [hu] at ho
   cases ho
   obtain ⟨_,⟨e,rfl⟩,hc⟩:=Znk (A:=A) 1073741824 u t (hs u (List.mem_of_getElem? hu)) (by omega)
   simp (disch:=first|omega|(simp;done)|(simp;omega)) [h2,hi,hin,hin2,hb,hu,hc,hl,hk,tyO,elOk,-getElem?_pos]
   exact ⟨e,l,ks,⟨hl,hk,hs,hkn⟩,rfl⟩
  | false =>
   simp (disch:=first|omega|(simp;done)|(simp;omega)) [h2,hi,hin,hin2,hb,ho,hl,hk,elOk,Znf,-getElem?_pos]
   simp only [ZiR,Zjf,←List.map_map,tyOs_ren,boOs_ren]
   refine ⟨true,l.set i (some t),ks.set i true,⟨by simp [hl],by simp [hk],?_,?_⟩,rfl⟩
   ·intro u hu
    rcases List.mem_or_eq_of_mem_set hu with hu|hu
    ·exact hs u hu
    ·cases hu
     omega
   ·intro j hj
    by_cases hji:j=i
    ·subst hji
     exact ⟨t,by simp [hl,hin]⟩
    ·rw [List.getElem?_set_ne (fun h=>hji h.symm)] at hj
     obtain ⟨u,hu⟩:=hkn j hj
     exact ⟨u,by rw [List.getElem?_set_ne (fun h=>hji h.symm)];exact hu⟩
 ·have same:InsR n (ZaG false,[.arr 5 (tyOs l) 0,.arr 1 (boOs ks) 0]):=⟨false,l,ks,⟨hl,hk,hs,hkn⟩,rfl⟩
  have fin:p.args.length=t.args.length→wp (K A) (.loop Zjq) (Zby 0 (Zcv (K A) (.seq (.region [] [o 8 (.mv kt)] [] [8]) .ret) (Zdy false 2 [.tmp 8] (InsR n))))
   ⟨[(2,.sc (.arr 0 n)),(3,.sc (.arr 1 n)),(4,.sc (.ptr 64 0)),(5,.sc (.ptr 128 0)),(9,intV 0)],
     [(0,some (.arr 5 (tyOs l) 0)),(1,some (.arr 1 (boOs ks) 0)),(64,some (.box (wc p.row))),(128,some (.box (wc t.row)))]⟩:=by
   intro hpt
   refine Zaf (fun i s=>∃ l ks,InsI n l ks∧s=⟨[(2,.sc (.arr 0 n)),(3,.sc (.arr 1 n)),(4,.sc (.ptr 64 0)),(5,.sc (.ptr 128 0)),(9,intV i)],
    [(0,some (.arr 5 (tyOs l) 0)),(1,some (.arr 1 (boOs ks) 0)),(64,some (.box (wc p.row))),(128,some (.box (wc t.row)))]⟩) p.args.length ⟨l,ks,⟨hl,hk,hs,hkn⟩,by simp⟩ ?_ ?_
   ·rintro i s hi ⟨l,ks,hI,rfl⟩
    obtain ⟨x,hx⟩:=Zaa hi
    obtain ⟨y,hy⟩:=Zaa (l:=t.args) (i:=i) (by omega)
    have hys:=Ty.arg_lt (List.mem_of_getElem? hy)
    obtain ⟨_,⟨b,l2,ks2,hI2,rfl⟩,hc⟩:=ih x (List.mem_of_getElem? hx) y l ks (hp.arg (List.mem_of_getElem? hx)) (by omega) hI
    have hn0:=hI.1
    have hn1:=hI.2.1
    have hi':i<t.args.length:=by omega
    have hn2:=hI2.1
    have hn3:=hI2.2.1
    unfold Zjq
    cases b with
    | true =>
     simp (disch:=first|omega|(simp;done)|(simp;omega)) [hi,hi',hx,hy,hc,hpt,hn0,hn1,hn2,hn3,-getElem?_pos]
     exact ⟨l2,ks2,hI2,rfl,rfl⟩
    | false =>
     simp (disch:=first|omega|(simp;done)|(simp;omega)) [hi,hi',hx,hy,hc,hpt,hn0,hn1,hn2,hn3,-getElem?_pos]
     exact ⟨false,l2,ks2,hI2,rfl⟩
   ·rintro s ⟨l,ks,hI,rfl⟩
    unfold Zjq
    simp (disch:=first|omega|(simp;done)|(simp;omega)) [-getElem?_pos]
    exact ⟨true,l,ks,hI,rfl⟩
  have h2':p.kind=2→¬p.id<n:=fun a b=>h2 ⟨a,b⟩
  refine Zdh ⟨[(2,.sc (.arr 0 n)),(3,.sc (.arr 1 n)),(4,.sc (.ptr 64 0)),(5,.sc (.ptr 128 0))],[(0,some (.arr 5 (tyOs l) 0)),(1,some (.arr 1 (boOs ks) 0)),(64,some (.box (wc p.row))),(128,some (.box (wc t.row)))]⟩ (by simp) ?_
  refine Zdh ⟨[(2,.sc (.arr 0 n)),(3,.sc (.arr 1 n)),(4,.sc (.ptr 64 0)),(5,.sc (.ptr 128 0)),(19,ZaG false)],[(0,some (.arr 5 (tyOs l) 0)),(1,some (.arr 1 (boOs ks) 0)),(64,some (.box (wc p.row))),(128,some (.box (wc t.row)))]⟩ ?_ ?_
  ·by_cases hk2:p.kind=2
   ·have hid:=h2' hk2
    simp (disch:=first|omega|(simp;done)|(simp;omega)) [hk2,hid,hl,-getElem?_pos]
   ·simp (disch:=first|omega|(simp;done)|(simp;omega)) [hk2,-getElem?_pos]
  ·by_cases a1:p.kind=t.kind
   ·by_cases a2:p.name=t.name
    ·by_cases a3:p.id=t.id
     ·by_cases a4:p.home=t.home
      ·by_cases a5:p.args.length=t.args.length
       ·simp (disch:=first|omega|(simp;done)|(simp;omega)) [a1,a2,a3,a4,a5,-getElem?_pos]
        exact fin a5
       ·have a5':¬(p.args.length:Int)=t.args.length:=by omega
        simp (disch:=first|omega|(simp;done)|(simp;omega)) [a1,a2,a3,a4,a5,a5',-getElem?_pos]
        exact same
      ·simp (disch:=first|omega|(simp;done)|(simp;omega)) [a1,a2,a3,a4,-getElem?_pos]
       exact same
     ·simp (disch:=first|omega|(simp;done)|(simp;omega)) [a1,a2,a3,-getElem?_pos]
      exact same
    ·simp (disch:=first|omega|(simp;done)|(simp;omega)) [a1,a2,-getElem?_pos]
     exact same
   ·simp (disch:=first|omega|(simp;done)|(simp;omega)) [a1,-getElem?_pos]
    exact same
def InstR (r:V × List Obj):Prop:=∃ (w:List (List Cell))(b:Bool),r=(.tu [.sc (.c (.sl w)),ZaG b],[])
theorem ZiM {q:Nat}(n:Nat)(hn:n≤1073741)(c t:Ty)(hc:tyB 0 q c)(ht:t.size≤1073741824):∃ r,InstR r∧(K A).call 136 [schV n c,tyV t] []=some r:=by
 refine Zap _ (vf:=v136) (by kernel_rfl) rfl (by simp) ?_
 obtain ⟨_,⟨b,l,ks,⟨h1,h2,h3,h4⟩,rfl⟩,hcl⟩:=Ziv (A:=A) n (by omega) c t (List.replicate n none) (List.replicate n false) hc ht ⟨by simp,by simp,by simp,fun i hi=>by
  rw [List.getElem?_replicate] at hi
  split at hi<;>cases hi⟩
 have hr1:(List.replicate n (none:Option Ty)).length=n:=by simp
 have hr2:(List.replicate n false).length=n:=by simp
 generalize hL0:List.replicate n (none:Option Ty)=L0 at *
 generalize hK0:List.replicate n false=K0 at *
 have htc:=fun L d=>ZoU L d l
 unfold v136
 cases b with
 | true =>
  simp (disch:=first|omega|(simp;done)|(simp;omega)) [ZaI,Zjn,Zg6,hL0,hK0,hr1,hr2,hcl,h1,h2,htc,-getElem?_pos]
  exact ⟨_,true,rfl⟩
 | false =>
  simp (disch:=first|omega|(simp;done)|(simp;omega)) [ZaI,Zjn,Zg6,hL0,hK0,hr1,hr2,hcl,h1,h2,htc,-getElem?_pos]
  exact ⟨_,false,rfl⟩
variable {A:Zac}
def Zbf:List Str:=Zbe++[[119],[112],[113],[114],[115]]
theorem Zdg {s:Str}(h:s∈Zbe):s∈Zbf:=List.mem_append.2 (.inl h)
def mkS (ds:List DataD)(e:Exp):Prop :=
 (e.kind=1∧e.name∈Zbf∧e.kids=[]∧e.arms=[])∨(e.kind=2∧cOk ds e.name∧e.kids=[]∧e.arms=[])∨((e.kind=3∨e.kind=10)∧e.name=[]∧e.kids=[]∧e.arms=[]) ∨
 (e.kind=4∧e.name∈Zbf∧(∃ x,e.kids=[x])∧e.arms=[])∨(e.kind=5∧e.name=[]∧(∃ x y,e.kids=[x,y])∧e.arms=[])∨((e.kind=6∨e.kind=7)∧e.name∈Zbf∧(∃ x y,e.kids=[x,y])∧e.arms=[]) ∨
 ((e.kind=9∨e.kind=11)∧e.name=[]∧(∃ x,e.kids=[x])∧e.arms=[])∨(e.kind=8∧e.name=[]∧(∃ x,e.kids=[x])∧e.arms≠[])
def armM (ds:List DataD)(a:ArmH × Exp):Prop:=a.1.pos=0∧cOk ds a.1.con∧a.1.vars.length≤2∧a.1.vars.Nodup∧∀ v∈a.1.vars,v∈Zbf
def wrT (t:Ty):Prop:=tyS 0 t∧Ty.all (fun u=>u.kind≠3) t
def annT (e:Exp):Prop:=(e.kind≠9→e.ty=tz)∧(e.kind=9→wrT e.ty)
def numB (e:Exp):Prop:=(e.kind≠3→e.num=0)∧0≤e.num∧e.num≤999
def mkE1 (ds:List DataD)(e:Exp):Prop:=e.pos=0∧(∀ a∈e.arms,armM ds a)∧e.ty.size≤1073741824∧annT e∧numB e∧mkS ds e
def mkE (ds:List DataD)(e:Exp):Prop:=e.fold fun e l=>mkE1 ds e∧∀ p∈l,p
theorem Zln (ds:List DataD)(e:Exp):mkE ds e=(mkE1 ds e∧∀ x∈e.children,mkE ds x):=by
 have:=Exp.fold_eq (fun e (l:List Prop)=>mkE1 ds e∧∀ p∈l,p) e
 unfold mkE
 rw [this]
 simp only [List.forall_mem_map]
theorem Zgr (ds:List DataD) (k p n m ks l t):mkE ds (Exp.mk k p n m ks l t)=(mkE1 ds (Exp.mk k p n m ks l t)∧(∀ x∈ks,mkE ds x)∧∀ a∈l,mkE ds a.2):=by
 rw [Zln]
 simp only [Exp.kids,Exp.arms,Exp.children,List.mem_append,List.mem_map]
 apply propext
 constructor
 ·rintro ⟨h1,h2⟩
  exact ⟨h1,fun x hx=>h2 x (.inl hx),fun a ha=>h2 a.2 (.inr ⟨a,ha,rfl⟩)⟩
 ·rintro ⟨h1,h2,h3⟩
  refine ⟨h1,?_⟩
  rintro x (hx|⟨a,ha,rfl⟩)
  ·exact h2 x hx
  ·exact h3 a ha
theorem mkE.one {ds:List DataD}{e:Exp}(h:mkE ds e):mkE1 ds e:=by rw [Zln] at h;exact h.1
theorem mkE.child {ds:List DataD}{e x:Exp}(h:mkE ds e)(hx:x∈e.children):mkE ds x:=by rw [Zln] at h;exact h.2 x hx
theorem mkE1.wf1 {ds:List DataD}{e:Exp}(h:mkE1 ds e):e.wf1:=by
 obtain ⟨_,_,_,_,_,h⟩:=h
 unfold Exp.wf1
 rcases h with ⟨k,_,hk,ha⟩|⟨k,_,hk,ha⟩|⟨k,_,hk,ha⟩|⟨k,_,⟨x,hk⟩,ha⟩|⟨k,_,⟨x,y,hk⟩,ha⟩|⟨k,_,⟨x,y,hk⟩,ha⟩|⟨k,_,⟨x,hk⟩,ha⟩|⟨k,_,⟨x,hk⟩,ha⟩
 all_goals
  refine ⟨fun h => ?_,fun h => ?_,fun h => ?_⟩
  all_goals first | exact ha | exact hk | (rw [hk];rfl) | (exfalso;omega)
theorem mkE.wf {ds:List DataD}{e:Exp}:mkE ds e→e.wf:=by
 induction e using Exp.ind with
 | h e ih =>
  intro h
  rw [Exp.wf_eq]
  exact ⟨h.one.wf1,fun x hx=>ih x hx (h.child hx)⟩
theorem mkE.tyBd {ds:List DataD}{e:Exp}:mkE ds e→tyBd e:=by
 induction e using Exp.ind with
 | h e ih =>
  intro h
  rw [ZcA]
  exact ⟨h.one.2.2.1,fun x hx=>ih x hx (h.child hx)⟩
def ctxOk (n m:Nat)(l:List EntD):Prop:=l.length≤n∧∀ x∈l,x.name∈Zbf∧(∃ c:Nat,x.count=c∧c≤900)∧tyB 0 x.count.toNat x.ty∧x.ty.size≤m
theorem Zcg (l:List EntD):∀ (i:Nat),∀ x∈ZbQ l i,x∈l
 | 0,x,hx=>by simp [ZbQ] at hx
 | i+1,x,hx=>by
  unfold ZbQ at hx
  split at hx
  ·exact Zcg l i x hx
  ·rename_i e he
   split at hx
   ·exact Zcg l i x hx
   ·rcases List.mem_append.1 hx with hx|hx
    ·exact Zcg l i x hx
    ·simp only [List.mem_singleton] at hx
     exact hx▸List.mem_of_getElem? he
def MkR (L:List Int)(ds:List DataD)(B:Nat)(r:V × List Obj):Prop:=∃ e J,mkE ds e∧e.weight≤B∧J≤L.length∧r=(expV e,[Zan L J])
theorem ZeB {ds:List DataD}{k num:Int}{s:Str}(h:mkE1 ds (.mk k 0 s num [] [] tz)):mkE ds (.mk k 0 s num [] [] tz):=by
 rw [Zgr]
 exact ⟨h,by simp,by simp⟩
theorem Zbu (k num:Int)(s:Str):(Exp.mk k 0 s num [] [] tz).row=[.int .i64 k,.int .i64 0,.str s,.int .i64 num,.sl [],.sl [],.int .i64 0,.str [],.int .i64 0,.int .i64 0,.sl []]:=by
 simp [Exp.row,tz,Ty.kind,Ty.name,Ty.id,Ty.home,Ty.args]
theorem ZbC (k num:Int)(s:Str):(Exp.mk k 0 s num [] [] tz).weight≤1:=by
 rw [ZaX]
 simp
theorem Zj1 (L:List Int)(ds:List DataD)(hL:L.length≤1073741824){n m:Nat}(hn:n≤1000000)(ctx:List EntD)(hctx:ctxOk n m ctx)(goal:Ty)(hg:goal.size≤1073741824)(I:Nat)(hI:I≤L.length) :
 ∃ r,MkR L ds 1 r∧(K A).call 83 [.sc (.ptr 0 0),Zal ds,Zbv ctx,tyV goal] [Zan L I]=some r:=by
 obtain ⟨hc1,hc2⟩:=hctx
 have hs:=ZlK (A:=A) ctx (by omega)
 have hsl:=ZcR ctx ctx.length
 have hsub:=Zcg ctx ctx.length
 generalize ZbQ ctx ctx.length=l at *
 have hi:=Zf2 (A:=A)
 obtain ⟨_,⟨eb,rfl⟩,heq⟩:=Znk (A:=A) 1073741824 goal (.mk 4 [73,110,116] 0 0 []) hg (by omega)
 have hole:∀ J,J≤L.length→MkR L ds 1 (expV (.mk 10 0 [] 0 [] [] tz),[Zan L J]):=fun J hJ =>
  ⟨_,J,ZeB (by simp [mkE1,mkS,annT,numB,Exp.kind,Exp.pos,Exp.name,Exp.num,Exp.kids,Exp.arms,Exp.ty,tz,Ty.size_leaf]),ZbC _ _ _,hJ,rfl⟩
 refine Zap _ (vf:=v83) (by kernel_rfl) rfl (by simp) ?_
 unfold v83
 simp (disch:=first|omega|(simp;done)|(simp;omega)) [hs]
 refine Zaf (fun i st=>∃ fs:List Str,fs.length≤i∧(∀ s∈fs,s∈Zbf)∧st=⟨[(0,.sc (.ptr 0 0)),(7,.sc (.ptr 64 0)),(8,.sc (.ptr 128 0)),(9,.sc (.arr 193 fs.length)),(10,Zbv l),(11,intV i)],
  [(0,some (Zan L I)),(64,some (.box (wc goal.row))),(128,some (.box [zi,zi,zs,zi,.nil,.nil,zi,zs,zi,zi,.nil])),(193,some (.arr 1 (wr (Zaz fs)) 0))]⟩) l.length ⟨[],by simp,by simp,by simp⟩ ?_ ?_
 ·rintro i st hi2 ⟨fs,hf1,hf2,rfl⟩
  obtain ⟨x,hx⟩:=Zaa hi2
  obtain ⟨x1,⟨c,hc,hcl⟩,x3,x4⟩:=hc2 x (hsub x (List.mem_of_getElem? hx))
  obtain ⟨_,⟨w,b,rfl⟩,hin⟩:=ZiM (A:=A) c (by omega) x.ty goal x3 hg
  rw [←hc] at hin
  unfold ZrB
  cases b with
  | true =>
   simp (disch:=first|omega|(simp;done)|(simp;omega)) [hi2,hx,hin,-getElem?_pos]
   refine ⟨fs++[x.name],by simp;omega,?_,by simp⟩
   intro s hs
   rcases List.mem_append.1 hs with hs|hs
   ·exact hf2 s hs
   ·simp only [List.mem_singleton] at hs
    exact hs▸x1
  | false =>
   simp (disch:=first|omega|(simp;done)|(simp;omega)) [hi2,hx,hin,-getElem?_pos]
   exact ⟨fs,by omega,hf2,by simp⟩
 ·rintro st ⟨fs,hf1,hf2,rfl⟩
  unfold ZrB
  by_cases hf:fs=[]
  ·subst hf
   cases eb with
   | false =>
    simp (disch:=first|omega|(simp;done)|(simp;omega)) [hi,heq,-getElem?_pos]
    exact hole I hI
   | true =>
    obtain ⟨k2,J1,hk2,hJ1,hc2⟩:=ZaL (A:=A) L I 4 hI hL (by omega) (by omega)
    by_cases hk20:0<k2
    ·obtain ⟨q,J2,hq,hJ2,hcq⟩:=ZaL (A:=A) L J1 3 hJ1 hL (by omega) (by omega)
     simp (disch:=first|omega|(simp;done)|(simp;omega)) [hi,heq,hc2,hk20,hcq,-getElem?_pos]
     exact ⟨.mk 3 0 [] q [] [] tz,J2,ZeB (by simp [mkE1,mkS,annT,numB,Exp.kind,Exp.pos,Exp.name,Exp.num,Exp.kids,Exp.arms,Exp.ty,tz,Ty.size_leaf];omega),ZbC _ _ _,hJ2,by simp [expV,Zbu]⟩
    ·simp (disch:=first|omega|(simp;done)|(simp;omega)) [hi,heq,hc2,hk20,-getElem?_pos]
     exact hole J1 hJ1
  ·have hpos:0<fs.length:=List.length_pos_iff.2 hf
   obtain ⟨k,J,hk,hJ,hc⟩:=ZaL (A:=A) L I 6 hI hL (by omega) (by omega)
   by_cases hk0:0<k
   ·obtain ⟨q,J2,hq,hJ2,hcq⟩:=ZaL (A:=A) L J fs.length hJ hL (by omega) (by omega)
    obtain ⟨s,hsq⟩:=Zaa (l:=fs) (i:=q) (by omega)
    have hsn:=hf2 s (List.mem_of_getElem? hsq)
    simp (disch:=first|omega|(simp;done)|(simp;omega)) [hpos,hc,hk0,hcq,hsq,-getElem?_pos]
    exact ⟨.mk 1 0 s 0 [] [] tz,J2,ZeB (by simp [mkE1,mkS,annT,numB,Exp.kind,Exp.pos,Exp.name,Exp.num,Exp.kids,Exp.arms,Exp.ty,tz,Ty.size_leaf,hsn]),ZbC _ _ _,hJ2,by simp [expV,Zbu]⟩
   ·have hk1:k=0:=by omega
    cases eb with
    | false =>
     simp (disch:=first|omega|(simp;done)|(simp;omega)) [hpos,hc,hk0,hi,heq,-getElem?_pos]
     exact hole J hJ
    | true =>
     obtain ⟨k2,J1,hk2,hJ1,hc2⟩:=ZaL (A:=A) L J 4 hJ hL (by omega) (by omega)
     by_cases hk20:0<k2
     ·obtain ⟨q,J2,hq,hJ2,hcq⟩:=ZaL (A:=A) L J1 3 hJ1 hL (by omega) (by omega)
      simp (disch:=first|omega|(simp;done)|(simp;omega)) [hpos,hc,hk0,hi,heq,hc2,hk20,hcq,-getElem?_pos]
      exact ⟨.mk 3 0 [] q [] [] tz,J2,ZeB (by simp [mkE1,mkS,annT,numB,Exp.kind,Exp.pos,Exp.name,Exp.num,Exp.kids,Exp.arms,Exp.ty,tz,Ty.size_leaf];omega),ZbC _ _ _,hJ2,by simp [expV,Zbu]⟩
     ·simp (disch:=first|omega|(simp;done)|(simp;omega)) [hpos,hc,hk0,hi,heq,hc2,hk20,-getElem?_pos]
      exact hole J1 hJ1
end Go.Vs.Tryz
namespace Go.Vs
open Go
structure SlotD where
 bound:Bool
 ty:Ty
 home:Int
 base:Bool
structure ChgD where
 id:Int
 old:SlotD
 isNew:Bool
def ZbN (s:SlotD):List Cell:=[.bool s.bound,.int .i64 s.ty.kind,.str s.ty.name,.int .i64 s.ty.id,.int .i64 s.ty.home,.sl (Ty.rows s.ty.args),.int .i64 s.home,.bool s.base]
def Zpf (c:ChgD):List Cell:=[.int .i64 c.id,.bool c.old.bound,.int .i64 c.old.ty.kind,.str c.old.ty.name,.int .i64 c.old.ty.id,.int .i64 c.old.ty.home,.sl (Ty.rows c.old.ty.args),.int .i64 c.old.home,.bool c.old.base,.bool c.isNew]
def ZaT (l:List SlotD):List (List Cell):=l.map ZbN
def ZaZ (l:List ChgD):List (List Cell):=l.map Zpf
@[simp] theorem slRow_len (s:SlotD):(ZbN s).length=8:=rfl
@[simp] theorem chRow_len (s:ChgD):(Zpf s).length=10:=rfl
@[simp] theorem slRows_len (l:List SlotD):(ZaT l).length=l.length:=by simp [ZaT]
@[simp] theorem chRows_len (l:List ChgD):(ZaZ l).length=l.length:=by simp [ZaZ]
@[simp] theorem slRows_get (l:List SlotD) (i:Nat):(ZaT l)[i]?=(l[i]?).map ZbN:=by simp [ZaT]
@[simp] theorem okRows_sl (l:List SlotD):ZaM 8 (wr (ZaT l))=true:=Za2 l slRow_len
@[simp] theorem okRows_ch (l:List ChgD):ZaM 10 (wr (ZaZ l))=true:=Za2 l chRow_len
@[simp] theorem slRows0:ZaT []=[]:=rfl
@[simp] theorem chRows0:ZaZ []=[]:=rfl
section
variable (s:SlotD)
@[simp] theorem cut_sl0:cut (ZbN s) 0 1=some [.bool s.bound]:=rfl
@[simp] theorem cut_sl1:cut (ZbN s) 1 5=some s.ty.row:=by rw [Ty.row_eq];rfl
@[simp] theorem cut_sl6:cut (ZbN s) 6 1=some [.int .i64 s.home]:=rfl
@[simp] theorem cut_sl7:cut (ZbN s) 7 1=some [.bool s.base]:=rfl
@[simp] theorem cut_sl:cut (ZbN s) 0 8=some (ZbN s):=rfl
@[simp] theorem cutw_sl0:cut (wc (ZbN s)) 0 1=some [.c (.bool s.bound)]:=rfl
@[simp] theorem cutw_sl1:cut (wc (ZbN s)) 1 5=some (wc s.ty.row):=by rw [Ty.row_eq];rfl
@[simp] theorem cutw_sl6:cut (wc (ZbN s)) 6 1=some [.c (.int .i64 s.home)]:=rfl
@[simp] theorem cutw_sl7:cut (wc (ZbN s)) 7 1=some [.c (.bool s.base)]:=rfl
@[simp] theorem cutw_sl:cut (wc (ZbN s)) 0 8=some (wc (ZbN s)):=rfl
end
structure StoD where
 slots:List SlotD
 trail:List ChgD
end Go.Vs
namespace Go.Vs.Tryz
open Go Go.Vs
variable {A:Zac}
abbrev stoV (s:StoD):V:=.ag [.c (.sl (ZaT s.slots)),.c (.sl (ZaZ s.trail))]
def stoOk (n:Nat)(s:StoD):Prop:=s.slots.length=n∧n≤1000∧s.trail.length≤1000000∧∀ x∈s.slots,x.bound=true→tyS n x.ty∧x.ty.size≤1073741824∧x.ty.kind≠1
def Zbi (s:StoD)(t:Ty):Ty:=if t.kind=1 then (match s.slots[t.id.toNat]? with
 | some x=>if x.bound then x.ty else t
 | none=>t) else t
def ext (s s':StoD):Prop:=∀ (i:Nat) x,s.slots[i]?=some x→x.bound=true→∃ y,s'.slots[i]?=some y∧y.bound=true∧y.ty=x.ty
theorem ext.refl (s:StoD):ext s s:=fun _ x h hb=>⟨x,h,hb,rfl⟩
theorem ext.trans {a b c:StoD}(h1:ext a b)(h2:ext b c):ext a c:=fun i x hx hb=>by
 obtain ⟨y,hy,hyb,hyt⟩:=h1 i x hx hb
 obtain ⟨z,hz,hzb,hzt⟩:=h2 i y hy hyb
 exact ⟨z,hz,hzb,hzt.trans hyt⟩
theorem ext.set {s:StoD}{i:Nat}{x:SlotD}{T:List ChgD}(h:∀ y,s.slots[i]?=some y→y.bound=true→x.bound=true∧x.ty=y.ty):ext s ⟨s.slots.set i x,T⟩:=fun j y hy hb=>by
 have hj:=(List.getElem?_eq_some_iff.1 hy).1
 by_cases hji:i=j
 ·subst hji
  obtain ⟨h1,h2⟩:=h y hy hb
  exact ⟨x,by rw [List.getElem?_set_self hj],h1,h2⟩
 ·exact ⟨y,by rw [List.getElem?_set_ne hji];exact hy,hb,rfl⟩
theorem ext.app {s:StoD}{l:List SlotD}{T:List ChgD}:ext s ⟨s.slots++l,T⟩:=fun j y hy hb =>
 ⟨y,by rw [List.getElem?_append_left (List.getElem?_eq_some_iff.1 hy).1];exact hy,hb,rfl⟩
theorem Zfa {s:StoD}{t:Ty}(h:t.kind≠1):Zbi s t=t:=by unfold Zbi;rw [if_neg h]
theorem ZcQ {s:StoD}{t:Ty}{i:Nat}{x:SlotD}(hk:t.kind=1)(hi:t.id=i)(hx:s.slots[i]?=some x)(hb:x.bound=true):Zbi s t=x.ty:=by
 unfold Zbi
 rw [if_pos hk,hi,Int.toNat_natCast,hx]
 simp only [hb,if_true]
theorem ZfV {s:StoD}{t:Ty}{i:Nat}{x:SlotD}(hi:t.id=i)(hx:s.slots[i]?=some x)(hb:x.bound=false):Zbi s t=t:=by
 unfold Zbi
 split
 ·rw [hi,Int.toNat_natCast,hx]
  simp [hb]
 ·rfl
theorem Ze0 {n:Nat}{s:StoD}(hs:stoOk n s){t:Ty}(ht:tyS n t)(hk:(Zbi s t).kind=1):Zbi s t=t∧t.kind=1∧∃ (i:Nat)(x:SlotD),t.id=i∧i<n∧s.slots[i]?=some x∧x.bound=false:=by
 obtain ⟨h1,h2,h3,h4⟩:=hs
 by_cases ht1:t.kind=1
 ·obtain ⟨g1,g2,_⟩:=ht.one.1 ht1
  obtain ⟨i,hi⟩:∃ i:Nat,t.id=i:=⟨t.id.toNat,by omega⟩
  obtain ⟨x,hx⟩:=Zaa (l:=s.slots) (i:=i) (by omega)
  cases hb:x.bound with
  | true =>
   rw [ZcQ ht1 hi hx hb] at hk
   exact absurd hk (h4 x (List.mem_of_getElem? hx) hb).2.2
  | false=>exact ⟨ZfV hi hx hb,ht1,i,x,hi,by omega,hx,hb⟩
 ·rw [Zfa ht1] at hk
  exact absurd hk ht1
theorem ZoA {n:Nat}{s s':StoD}(hs:stoOk n s)(he:ext s s'){t:Ty}(ht:tyS n t)(hk:(Zbi s t).kind≠1):Zbi s' t=Zbi s t:=by
 by_cases ht1:t.kind=1
 ·obtain ⟨g1,g2,_⟩:=ht.one.1 ht1
  have h1:=hs.1
  obtain ⟨i,hi⟩:∃ i:Nat,t.id=i:=⟨t.id.toNat,by omega⟩
  obtain ⟨x,hx⟩:=Zaa (l:=s.slots) (i:=i) (by omega)
  cases hb:x.bound with
  | true =>
   obtain ⟨y,hy,hyb,hyt⟩:=he i x hx hb
   rw [ZcQ ht1 hi hx hb,ZcQ ht1 hi hy hyb,hyt]
  | false =>
   rw [ZfV hi hx hb] at hk
   exact absurd ht1 hk
 ·rw [Zfa ht1,Zfa ht1]
theorem ZjL {n:Nat}{s:StoD}(hs:stoOk n s){t:Ty}(ht:tyS n t)(hl:t.size≤1073741824):tyS n (Zbi s t)∧(Zbi s t).size≤1073741824:=by
 unfold Zbi
 split
 ·split
  ·rename_i x hx
   split
   ·rename_i hb
    obtain ⟨g1,g2,_⟩:=hs.2.2.2 x (List.mem_of_getElem? hx) hb
    exact ⟨g1,g2⟩
   ·exact ⟨ht,hl⟩
  ·exact ⟨ht,hl⟩
 ·exact ⟨ht,hl⟩
inductive Res (s:StoD):Ty→Ty→Prop
 | mk (t:Ty) (us:List Ty) (hl:us.length=(Zbi s t).args.length) (h:∀ (j:Nat) x y,(Zbi s t).args[j]?=some x→us[j]?=some y→Res s x y):Res s t (.mk (Zbi s t).kind (Zbi s t).name (Zbi s t).id (Zbi s t).home us)
theorem Res.two {s:StoD}{t v a b:Ty}(h:Res s t v)(hab:(Zbi s t).args=[a,b]):∃ v1 v2,Res s a v1∧Res s b v2∧v1.size≤v.size∧v2.size≤v.size:=by
 cases h with
 | mk _ us hl h =>
  rw [hab] at hl h
  obtain ⟨v1,v2,rfl⟩:∃ v1 v2,us=[v1,v2]:=by
   match us,hl with
   | [v1,v2],_=>exact ⟨v1,v2,rfl⟩
  have hz:(Ty.mk (Zbi s t).kind (Zbi s t).name (Zbi s t).id (Zbi s t).home [v1,v2]).size=1+(v1.size+(v2.size+0)):=by rw [Ty.size_eq];simp [Ty.args]
  exact ⟨v1,v2,h 0 a v1 rfl rfl,h 1 b v2 rfl rfl,by omega,by omega⟩
theorem new213:(K A).call 213 [] []=some (stoV ⟨[],[]⟩,[]):=by
 refine ZaW (vf:=v213) (by kernel_rfl) rfl (by simp) ?_
 unfold v213
 simp (disch:=first|omega|(simp;done)|(simp;omega))
def bndB (s:StoD)(t:Ty):Prop:=t.kind=1∧∃ (i:Nat)(x:SlotD),t.id=i∧s.slots[i]?=some x∧x.bound=true
theorem Zo0 (s:StoD)(hs:s.slots.length≤1000)(t:Ty):∃ r,IffB (bndB s t) r∧(K A).call 251 [stoV s,tyV t] []=some r:=by
 refine Zap _ (vf:=v251) (by kernel_rfl) rfl (by simp) ?_
 unfold v251
 by_cases h1:t.kind=1
 ·by_cases h2:0≤t.id
  ·obtain ⟨i,hi⟩:∃ i:Nat,t.id=i:=⟨t.id.toNat,by omega⟩
   by_cases h3:i<s.slots.length
   ·obtain ⟨x,hx⟩:=Zaa h3
    cases hb:x.bound with
    | true =>
     simp (disch:=first|omega|(simp;done)|(simp;omega)) [h1,hi,h3,hx,hb,-getElem?_pos]
     exact IffB.yes ⟨h1,i,x,hi,hx,hb⟩
    | false =>
     simp (disch:=first|omega|(simp;done)|(simp;omega)) [h1,hi,h3,hx,hb,-getElem?_pos]
     refine IffB.no ?_
     rintro ⟨_,j,y,hj,hy,hb2⟩
     obtain rfl:j=i:=by omega
     rw [hx] at hy
     cases hy
     rw [hb] at hb2
     cases hb2
   ·simp (disch:=first|omega|(simp;done)|(simp;omega)) [h1,hi,h3,-getElem?_pos]
    refine IffB.no ?_
    rintro ⟨_,j,y,hj,hy,hb2⟩
    have:=(List.getElem?_eq_some_iff.1 hy).1
    omega
  ·simp (disch:=first|omega|(simp;done)|(simp;omega)) [h1,h2,-getElem?_pos]
   refine IffB.no ?_
   rintro ⟨_,j,y,hj,hy,hb2⟩
   omega
 ·simp (disch:=first|omega|(simp;done)|(simp;omega)) [h1,-getElem?_pos]
  exact IffB.no fun h=>h1 h.1
end Go.Vs.Tryz
namespace Go.Vs
open Go
theorem Zir {α β:Type}{f:α→Option β}:∀ {a b:List α}{x:List β},Zad f a=some x→Zad f (a++b)=(Zad f b).map (x++·)
 | [],b,x,h=>by
  cases h
  cases hb:Zad f b<;>simp [hb]
 | y::a,b,x,h=>by
  simp only [Zad] at h
  cases hy:f y with
  | none=>rw [hy] at h;cases h
  | some z =>
   rw [hy] at h
   cases ha:Zad f a with
   | none=>rw [ha] at h;cases h
   | some w =>
    rw [ha] at h
    cases h
    have ih:=Zir (b:=b) ha
    simp only [List.cons_append,Zad,hy,ih]
    cases Zad f b<;>rfl
@[simp] theorem listM_wr_app (L:Nat→Option Obj) (d:Nat) (r:List (List Cell)) (m:List (List W)):Zad (Zad (W.toC L d)) (wr r++m)=(Zad (Zad (W.toC L d)) m).map (r++·):=Zir (wr_toC L d r)
end Go.Vs
namespace Go.Vs.Tryz
open Go Go.Vs
variable {A:Zac}
def Za3 (h:Int)(b:Bool):SlotD:=⟨false,.mk 0 [] 0 0 [],h,b⟩
theorem ZgW (s:StoD)(hs:s.slots.length≤1000)(ht:s.trail.length≤1000000)(h:Int)(b:Bool):(K A).call 214 [stoV s,intV h,ZaG b] []=some (.tu [stoV ⟨s.slots++[Za3 h b],s.trail++[⟨s.slots.length,Za3 0 false,true⟩]⟩,tyV (.mk 1 [] s.slots.length 0 [])],[]):=by
 have hv:=Zmg (A:=A) s.slots.length
 refine ZaW (vf:=v214) (by kernel_rfl) rfl (by simp) ?_
 unfold v214
 obtain ⟨sl,tr⟩:=s
 have close1:ZaT (sl++[Za3 h b])=ZaT sl++[[.bool false,.int .i64 0,.str [],.int .i64 0,.int .i64 0,.sl [],.int .i64 h,.bool b]]:=by
  simp [ZaT,ZbN,Za3,Ty.kind,Ty.name,Ty.id,Ty.home,Ty.args]
 have close2:ZaZ (tr++[⟨sl.length,Za3 0 false,true⟩])=ZaZ tr++[[.int .i64 sl.length,.bool false,.int .i64 0,.str [],.int .i64 0,.int .i64 0,.sl [],.int .i64 0,.bool false,.bool true]]:=by
  simp [ZaZ,Zpf,Za3,Ty.kind,Ty.name,Ty.id,Ty.home,Ty.args]
 have okA:=okRows_sl sl
 have okB:=okRows_ch tr
 have lenA:=slRows_len sl
 have lenB:=chRows_len tr
 simp only [stoV] at hs ht hv ⊢
 rw [close1,close2]
 generalize ZaT sl=sr at *
 generalize ZaZ tr=cr at *
 cases sr with
 | nil =>
  simp only [List.length_nil] at lenA
  rw [←lenA] at hv ⊢
  replace hv:(K A).call 212 [intV 0] []=some (tyV (Ty.mk 1 [] 0 0 []),[]):=hv
  cases cr with
  | nil=>simp (disch:=first|omega|(simp;done)|(simp;omega)) [hv,-getElem?_pos]
  | cons c r =>
   rw [wr_cons] at okB
   simp only [List.length_cons] at lenB
   simp (disch:=first|omega|(simp;done)|(simp;omega)) [hv,okB,-getElem?_pos]
 | cons x l =>
  rw [wr_cons] at okA
  simp only [List.length_cons] at lenA
  rw [←lenA] at hv ⊢
  replace hv:(K A).call 212 [intV ((l.length:Int)+1)] []=some (tyV (Ty.mk 1 [] ((l.length:Int)+1) 0 []),[]):=hv
  cases cr with
  | nil=>simp (disch:=first|omega|(simp;done)|(simp;omega)) [hv,okA,-getElem?_pos]
  | cons c r =>
   rw [wr_cons] at okB
   simp only [List.length_cons] at lenB
   simp (disch:=first|omega|(simp;done)|(simp;omega)) [hv,okA,okB,-getElem?_pos]
theorem Zfj (rows:List (List Cell))(i:Nat)(c:List Cell):setRow (wr rows) i (wc c)=wr (rows.set i c):=by
 rw [ZdT]
 simp [wr,List.map_set]
theorem Zih (c d:List Cell)(hc:c.length=8)(hd:d.length=8):splice (wc c) 0 (wc d)=some (wc d):=by
 unfold splice
 simp [hc,hd]
theorem ZmW (a b c d e f g h k:W)(s:SlotD):splice [a,b,c,d,e,f,g,h,k] 0 (wc (ZbN s))=some (wc (ZbN s++[])++[k]):=by
 unfold splice
 simp
theorem Zhj (s:SlotD):wc (ZbN s)=[.c (.bool s.bound),.c (.int .i64 s.ty.kind),.c (.str s.ty.name),.c (.int .i64 s.ty.id),.c (.int .i64 s.ty.home),.c (.sl (Ty.rows s.ty.args)),.c (.int .i64 s.home),.c (.bool s.base)]:=rfl
theorem Zlc (s:StoD)(hs:s.slots.length≤1000)(ht:s.trail.length≤1000000)(i:Nat)(y:SlotD)(hy:s.slots[i]?=some y)(x:SlotD):(K A).call 231 [stoV s,intV i,.ag (wc (ZbN x))] []=some (.tu [stoV ⟨s.slots.set i x,s.trail++[⟨i,y,false⟩]⟩,ZaG true],[]):=by
 refine ZaW (vf:=v231) (by kernel_rfl) rfl (by simp) ?_
 unfold v231
 obtain ⟨sl,tr⟩:=s
 have close1:ZaT (sl.set i x)=(ZaT sl).set i (ZbN x):=by simp [ZaT,List.map_set]
 have close2:ZaZ (tr++[⟨i,y,false⟩])=ZaZ tr++[[.int .i64 i,.bool y.bound,.int .i64 y.ty.kind,.str y.ty.name,.int .i64 y.ty.id,.int .i64 y.ty.home,.sl (Ty.rows y.ty.args),.int .i64 y.home,.bool y.base,.bool false]]:=by
  simp [ZaZ,Zpf]
 have hin:=(List.getElem?_eq_some_iff.1 hy).1
 simp only at hin hs ht hy
 have hrow:(ZaT sl)[i]?=some (ZbN y):=by rw [slRows_get,hy];rfl
 have okA:=okRows_sl sl
 have okB:=okRows_ch tr
 have lenA:=slRows_len sl
 have lenB:=chRows_len tr
 simp only [stoV]
 rw [close1,close2]
 generalize ZaT sl=sr at *
 generalize ZaZ tr=cr at *
 cases sr with
 | nil=>simp at hrow
 | cons a l =>
  rw [wr_cons] at okA
  simp only [List.length_cons] at lenA
  have hi0:¬(i:Int)<0:=by omega
  have hi2:¬(l.length:Int)+1≤(i:Int):=by omega
  have hi1:i<l.length+1:=by omega
  have hrw:(wc a::wr l)[i]?=some (wc (ZbN y)):=by rw [←wr_cons,wr_get,hrow];rfl
  have hsr:∀ c,setRow (wc a::wr l) i (wc c)=wr ((a::l).set i c):=fun c=>by rw [←wr_cons];exact Zfj _ _ _
  cases cr with
  | nil =>
   simp (disch:=first|omega|(simp;done)|(simp;omega)) [okA,hi0,hi2,hi1,hrow,hrw,hsr,elOk,Zih,ZmW,Zhj y,-getElem?_pos,-List.set_cons_zero,-List.set_cons_succ]
  | cons c r =>
   rw [wr_cons] at okB
   simp only [List.length_cons] at lenB
   simp (disch:=first|omega|(simp;done)|(simp;omega)) [okA,okB,hi0,hi2,hi1,hrow,hrw,hsr,elOk,Zih,ZmW,Zhj y,-getElem?_pos]
end Go.Vs.Tryz
