/- Numbers as text and fresh names by the reference, walked. (Parts of one proof, put together.) -/
import Derived.Test.YtlcncicmkkelcaaGreatDoorR1s
set_option linter.unusedSimpArgs false
set_option linter.unusedVariables false
set_option linter.deprecated false
namespace Go.Vs
open Go
section
variable {C:Ctx}{E:Nat→Option V}{L:Nat→Option Obj}{oid:Nat}
@[simp] theorem b_quo {k:IntKind} {a b:Int} (h:b≠0):binV .quo 0 (.sc (.c (.int k a))) (.sc (.c (.int k b)))=some (.sc (.c (.int k (k.wrap (a.tdiv b)))),[]):=by simp [binV,binW,isShift,intBin,h,wrapI]
@[simp] theorem x_slS {x:Opd} {lo hi:Option Opd}:exec1 C E L oid (.slS x lo hi)=(match x.val C E with
 | .sc (.c (.str s))=>match boundOr (hi.map (·.val C E)) s.length s.length with
  | none=>none
  | some h=>(boundOr (lo.map (·.val C E)) 0 h).map fun l=>(.sc (.c (.str ((s.take h).drop l))),[])
 | _=>none):=rfl
end
end Go.Vs
namespace Go.Vs.Tryz
open Go Go.Vs
variable {A:Oracle}
def digits:Str:=[48,49,50,51,52,53,54,55,56,57]
theorem number26 (n:Nat)(h0:n≠0)(h:n≤1073741824):(K A).call 26 [intV n] []=some (strV (numS n),[]):=by
 refine fn_of (vf:=v26) (by kernel_rfl) rfl (by simp) ?_
 have h0':¬(n:Int)=0:=by omega
 have hneg:¬(n:Int)<0:=by omega
 have hlen:=numS_len n 10 (by omega) (by omega)
 unfold v26
 simp (disch:=first|omega|(simp;done)|(simp;omega)) [h0,h0',-getElem?_pos]
 refine wp_loopI (fun i s=>∃ (k:Nat) (t:Str),k≤n∧t.length=i∧(if k=0 then numS n=t else numS n=numS k++t)∧s=⟨[(0,intV n),(3,strV t),(4,intV k)],[]⟩) (numS n).length ⟨n,[],Nat.le_refl _,rfl,by simp [h0],by first | rfl | simp⟩ ?_ ?_
 ·rintro i s hi ⟨k,t,hk,ht,he,rfl⟩
  have hk0:k≠0:=by
   rintro rfl
   rw [if_pos rfl] at he
   rw [he] at hi
   omega
  rw [if_neg hk0] at he
  have hk0':¬(k:Int)=0:=by omega
  obtain ⟨d,hd,hd10⟩:∃ d,d=k % 10∧d<10:=⟨k % 10,rfl,Nat.mod_lt _ (by omega)⟩
  have hmod:(k:Int).tmod 10=(d:Int):=by rw [Int.tmod_eq_emod_of_nonneg (by omega)];omega
  have hdiv:(k:Int).tdiv 10=((k / 10:Nat):Int):=by rw [Int.tdiv_eq_ediv_of_nonneg (by omega)];omega
  have hb1:boundOr (some (intV ((d:Int)+1))) 10 10=some (d+1):=natBelow_cast (k:=.i64) (n:=d+1) (by omega)
  have hb2:boundOr (some (intV (d:Int))) 0 (d+1)=some d:=natBelow_cast (k:=.i64) (n:=d) (by omega)
  have hdr:∀ d:Nat,d<10→List.drop d (48::List.take d [49,50,51,52,53,54,55,56,57])=[UInt8.ofNat (48+d)]:=by decide
  have hdd:=hdr d hd10
  have hnd:¬(d:Int)<0:=by omega
  have hnext:if k / 10=0 then numS n=UInt8.ofNat (48+d)::t else numS n=numS (k / 10)++UInt8.ofNat (48+d)::t:=by
   by_cases h10:k<10
   ·rw [if_pos (by omega),he,numS_lt h10,hd,Nat.mod_eq_of_lt h10]
    rfl
   ·rw [if_neg (by omega),he,numS_ge h10,hd]
    simp
  have htl:t.length≤10:=by omega
  unfold l26_0
  simp (disch:=first|omega|(simp;done)|(simp;omega)) [hk0,hk0',hnd,hmod,hdiv,hb1,hb2,hdd,-getElem?_pos]
  exact ⟨k / 10,by omega,UInt8.ofNat (48+d)::t,by simp [ht],hnext,by simp⟩
 ·rintro s ⟨k,t,hk,ht,he,rfl⟩
  have hk0:k=0:=by
   by_cases hk0:k=0
   ·exact hk0
   ·rw [if_neg hk0] at he
    have:=numS_pos k
    rw [he] at ht
    simp at ht
    rw [ht] at this
    simp at this
  subst hk0
  rw [if_pos rfl] at he
  unfold l26_0
  simp (disch:=first|omega|(simp;done)|(simp;omega)) [hneg,he,-getElem?_pos]
theorem fresh29 (n:Nat)(taken:List Str)(hn:n≤1000000)(ht:taken.length≤1000000):(K A).call 29 [intV n,strsV taken] []=some (strV (freshS n taken),[]):=by
 refine fn_of (vf:=v29) (by kernel_rfl) rfl (by simp) ?_
 have hmx:(if (0:Int)>(n:Int) then (0:Int) else (n:Int))=n:=by rw [if_neg (by omega)]
 have hge:=freshF_ge taken (n+taken.length+1) 1 n
 have hle:=freshK_le n taken
 have hnot:=freshS_not n taken
 have hkdef:freshK n taken=freshF taken (n+taken.length+1) 1 n:=rfl
 unfold v29
 simp (disch:=first|omega|(simp;done)|(simp;omega)) [hmx,-getElem?_pos]
 refine wp_loopI (fun i s=>∃ j:Nat,j≤n∧i≤n+taken.length∧freshF taken (n+taken.length+1-i) (1+i) j=freshK n taken∧j+vCount taken (1+i)<n+taken.length+1-i∧s=⟨[(0,intV j),(1,strsV taken),(5,intV ((i:Int)+1))],[]⟩) (freshK n taken-1)
  ⟨n,Nat.le_refl _,by omega,rfl,by have:=vCount_le taken 1;simp only [Nat.add_zero,Nat.sub_zero];omega,by simp⟩ ?_ ?_
 ·rintro i s hi ⟨j,hj,hin,hf,hlt,rfl⟩
  have hnum:=number26 (A:=A) (i+1) (by omega) (by omega)
  have hlen:=numS_len (i+1) 10 (by omega) (by omega)
  have hhas:=has64 (A:=A) taken (vName (i+1)) (by omega)
  have hv:vName (i+1)=118::numS (i+1):=rfl
  obtain ⟨f,hfe⟩:∃ f,n+taken.length+1-i=f+1:=⟨n+taken.length-i,by omega⟩
  rw [hfe,Nat.add_comm 1 i,freshF] at hf
  rw [hfe,Nat.add_comm 1 i] at hlt
  rw [show (((i+1:Nat):Int))=(i:Int)+1 by omega] at hnum
  rw [hv] at hhas
  unfold l29_0
  by_cases hm:vName (i+1)∈taken
  ·rw [if_pos hm] at hf
   have hm':=hm
   rw [hv] at hm'
   have hcl:=vCount_lt hm
   simp (disch:=first|omega|(simp;done)|(simp;omega)) [hnum,hhas,hm',-getElem?_pos]
   exact ⟨j,hj,by omega,by rw [show n+taken.length-i=f by omega,show 1+(i+1)=i+1+1 by omega];exact hf,by rw [show 1+(i+1)=i+1+1 by omega];omega,by simp⟩
  ·rw [if_neg hm] at hf
   have hm':=hm
   rw [hv] at hm'
   have hj0:j≠0:=by
    rintro rfl
    rw [if_pos rfl] at hf
    omega
   rw [if_neg hj0] at hf
   have hj0':¬(j:Int)=0:=by omega
   have hcm:=vCount_mono taken (i+1)
   have hsub:IntKind.i64.wrap ((j:Int)-1)=((j-1:Nat):Int):=by rw [wrap_in _ (by omega)];omega
   simp (disch:=first|omega|(simp;done)|(simp;omega)) [hnum,hhas,hm',hj0,hj0',hsub,-getElem?_pos]
   exact ⟨j-1,by omega,by omega,by rw [show n+taken.length-i=f by omega,show 1+(i+1)=i+1+1 by omega];exact hf,by rw [show 1+(i+1)=i+1+1 by omega];omega,by simp⟩
 ·rintro s ⟨j,hj,hin,hf,hlt,rfl⟩
  have hk1:freshK n taken-1+1=freshK n taken:=by omega
  have hnum:=number26 (A:=A) (freshK n taken) (by omega) (by omega)
  have hlen:=numS_len (freshK n taken) 10 (by omega) (by omega)
  have hhas:=has64 (A:=A) taken (vName (freshK n taken)) (by omega)
  have hv:vName (freshK n taken)=118::numS (freshK n taken):=rfl
  have hm:vName (freshK n taken)∉taken:=hnot
  obtain ⟨f,hfe⟩:∃ f,n+taken.length+1-(freshK n taken-1)=f+1:=⟨n+taken.length-(freshK n taken-1),by omega⟩
  rw [hfe,Nat.add_comm 1 _,hk1,freshF,if_neg hm] at hf
  have hj0:j=0:=by
   by_cases hj0:j=0
   ·exact hj0
   ·rw [if_neg hj0] at hf
    have:=freshF_ge taken f (freshK n taken+1) (j-1)
    omega
  subst hj0
  rw [hv] at hhas hm
  rw [show (((freshK n taken-1:Nat):Int))+1=(freshK n taken:Int) by omega]
  unfold l29_0
  simp (disch:=first|omega|(simp;done)|(simp;omega)) [hnum,hhas,hm,freshS,vName,-getElem?_pos]
end Go.Vs.Tryz
namespace Go.Vs
open Go
structure EntD where
 name:Str
 count:Int
 ty:Ty
def entRow (e:EntD):List Cell:=.str e.name::.int .i64 e.count::e.ty.row
def entRows (l:List EntD):List (List Cell):=l.map entRow
@[simp] theorem entRow_len (e:EntD):(entRow e).length=7:=by simp [entRow]
@[simp] theorem entRows_len (l:List EntD):(entRows l).length=l.length:=by simp [entRows]
@[simp] theorem entRows_get (l:List EntD) (i:Nat):(entRows l)[i]?=(l[i]?).map entRow:=by simp [entRows]
@[simp] theorem okRows_ent (l:List EntD):okRows 7 (wr (entRows l))=true:=okRows_of l entRow_len
@[simp] theorem entRows_snoc (l:List EntD) (x:EntD):wr (entRows l)++[wc (entRow x)]=wr (entRows (l++[x])):=by simp [entRows,wr]
@[simp] theorem entRows0:entRows []=[]:=rfl
def schRow (c:Int)(t:Ty):List Cell:=.int .i64 c::t.row
@[simp] theorem schRow_len (c:Int) (t:Ty):(schRow c t).length=6:=by simp [schRow]
section
variable (e:EntD)(c:Int)(t:Ty)
@[simp] theorem cut_n0:cut (entRow e) 0 1=some [.str e.name]:=by simp [entRow]
@[simp] theorem cut_n1:cut (entRow e) 1 6=some (schRow e.count e.ty):=by rw [entRow,schRow,Ty.row_eq];rfl
@[simp] theorem cut_n:cut (entRow e) 0 7=some (entRow e):=by rw [entRow,Ty.row_eq];rfl
@[simp] theorem cutw_n0:cut (wc (entRow e)) 0 1=some [.c (.str e.name)]:=by rw [entRow,Ty.row_eq];rfl
@[simp] theorem cutw_n1:cut (wc (entRow e)) 1 6=some (wc (schRow e.count e.ty)):=by rw [entRow,schRow,Ty.row_eq];rfl
@[simp] theorem cutw_n:cut (wc (entRow e)) 0 7=some (wc (entRow e)):=by rw [entRow,Ty.row_eq];rfl
@[simp] theorem cutw_sch:cut (wc (schRow c t)) 0 6=some (wc (schRow c t)):=by rw [schRow,Ty.row_eq];rfl
@[simp] theorem flat_sch:(wc (schRow c t)).all flatW=false:=by rw [schRow,Ty.row_eq];simp [wc,flatW]
@[simp] theorem flat_ent:(wc (entRow e)).all flatW=false:=by rw [entRow,Ty.row_eq];simp [wc,flatW]
end
section
variable {C:Ctx}{E:Nat→Option V}{L:Nat→Option Obj}{oid:Nat}
@[simp] theorem x_sl {s:Nat} {x:Opd} {lo hi mx:Option Opd}:exec1 C E L oid (.sl s x lo hi mx)=slice1 L s (x.val C E) (lo.map (·.val C E)) (hi.map (·.val C E)) (mx.map (·.val C E)):=rfl
theorem fit_map {α:Type}{f:α→List Cell}{k:Nat}(h:∀ a,(f a).length=k)(l:List α):rowsFit k (l.map f)=true:=by
 cases l with
 | nil=>rfl
 | cons a r=>simp [rowsFit,h a]
@[simp] theorem fit_ent (l:List EntD):rowsFit 7 (entRows l)=true:=fit_map entRow_len l
@[simp] theorem fit_data (l:List DataD):rowsFit 4 (dataRows l)=true:=fit_map dataRow_len l
@[simp] theorem slice_from {s n:Nat} {k:IntKind} {rows:List (List Cell)} (h:n≤rows.length):slice1 L s (.sc (.c (.sl rows))) (some (.sc (.c (.int k (n:Int))))) none none=bif rowsFit s rows then some (.sc (.c (.sl (rows.drop n))),[]) else none:=by
 simp [slice1,boundOr,natBelow_nat,blt_dec,Nat.lt_succ_of_le h]
@[simp] theorem slice_from1 {s n:Nat} {k:IntKind} {rows:List (List Cell)} (h:n+1≤rows.length):slice1 L s (.sc (.c (.sl rows))) (some (.sc (.c (.int k ((n:Int)+1))))) none none=bif rowsFit s rows then some (.sc (.c (.sl (rows.drop (n+1)))),[]) else none:=slice_from (n:=n+1) h
@[simp] theorem slice_to {s n:Nat} {k:IntKind} {rows:List (List Cell)} (h:n≤rows.length):slice1 L s (.sc (.c (.sl rows))) none (some (.sc (.c (.int k (n:Int))))) none=bif rowsFit s rows then some (.sc (.c (.sl (rows.take n))),[]) else none:=by
 simp [slice1,boundOr,natBelow_nat,blt_dec,Nat.lt_succ_of_le h]
@[simp] theorem entRows_drop (l:List EntD) (n:Nat):(entRows l).drop n=entRows (l.drop n):=by simp [entRows]
@[simp] theorem dataRows_take (l:List DataD) (n:Nat):(dataRows l).take n=dataRows (l.take n):=by simp [dataRows]
@[simp] theorem call1_clo {call:Oracle} {f:FuncId} {w:W} {args:List (Bool × V)}:call1 call L oid (.sc (.clo f [true] [[w]])) args=callA call L oid f (argsOf L (args++[(true,.sc w)])):=by
 rw [call1_eq]
 rfl
end
end Go.Vs
namespace Go.Vs.Tryz
open Go Go.Vs
variable {A:Oracle}
abbrev entsV (l:List EntD):V:=.sc (.c (.sl (entRows l)))
def names (l:List EntD):List Str:=l.map (·.name)
@[simp] theorem names_len (l:List EntD):(names l).length=l.length:=by simp [names]
@[simp] theorem names_get (l:List EntD) (i:Nat):(names l)[i]?=(l[i]?).map (·.name):=by simp [names]
theorem same123 (x e:EntD):(K A).call 212 [.ag (wc (entRow x)),.sc (.ptr 0 0)] [.box (wc (entRow e))]=some (boolV (decide (x.name=e.name)),[.box (wc (entRow e))]):=by
 refine fn_of (vf:=v212) (by kernel_rfl) rfl (by simp) ?_
 unfold v212
 simp (disch:=first|omega|(simp;done)|(simp;omega))
theorem index179 (l:List EntD)(e:EntD)(h:l.length≤1073741824):(K A).call 247 [entsV l,.sc (.clo 212 [true] [[.ptr 0 0]])] [.box (wc (entRow e))] =
 some (intV (if e.name∈names l then (place (names l) e.name:Int) else -1),[.box (wc (entRow e))]):=by
 refine fn_of (vf:=v247) (by kernel_rfl) rfl (by simp) ?_
 unfold v247
 have hp:=place_le (names l) e.name
 rw [names_len] at hp
 simp (disch:=first|omega|(simp;done)|(simp;omega))
 refine wp_loop (fun i=>⟨[(0,entsV l),(1,.sc (.clo 212 [true] [[.ptr 0 0]])),(7,intV l.length),(8,intV i)],[(0,some (.box (wc (entRow e))))]⟩) (place (names l) e.name) ?_ ?_ ?_
 ·simp
 ·intro i hi
  obtain ⟨n,hn,hne⟩:=place_lt hi
  rw [names_get] at hn
  obtain ⟨x,hx,rfl⟩:=Option.map_eq_some_iff.1 hn
  have hs:=same123 (A:=A) x e
  have hlt:i<l.length:=by omega
  unfold l247_0
  simp (disch:=first|omega|(simp;done)|(simp;omega)) [hx,hne,hlt,hs,-getElem?_pos]
 ·unfold l247_0
  by_cases hm:place (names l) e.name<l.length
  ·have hn:=place_at (l:=names l) (s:=e.name) (by simpa using hm)
   rw [names_get] at hn
   obtain ⟨x,hx,hxe⟩:=Option.map_eq_some_iff.1 hn
   have hs:=same123 (A:=A) x e
   have hmem:=place_mem.1 (show place (names l) e.name<(names l).length by simpa using hm)
   simp (disch:=first|omega|(simp;done)|(simp;omega)) [hx,hxe,hm,hs,hmem,-getElem?_pos]
  ·have hn:e.name∉names l:=fun h=>hm (by have:=place_mem.2 h;simpa using this)
   simp (disch:=first|omega|(simp;done)|(simp;omega)) [hm,hn,-getElem?_pos]
theorem contains122 (l:List EntD)(e:EntD)(h:l.length≤1073741824):(K A).call 211 [entsV l,.sc (.clo 212 [true] [[.ptr 0 0]])] [.box (wc (entRow e))]=some (boolV (decide (e.name∈names l)),[.box (wc (entRow e))]):=by
 refine fn_of (vf:=v211) (by kernel_rfl) rfl (by simp) ?_
 have:=index179 (A:=A) l e h
 unfold v211
 by_cases hn:e.name∈names l<;>simp (disch:=first|omega|(simp;done)|(simp;omega)) [this,hn]
def seenTo (l:List EntD):Nat→List EntD
 | 0=>[]
 | i+1=>match l[i]? with
  | none=>seenTo l i
  | some e=>if e.name∈names (l.drop (i+1)) then seenTo l i else seenTo l i++[e]
theorem seenTo_len (l:List EntD):∀ i,(seenTo l i).length≤i
 | 0=>by simp [seenTo]
 | i+1=>by
  have:=seenTo_len l i
  simp only [seenTo]
  split
  ·omega
  ·split
   ·omega
   ·simp;omega
theorem seen80 (l:List EntD)(h:l.length≤1073741824):(K A).call 150 [entsV l] []=some (entsV (seenTo l l.length),[]):=by
 refine fn_of (vf:=v150) (by kernel_rfl) rfl (by simp) ?_
 unfold v150
 simp (disch:=first|omega|(simp;done)|(simp;omega))
 refine wp_loop (fun i=>⟨[(0,entsV l),(3,.sc (.arr 129 (seenTo l i).length)),(6,entsV l),(7,intV l.length),(8,intV i)],[(129,some (.arr 7 (wr (entRows (seenTo l i))) 0))]⟩) l.length ?_ ?_ ?_
 ·simp [seenTo]
 ·intro i hi
  obtain ⟨e,he⟩:=get_of_lt hi
  have hc:=contains122 (A:=A) (l.drop (i+1)) e (by simp;omega)
  have hsl:=seenTo_len l i
  have hi':i+1≤l.length:=hi
  unfold l150_0
  by_cases hn:e.name∈names (l.drop (i+1))
  ·simp (disch:=first|omega|(simp;done)|(simp;omega)) [he,hi,hc,hn,seenTo,-getElem?_pos]
  ·simp (disch:=first|omega|(simp;done)|(simp;omega)) [he,hi,hc,hn,seenTo,-getElem?_pos]
 ·unfold l150_0
  simp (disch:=first|omega|(simp;done)|(simp;omega))
variable {A:Oracle}
def rlast (l:List Str)(s:Str):Int:=if s∈l then (l.length:Int)-1-place l.reverse s else -1
theorem rev_get {l:List Str}{i:Nat}(h:i<l.length):l.reverse[i]?=l[l.length-1-i]?:=List.getElem?_reverse h
def LookP (b:Bool)(r:V × List Obj):Prop:=∃ c t,r=(.tu [.ag (wc (schRow c t)),boolV b],[])
theorem lookup82 (l:List EntD)(s:Str)(h:l.length≤1073741824):∃ r,LookP (decide (s∈names l)) r∧(K A).call 124 [entsV l,strV s] []=some r:=by
 refine fn_ofE _ (vf:=v124) (by kernel_rfl) rfl (by simp) ?_
 unfold v124
 have hp:=place_le (names l).reverse s
 rw [List.length_reverse,names_len] at hp
 simp (disch:=first|omega|(simp;done)|(simp;omega))
 refine wp_loop (fun i=>⟨[(0,entsV l),(1,strV s),(4,.sc (.ptr 64 0)),(6,intV ((l.length:Int)-1-i))],[(64,some (.box [zi,zi,zs,zi,zi,.nil]))]⟩) (place (names l).reverse s) ?_ ?_ ?_
 ·simp
 ·intro i hi
  obtain ⟨x,hx,hne⟩:=place_lt hi
  have hlt:i<l.length:=by omega
  rw [rev_get (by simpa using hlt),names_get,names_len] at hx
  obtain ⟨e,he,rfl⟩:=Option.map_eq_some_iff.1 hx
  have hc:(l.length:Int)-1-i=((l.length-1-i:Nat):Int):=by omega
  have hc2:(l.length:Int)-1-(i+1)=((l.length-1-i:Nat):Int)-1:=by omega
  unfold l124_0
  simp (disch:=first|omega|(simp;done)|(simp;omega)) [hc,hc2,he,hne,-getElem?_pos]
 ·unfold l124_0
  by_cases hm:place (names l).reverse s<l.length
  ·have hx:=place_at (l:=(names l).reverse) (s:=s) (by simpa using hm)
   have hmem:s∈names l:=by
    have:=place_mem.1 (show place (names l).reverse s<(names l).reverse.length by simpa using hm)
    simpa using this
   rw [rev_get (by simpa using hm),names_get,names_len] at hx
   obtain ⟨e,he,hes⟩:=Option.map_eq_some_iff.1 hx
   have hc:(l.length:Int)-1-(place (names l).reverse s:Nat)=((l.length-1-place (names l).reverse s:Nat):Int):=by omega
   simp (disch:=first|omega|(simp;done)|(simp;omega)) [hc,he,hes,hmem,-getElem?_pos]
   exact ⟨_,_,rfl⟩
  ·have hn:s∉names l:=fun h=>hm (by have:=place_mem.2 (List.mem_reverse.2 h);simpa using this)
   have hc:(l.length:Int)-1-(place (names l).reverse s:Nat)=-1:=by omega
   simp (disch:=first|omega|(simp;done)|(simp;omega)) [hc,hn,-getElem?_pos]
   refine ⟨0,tz,?_⟩
   simp [schRow,tz,Ty.row]
theorem seen44 (l:List EntD)(h:l.length≤1073741824):(K A).call 65 [entsV l] []=some (entsV (seenTo l l.length),[]):=by
 refine fn_of (vf:=v65) (by kernel_rfl) rfl (by simp) ?_
 unfold v65
 simp (disch:=first|omega|(simp;done)|(simp;omega))
 refine wp_loop (fun i=>⟨[(0,entsV l),(3,.sc (.arr 129 (seenTo l i).length)),(4,intV i)],[(129,some (.arr 7 (wr (entRows (seenTo l i))) 0))]⟩) l.length ?_ ?_ ?_
 ·simp [seenTo]
 ·intro i hi
  obtain ⟨e,he⟩:=get_of_lt hi
  obtain ⟨_,⟨c,t,rfl⟩,hc⟩:=lookup82 (A:=A) (l.drop (i+1)) e.name (by simp;omega)
  have hsl:=seenTo_len l i
  have hi':i+1≤l.length:=hi
  unfold l65_0
  by_cases hn:e.name∈names (l.drop (i+1))
  ·simp (disch:=first|omega|(simp;done)|(simp;omega)) [he,hi,hc,hn,seenTo,-getElem?_pos]
  ·simp (disch:=first|omega|(simp;done)|(simp;omega)) [he,hi,hc,hn,seenTo,-getElem?_pos]
 ·unfold l65_0
  simp (disch:=first|omega|(simp;done)|(simp;omega))
theorem names36 (l:List EntD)(h:l.length≤1073741824):(K A).call 52 [entsV l] []=some (strsV (names l),[]):=by
 refine fn_of (vf:=v52) (by kernel_rfl) rfl (by simp) ?_
 unfold v52
 simp (disch:=first|omega|(simp;done)|(simp;omega))
 refine wp_loop (fun i=>⟨[(0,entsV l),(3,.sc (.arr 129 i)),(4,intV i)],[(129,some (.arr 1 (wr (strRows ((names l).take i))) 0))]⟩) l.length ?_ ?_ ?_
 ·simp
 ·intro i hi
  obtain ⟨e,he⟩:=get_of_lt hi
  have hn:(names l)[i]?=some e.name:=by simp [he]
  unfold l52_0
  simp (disch:=first|omega|(simp;done)|(simp;omega)) [he,hi,take_next hn,Nat.min_eq_left (Nat.le_of_lt hi),-getElem?_pos]
 ·have ht:(names l).take l.length=names l:=List.take_of_length_le (by simp)
  unfold l52_0
  simp (disch:=first|omega|(simp;done)|(simp;omega)) [ht]
theorem taken40 (l:List EntD)(h:l.length≤1073741824):(K A).call 99 [entsV l] []=some (strsV (names (seenTo l l.length)),[]):=by
 refine fn_of (vf:=v99) (by kernel_rfl) rfl (by simp) ?_
 have h80:=seen80 (A:=A) l h
 have hsl:=seenTo_len l l.length
 unfold v99
 simp (disch:=first|omega|(simp;done)|(simp;omega)) [h80]
 generalize seenTo l l.length=m at *
 refine wp_loop (fun i=>⟨[(3,.sc (.arr 129 i)),(7,entsV m),(8,intV m.length),(9,intV i)],[(129,some (.arr 1 (wr (strRows ((names m).take i))) 0))]⟩) m.length ?_ ?_ ?_
 ·simp
 ·intro i hi
  obtain ⟨e,he⟩:=get_of_lt hi
  have hn:(names m)[i]?=some e.name:=by simp [he]
  unfold l99_0
  simp (disch:=first|omega|(simp;done)|(simp;omega)) [he,hi,take_next hn,Nat.min_eq_left (Nat.le_of_lt hi),-getElem?_pos]
 ·have ht:(names m).take m.length=names m:=List.take_of_length_le (by simp)
  unfold l99_0
  simp (disch:=first|omega|(simp;done)|(simp;omega)) [ht]
def cnames (d:DataD):List Str:=d.cons.map (·.name)
@[simp] theorem cnames_len (d:DataD):(cnames d).length=d.cons.length:=by simp [cnames]
@[simp] theorem cnames_get (d:DataD) (i:Nat):(cnames d)[i]?=(d.cons[i]?).map (·.name):=by simp [cnames]
def dataOf (ds:List DataD)(c:Str):Nat:=ds.findIdx fun d=>decide (c∈cnames d)
theorem dataOf_at {ds:List DataD}{c:Str}(h:dataOf ds c<ds.length):∃ d,ds[dataOf ds c]?=some d∧c∈cnames d:=by
 refine ⟨ds[dataOf ds c],List.getElem?_eq_getElem h,?_⟩
 have h1:=List.findIdx_getElem (w:=h)
 exact of_decide_eq_true h1
def findM (ds:List DataD)(c:Str):Int × Int × Bool:=match ds[dataOf ds c]? with
 | some d=>(dataOf ds c,place (cnames d) c,true)
 | none=>(0,0,false)
abbrev findV (r:Int × Int × Bool):V:=.tu [intV r.1,intV r.2.1,boolV r.2.2]
end Go.Vs.Tryz
namespace Go.Vs
open Go
section
variable {C:Ctx}
theorem scrubD_eq (ks:List Nat)(s:St):scrubD ks s=s.scrub ks:=by
 cases ks with
 | cons _ _=>rfl
 | nil =>
  obtain ⟨E,O⟩:=s
  unfold scrubD St.scrub
  have:(O.any fun x=>x.2.isSome && List.contains [] x.1)=false:=by
   rw [List.any_eq_false]
   intro x _
   simp
  simp only [this,cond_false]
theorem wp_rangeB {x:Opd}{f s p q k:Nat}{ag:Bool}{asg body:VCode}{Q:Ex→St→Prop}{st:St}{rows:List (List Cell)}(hx:x.val C (get? st.env)=.sc (.clo f [true] [[.ptr k 0]]))(hk:64≤k)
 (hL:look st.objs k=some (.box [.c (.sl rows)])) (hn:rows.length≤4294967296) (I:Nat→St→Prop) (h0:I rows.length (scrubD [k] st))
 (round:∀ i st' row,I (i+1) st'→rows[i]?=some row→row.length=s∧∃ v,asV ag (wc row)=some v ∧
   wp C asg (fun e s1=>e=.normal∧((dropsOf body).all fun k=>(look s1.objs k).isNone)=true ∧
    wp C body (fun e s2=>(e=.normal∧I i ⟨(scrubD (dropsOf asg++dropsOf body) st').env,s2.objs⟩)∨(e≠.normal∧Q e ⟨(scrubD (dropsOf asg++dropsOf body) st').env,s2.objs⟩)) s1)
    ⟨put (put (scrubD (dropsOf asg++dropsOf body) st').env p (.sc (.c (.int .i64 i)))) q v,(scrubD (dropsOf asg++dropsOf body) st').objs⟩)
 (fin:∀ st',I 0 st'→Q .normal st'):wp C (.rangeB x f s ag p q asg body) Q st:=by
 have key:∀ i,i≤rows.length→∀ st',I i st'→∃ n e s',(∀ n',n≤n'→rounds (run C n' asg) (run C n' body) (dropsOf asg++dropsOf body) (dropsOf body) s ag p q rows i st'=some (e,s'))∧Q e s':=by
  intro i
  induction i with
  | zero=>exact fun _ st' h=>⟨0,.normal,st',fun _ _=>rfl,fin st' h⟩
  | succ i ih =>
   intro hi st' h
   obtain ⟨row,hrow⟩:∃ row,rows[i]?=some row:=⟨rows[i],List.getElem?_eq_getElem (by omega)⟩
   obtain ⟨hlen,v,hv,n1,e1,s1,h1,rfl,h2,n2,e2,s2,h3,h4⟩:=round i st' row h hrow
   rw [scrubD_eq] at h1 h4
   have hl:(row.length == s)=true:=by simp [hlen]
   have r1:∀ n',n1≤n'→run C n' asg ⟨put (put (st'.scrub (dropsOf asg++dropsOf body)).env p (.sc (.c (.int .i64 i)))) q v,(st'.scrub (dropsOf asg++dropsOf body)).objs⟩=some (.normal,s1):=fun n' hn=>run_mono (gl:=C.gl) (c:=C.call) (Le.refl _) hn h1
   have r2:∀ n',n2≤n'→run C n' body s1=some (e2,s2):=fun n' hn=>run_mono (gl:=C.gl) (c:=C.call) (Le.refl _) hn h3
   have hv':asV ag (row.map W.c)=some v:=hv
   rcases h4 with ⟨rfl,h4⟩|⟨hne,h4⟩
   ·obtain ⟨n3,e3,s3,h5,h6⟩:=ih (by omega) _ h4
    refine ⟨max n1 (max n2 n3),e3,s3,fun n' hn' => ?_,h6⟩
    have ha:=r1 n' (by omega)
    have hb:=r2 n' (by omega)
    simp only [rounds,hrow,hl,cond_true,hv',ha,h2,hb]
    exact h5 n' (by omega)
   ·refine ⟨max n1 n2,e2,_,fun n' hn' => ?_,h4⟩
    have ha:=r1 n' (by omega)
    have hb:=r2 n' (by omega)
    simp only [rounds,hrow,hl,cond_true,hv',ha,h2,hb]
    cases e2 with
    | normal=>exact absurd rfl hne
    | exit _=>rfl
    | ret=>rfl
 obtain ⟨n,e,s',h1,h2⟩:=key rows.length (Nat.le_refl _) _ h0
 refine ⟨n,e,s',?_,h2⟩
 have hb:(f == f && Nat.ble 64 k)=true:=by
  simp only [beq_self_eq_true,Bool.true_and]
  exact Nat.ble_eq_true_of_le hk
 have hb2:Nat.ble rows.length maxRows2=true:=Nat.ble_eq_true_of_le (by unfold maxRows2;omega)
 rw [scrubD_eq] at h1
 simp only [run,hx,hb,cond_true,hL,hb2]
 exact h1 n (Nat.le_refl n)
attribute [simp] dropsOf
end
end Go.Vs
namespace Go.Vs.Tryz
open Go Go.Vs
variable {A:Oracle}
def consTo (ds:List DataD)(i:Nat):Nat:=((ds.take i).map fun d=>d.cons.length).sum
theorem consTo_succ {ds:List DataD}{i:Nat}{d:DataD}(h:ds[i]?=some d):consTo ds (i+1)=consTo ds i+d.cons.length:=by
 unfold consTo
 rw [take_next h,List.map_append,List.sum_append]
 simp
def rankM (ds:List DataD)(seen bound:List Str)(e:Exp):Int :=
 if e.kind=1 then (if e.name∈bound then seen.length+rlast bound e.name else rlast seen e.name)
 else if e.kind=2 then match findM ds e.name with
  | (i,k,true)=>seen.length+bound.length+k+consTo ds i.toNat
  | _=>-1
 else -1
variable {A:Oracle}
theorem rlast_eq {l:List Str}{s:Str}{i:Nat}(h:l[i]?=some s)(hj:∀ j x,i<j→l[j]?=some x→¬x=s):rlast l s=i:=by
 have hi:=(List.getElem?_eq_some_iff.1 h).1
 have hmem:s∈l:=List.mem_of_getElem? h
 unfold rlast
 rw [if_pos hmem]
 have hp:=place_mem.2 (List.mem_reverse.2 hmem)
 have hx:=place_at hp
 rw [List.length_reverse] at hp
 rw [rev_get hp] at hx
 have h1:¬i<l.length-1-place l.reverse s:=fun hlt=>hj _ s hlt hx rfl
 have h2:¬l.length-1-i<place l.reverse s:=by
  intro hlt
  obtain ⟨x,hx2,hne⟩:=place_lt hlt
  rw [rev_get (by omega),show l.length-1-(l.length-1-i)=i by omega,h] at hx2
  cases hx2
  exact hne rfl
 omega
theorem rlast_no {l:List Str}{s:Str}(h:s∉l):rlast l s=-1:=if_neg h
theorem rlast_mem {l:List Str}{s:Str}(h:s∈l):0≤rlast l s:=by
 unfold rlast
 rw [if_pos h]
 have:=place_mem.2 (List.mem_reverse.2 h)
 rw [List.length_reverse] at this
 omega
def seenN (ctx:List EntD):List Str:=names (seenTo ctx ctx.length)
theorem seenN_len (ctx:List EntD):(seenN ctx).length≤ctx.length:=by
 unfold seenN
 rw [names_len]
 exact seenTo_len ctx ctx.length
def headEq (a b:Exp):Prop:=a.kind=b.kind∧a.num=b.num∧a.ty=b.ty∧a.kids.length=b.kids.length∧a.arms.length=b.arms.length
def armsEq (a b:Exp):Prop:=∀ (i:Nat) p q,a.arms[i]?=some p→b.arms[i]?=some q→p.1.con=q.1.con∧p.1.vars.length=q.1.vars.length
def varEq (left right:List Str)(s t:Str):Prop:=rlast left s=rlast right t∧(0≤rlast left s∨s=t)
def alphaF (a:Exp)(l:List (Exp→List Str→List Str→Prop))(b:Exp)(left right:List Str):Prop :=
 headEq a b∧(a.kind=1→varEq left right a.name b.name)∧(a.kind=2→a.name=b.name) ∧
  (a.kind≠1→a.kind≠2→armsEq a b∧∀ (i:Nat) f y,l[i]?=some f→b.children[i]?=some y→f y (left++a.bound i) (right++b.bound i))
def alphaP (a:Exp):Exp→List Str→List Str→Prop:=a.fold alphaF
def news (taken:List Str)(n k:Nat):List Str:=(List.range k).map fun j=>freshS (n+j) taken
@[simp] theorem news_len (taken:List Str) (n k:Nat):(news taken n k).length=k:=by simp [news]
theorem news_get {taken:List Str}{n k j:Nat}(h:j<k):(news taken n k)[j]?=some (freshS (n+j) taken):=by simp [news,h]
def canonF (taken:List Str)(e:Exp)(l:List (List Str→List Str→Exp))(old names:List Str):Exp :=
 if e.kind=1 then (if 0≤rlast old e.name then .mk e.kind e.pos ((names[(rlast old e.name).toNat]?).getD []) e.num e.kids e.arms e.ty else e)
 else
  let cs:=l.zipIdx.map fun p=>p.1 (old++e.bound p.2) (names++news taken old.length (e.bound p.2).length)
  .mk e.kind e.pos (if e.kind=4∨e.kind=6∨e.kind=7 then freshS old.length taken else e.name) e.num (cs.take e.kids.length)
   (List.zipWith (fun a c=>(⟨a.1.pos,a.1.con,news taken old.length a.1.vars.length⟩,c)) e.arms (cs.drop e.kids.length)) e.ty
def canonM (taken:List Str)(e:Exp):List Str→List Str→Exp:=e.fold (canonF taken)
theorem canonM_var {taken:List Str}{e:Exp}{old names:List Str}(h:e.kind=1):canonM taken e old names=if 0≤rlast old e.name then .mk e.kind e.pos ((names[(rlast old e.name).toNat]?).getD []) e.num e.kids e.arms e.ty else e:=by
 unfold canonM
 rw [Exp.fold_eq]
 simp only [canonF,if_pos h]
def canonC (taken:List Str)(e:Exp)(old names:List Str):List Exp:=e.children.zipIdx.map fun p=>canonM taken p.1 (old++e.bound p.2) (names++news taken old.length (e.bound p.2).length)
@[simp] theorem canonC_len (taken:List Str) (e:Exp) (old names:List Str):(canonC taken e old names).length=e.kids.length+e.arms.length:=by simp [canonC]
theorem canonC_get {taken:List Str}{e x:Exp}{old names:List Str}{i:Nat}(h:e.children[i]?=some x):(canonC taken e old names)[i]?=some (canonM taken x (old++e.bound i) (names++news taken old.length (e.bound i).length)):=by
 simp [canonC,h]
theorem canonM_no {taken:List Str}{e:Exp}{old names:List Str}(h:e.kind≠1):canonM taken e old names=.mk e.kind e.pos (if e.kind=4∨e.kind=6∨e.kind=7 then freshS old.length taken else e.name) e.num ((canonC taken e old names).take e.kids.length)
 (List.zipWith (fun a c=>(⟨a.1.pos,a.1.con,news taken old.length a.1.vars.length⟩,c)) e.arms ((canonC taken e old names).drop e.kids.length)) e.ty:=by
 unfold canonM
 rw [Exp.fold_eq]
 simp only [canonF,if_neg h]
 have:((e.children.map (Exp.fold (canonF taken))).zipIdx.map fun p=>p.1 (old++e.bound p.2) (names++news taken old.length (e.bound p.2).length))=canonC taken e old names:=by
  unfold canonC canonM
  refine List.ext_getElem? fun j => ?_
  simp only [List.getElem?_map,List.getElem?_zipIdx]
  cases e.children[j]?<;>simp
 rw [this]
theorem free_child {e x:Exp}{i:Nat}(hk:e.kind≠1)(hx:e.children[i]?=some x){s:Str}(hs:s∈freeP x):s∈e.bound i∨s∈freeP e:=by
 by_cases hb:s∈e.bound i
 ·exact .inl hb
 ·refine .inr ?_
  rw [freeP_eq,if_neg hk,←outP_end]
  have key:∀ n,n≤e.children.length→i<n→s∈outP e n:=by
   intro n
   induction n with
   | zero=>intro _ h;omega
   | succ n ih =>
    intro hn hi
    obtain ⟨y,hy⟩:=get_of_lt (l:=e.children) (i:=n) (by omega)
    rw [outP_succ hy,mem_foldNew]
    by_cases hin:i=n
    ·subst hin
     rw [hx] at hy
     cases hy
     exact .inr ⟨hs,hb⟩
    ·exact .inl (ih (by omega) (by omega))
  exact key _ (Nat.le_refl _) (List.getElem?_eq_some_iff.1 hx).1
theorem bound_some {e:Exp}{i:Nat}:e.bound i=if e.kind=4∨e.kind=7∨(e.kind=6∧i=1) then [e.name] else if e.kind=8∧0<i then ((e.arms[i-1]?).map fun a=>a.1.vars).getD [] else []:=rfl
section
variable (k p:Int)(n:Str)(m:Int)(ks:List Exp)(l:List (ArmH × Exp))(t:Ty)
theorem kind_mk:(Exp.mk k p n m ks l t).kind=k:=rfl
theorem pos_mk:(Exp.mk k p n m ks l t).pos=p:=rfl
theorem name_mk:(Exp.mk k p n m ks l t).name=n:=rfl
theorem num_mk:(Exp.mk k p n m ks l t).num=m:=rfl
theorem kids_mk:(Exp.mk k p n m ks l t).kids=ks:=rfl
theorem arms_mk:(Exp.mk k p n m ks l t).arms=l:=rfl
theorem ty_mk:(Exp.mk k p n m ks l t).ty=t:=rfl
theorem bound_mk (i:Nat):(Exp.mk k p n m ks l t).bound i=if k=4∨k=7∨(k=6∧i=1) then [n] else if k=8∧0<i then ((l[i-1]?).map fun a=>a.1.vars).getD [] else []:=rfl
theorem children_mk:(Exp.mk k p n m ks l t).children=ks++l.map (·.2):=rfl
end
theorem canon_parts {taken:List Str}{e:Exp}{old names:List Str}(h:e.kind≠1)(hw:e.wf1) :
 headEq e (canonM taken e old names)∧(canonM taken e old names).children=canonC taken e old names∧armsEq e (canonM taken e old names)∧(e.kind=2→e.name=(canonM taken e old names).name) ∧
 ∀ i,i<e.children.length→(canonM taken e old names).bound i=news taken old.length (e.bound i).length:=by
 have hl:=canonC_len taken e old names
 have hal:(List.zipWith (fun (a:ArmH × Exp) c=>((⟨a.1.pos,a.1.con,news taken old.length a.1.vars.length⟩:ArmH),c)) e.arms ((canonC taken e old names).drop e.kids.length)).length=e.arms.length:=by
  rw [List.length_zipWith,List.length_drop,hl]
  omega
 have hkl:((canonC taken e old names).take e.kids.length).length=e.kids.length:=by rw [List.length_take,hl];omega
 rw [canonM_no h]
 refine ⟨⟨rfl,rfl,rfl,by simp only [kids_mk,hkl],by simp only [arms_mk,hal]⟩,?_,?_,?_,?_⟩
 ·simp only [children_mk]
  rw [List.map_zipWith]
  have:List.zipWith (fun (a:ArmH × Exp) (c:Exp)=>c) e.arms ((canonC taken e old names).drop e.kids.length)=(canonC taken e old names).drop e.kids.length:=by
   refine List.ext_getElem? fun j => ?_
   rw [List.getElem?_zipWith]
   by_cases hj:j<e.arms.length
   ·rw [List.getElem?_eq_getElem hj]
    cases ((canonC taken e old names).drop e.kids.length)[j]?<;>rfl
   ·rw [List.getElem?_eq_none (by omega),List.getElem?_eq_none (by rw [List.length_drop,hl];omega)]
  rw [this,List.take_append_drop]
 ·intro i p q hp hq
  simp only [arms_mk,List.getElem?_zipWith,hp] at hq
  cases hc:((canonC taken e old names).drop e.kids.length)[i]? with
  | none=>rw [hc] at hq;simp at hq
  | some c =>
   rw [hc] at hq
   simp only [Option.some.injEq] at hq
   subst hq
   simp
 ·intro h2
  simp [name_mk,h2]
 ·intro i hi
  have h1:=bound_some (e:=e) (i:=i)
  rw [bound_mk]
  by_cases c1:e.kind=4∨e.kind=7∨(e.kind=6∧i=1)
  ·rw [if_pos c1] at h1
   have c2:e.kind=4∨e.kind=6∨e.kind=7:=by omega
   rw [if_pos c1,if_pos c2,h1]
   simp [news]
  ·rw [if_neg c1] at h1
   rw [if_neg c1]
   by_cases c2:e.kind=8∧0<i
   ·rw [if_pos c2] at h1
    rw [if_pos c2]
    have hk1:=hw.1 c2.1
    rw [e.children_len] at hi
    obtain ⟨a,ha⟩:=get_of_lt (l:=e.arms) (i:=i-1) (by omega)
    obtain ⟨c,hc⟩:=get_of_lt (l:=(canonC taken e old names).drop e.kids.length) (i:=i-1) (by rw [List.length_drop,hl];omega)
    rw [h1,List.getElem?_zipWith,ha,hc]
    simp
   ·rw [if_neg c2] at h1
    rw [if_neg c2,h1]
    simp [news]
theorem headEq.symm {a b:Exp}(h:headEq a b):headEq b a:=⟨h.1.symm,h.2.1.symm,h.2.2.1.symm,h.2.2.2.1.symm,h.2.2.2.2.symm⟩
theorem headEq.children {a b:Exp}(h:headEq a b):a.children.length=b.children.length:=by
 rw [a.children_len,b.children_len,h.2.2.2.1,h.2.2.2.2]
def stripF (e:Exp)(cs:List Exp):Exp:=.mk e.kind 0 e.name e.num (cs.take e.kids.length) (List.zipWith (fun (a:ArmH × Exp) c=>((⟨0,a.1.con,a.1.vars⟩:ArmH),c)) e.arms (cs.drop e.kids.length)) e.ty
def stripM (e:Exp):Exp:=e.fold stripF
theorem stripM_eq (e:Exp):stripM e=stripF e (e.children.map stripM):=Exp.fold_eq _ e
theorem zip_snd {α β γ:Type}{f:α→β→γ}{l:List α}{m:List β}(h:l.length=m.length)(g:γ→β)(hg:∀ a b,g (f a b)=b):(List.zipWith f l m).map g=m:=by
 refine List.ext_getElem? fun j => ?_
 rw [List.getElem?_map,List.getElem?_zipWith]
 by_cases hj:j<l.length
 ·rw [List.getElem?_eq_getElem hj,List.getElem?_eq_getElem (show j<m.length by omega)]
  simp [hg]
 ·rw [List.getElem?_eq_none (by omega),List.getElem?_eq_none (by omega)]
  rfl
theorem strip_parts (e:Exp):(stripM e).kind=e.kind∧(stripM e).name=e.name∧(stripM e).num=e.num∧(stripM e).ty=e.ty∧(stripM e).kids.length=e.kids.length∧(stripM e).arms.length=e.arms.length ∧
 (stripM e).children=e.children.map stripM∧(∀ i:Nat,(stripM e).arms[i]?=(e.arms[i]?).map fun (a:ArmH × Exp)=>((⟨0,a.1.con,a.1.vars⟩:ArmH),stripM a.2)):=by
 have hl:(e.children.map stripM).length=e.kids.length+e.arms.length:=by simp
 have hkl:((e.children.map stripM).take e.kids.length).length=e.kids.length:=by rw [List.length_take,hl];omega
 have hdl:((e.children.map stripM).drop e.kids.length).length=e.arms.length:=by rw [List.length_drop,hl];omega
 have hal:(List.zipWith (fun (a:ArmH × Exp) (c:Exp)=>((⟨0,a.1.con,a.1.vars⟩:ArmH),c)) e.arms ((e.children.map stripM).drop e.kids.length)).length=e.arms.length:=by
  rw [List.length_zipWith,hdl];omega
 rw [stripM_eq]
 refine ⟨rfl,rfl,rfl,rfl,by simp only [stripF,kids_mk,hkl],by simp only [stripF,arms_mk,hal],?_,?_⟩
 ·simp only [stripF,children_mk]
  rw [zip_snd (g:=fun (x:ArmH × Exp)=>x.2) (by rw [hdl]) (fun _ _=>rfl),List.take_append_drop]
 ·intro i
  simp only [stripF,arms_mk,List.getElem?_zipWith]
  have hd:(e.children.map stripM).drop e.kids.length=e.arms.map fun a=>stripM a.2:=by
   simp [Exp.children]
  rw [hd,List.getElem?_map]
  cases e.arms[i]?<;>rfl
theorem strip_wf (e:Exp):e.wf→(stripM e).wf:=by
 induction e using Exp.ind with
 | h e ih =>
  intro hw
  obtain ⟨h1,h2,h3,h4,h5,h6,h7,h8⟩:=strip_parts e
  rw [Exp.wf_eq]
  obtain ⟨w1,w2,w3⟩:=hw.one
  refine ⟨⟨fun hk=>by rw [h5];exact w1 (h1▸hk),fun hk => ?_,fun hk => ?_⟩,?_⟩
  ·have:=w2 (h1▸hk)
   rw [this] at h6
   exact List.length_eq_zero_iff.1 h6
  ·have:=w3 (h1▸hk)
   rw [this] at h5
   exact List.length_eq_zero_iff.1 h5
  ·intro x hx
   rw [h7] at hx
   obtain ⟨y,hy,rfl⟩:=List.mem_map.1 hx
   exact ih y hy (hw.child hy)
theorem strip_weight (e:Exp):(stripM e).weight=e.weight:=by
 induction e using Exp.ind with
 | h e ih =>
  obtain ⟨h1,h2,h3,h4,h5,h6,h7,h8⟩:=strip_parts e
  rw [Exp.weight_eq,e.weight_eq,h7,List.map_map]
  have ha:((stripM e).arms.map fun a=>a.1.vars.length)=e.arms.map fun a=>a.1.vars.length:=by
   refine List.ext_getElem? fun i => ?_
   rw [List.getElem?_map,List.getElem?_map,h8]
   cases e.arms[i]?<;>rfl
  have hc:e.children.map (Exp.weight ∘ stripM)=e.children.map Exp.weight:=List.map_congr_left fun x hx=>ih x hx
  rw [ha,hc]
def canonT (e:Exp)(taken:List Str):Exp:=canonM (taken++freeP e) (stripM e) [] []
variable {A:Oracle}
end Go.Vs.Tryz
