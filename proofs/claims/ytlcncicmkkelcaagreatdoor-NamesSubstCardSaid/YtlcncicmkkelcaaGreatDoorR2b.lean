/- Numbers as text and fresh names by the reference, walked. (Parts of one proof, put together.) -/
import Derived.Test.YtlcncicmkkelcaaGreatDoorR1b
set_option linter.unusedSimpArgs false
set_option linter.unusedVariables false
set_option linter.deprecated false
set_option maxHeartbeats 2000000
namespace Go.Vs
open Go
section
variable {C:Ctx}{E:Nat→Option V}{L:Nat→Option Obj}{oid:Nat}
@[simp] theorem b_quo {k:IntKind} {a b:Int} (h:b≠0):binV .quo 0 (.sc (.c (.int k a))) (.sc (.c (.int k b)))=some (.sc (.c (.int k (k.wrap (a.tdiv b)))),[]):=by simp [binV,binW,Za2,Zb8,h,ZdC]
@[simp] theorem x_slS {x:Opd} {lo hi:Option Opd}:Zad C E L oid (.slS x lo hi)=(match x.val C E with
 | .sc (.c (.str s))=>match Zaq (hi.map (·.val C E)) s.length s.length with
  | none=>none
  | some h=>(Zaq (lo.map (·.val C E)) 0 h).map fun l=>(.sc (.c (.str ((s.take h).drop l))),[])
 | _=>none):=rfl
end
end Go.Vs
namespace Go.Vs.Tryz
open Go Go.Vs
variable {A:Zac}
def digits:Str:=[48,49,50,51,52,53,54,55,56,57]
theorem ZlC (n:Nat)(h0:n≠0)(h:n≤1073741824):(K A).call 26 [intV n] []=some (strV (numS n),[]):=by
 refine Zan (vf:=v26) (by kernel_rfl) rfl (by simp) ?_
 have h0':¬(n:Int)=0:=by omega
 have hneg:¬(n:Int)<0:=by omega
 have hlen:=ZeN n 10 (by omega) (by omega)
 unfold v26
 simp (disch:=first|omega|(simp;done)|(simp;omega)) [h0,h0',-getElem?_pos]
 refine Zam (fun i s=>∃ (k:Nat) (t:Str),k≤n∧t.length=i∧(if k=0 then numS n=t else numS n=numS k++t)∧s=⟨[(0,intV n),(3,strV t),(4,intV k)],[]⟩) (numS n).length ⟨n,[],Nat.le_refl _,rfl,by simp [h0],by first | rfl | simp⟩ ?_ ?_
 ·rintro i s hi ⟨k,t,hk,ht,he,rfl⟩
  have hk0:k≠0:=by
   rintro rfl
   rw [if_pos rfl] at he
   rw [he] at hi
   omega
  rw [if_neg hk0] at he
  have hk0':¬(k:Int)=0:=by omega
  obtain ⟨d,hd,hd10⟩:∃ d,d=k % 10∧d<10:=⟨k % 10,rfl,Nat.mod_lt _ (by omega)⟩
  have hmod:(k:Int).tmod 10=(d:Int):=by rw [Int.tmod_eq_emod_of_nonneg (by omega)];omega
  have hdiv:(k:Int).tdiv 10=((k / 10:Nat):Int):=by rw [Int.tdiv_eq_ediv_of_nonneg (by omega)];omega
  have hb1:Zaq (some (intV ((d:Int)+1))) 10 10=some (d+1):=natBelow_cast (k:=.i64) (n:=d+1) (by omega)
  have hb2:Zaq (some (intV (d:Int))) 0 (d+1)=some d:=natBelow_cast (k:=.i64) (n:=d) (by omega)
  have hdr:∀ d:Nat,d<10→List.drop d (48::List.take d [49,50,51,52,53,54,55,56,57])=[UInt8.ofNat (48+d)]:=by decide
  have hdd:=hdr d hd10
  have hnd:¬(d:Int)<0:=by omega
  have hnext:if k / 10=0 then numS n=UInt8.ofNat (48+d)::t else numS n=numS (k / 10)++UInt8.ofNat (48+d)::t:=by
   by_cases h10:k<10
   ·rw [if_pos (by omega),he,Zcs h10,hd,Nat.mod_eq_of_lt h10]
    rfl
   ·rw [if_neg (by omega),he,Zc1 h10,hd]
    simp
  have htl:t.length≤10:=by omega
  unfold Ztm
  simp (disch:=first|omega|(simp;done)|(simp;omega)) [hk0,hk0',hnd,hmod,hdiv,hb1,hb2,hdd,-getElem?_pos]
  exact ⟨k / 10,by omega,UInt8.ofNat (48+d)::t,by simp [ht],hnext,by simp⟩
 ·rintro s ⟨k,t,hk,ht,he,rfl⟩
  have hk0:k=0:=by
   by_cases hk0:k=0
   ·exact hk0
   ·rw [if_neg hk0] at he
    have:=Zf9 k
    rw [he] at ht
    simp at ht
    rw [ht] at this
    simp at this
  subst hk0
  rw [if_pos rfl] at he
  unfold Ztm
  simp (disch:=first|omega|(simp;done)|(simp;omega)) [hneg,he,-getElem?_pos]
theorem ZsX (n:Nat)(taken:List Str)(hn:n≤1000000)(ht:taken.length≤1000000):(K A).call 29 [intV n,Za3 taken] []=some (strV (ZaK n taken),[]):=by
 refine Zan (vf:=v29) (by kernel_rfl) rfl (by simp) ?_
 have hmx:(if (0:Int)>(n:Int) then (0:Int) else (n:Int))=n:=by rw [if_neg (by omega)]
 have hge:=Zcj taken (n+taken.length+1) 1 n
 have hle:=Zgo n taken
 have hnot:=Zbc n taken
 have hkdef:ZaJ n taken=Zcu taken (n+taken.length+1) 1 n:=rfl
 unfold v29
 simp (disch:=first|omega|(simp;done)|(simp;omega)) [hmx,-getElem?_pos]
 refine Zam (fun i s=>∃ j:Nat,j≤n∧i≤n+taken.length∧Zcu taken (n+taken.length+1-i) (1+i) j=ZaJ n taken∧j+ZcP taken (1+i)<n+taken.length+1-i∧s=⟨[(0,intV j),(1,Za3 taken),(5,intV ((i:Int)+1))],[]⟩) (ZaJ n taken-1)
  ⟨n,Nat.le_refl _,by omega,rfl,by have:=Ze3 taken 1;simp only [Nat.add_zero,Nat.sub_zero];omega,by simp⟩ ?_ ?_
 ·rintro i s hi ⟨j,hj,hin,hf,hlt,rfl⟩
  have hnum:=ZlC (A:=A) (i+1) (by omega) (by omega)
  have hlen:=ZeN (i+1) 10 (by omega) (by omega)
  have hhas:=ZjV (A:=A) taken (Za1 (i+1)) (by omega)
  have hv:Za1 (i+1)=118::numS (i+1):=rfl
  obtain ⟨f,hfe⟩:∃ f,n+taken.length+1-i=f+1:=⟨n+taken.length-i,by omega⟩
  rw [hfe,Nat.add_comm 1 i,Zcu] at hf
  rw [hfe,Nat.add_comm 1 i] at hlt
  rw [show (((i+1:Nat):Int))=(i:Int)+1 by omega] at hnum
  rw [hv] at hhas
  unfold ZrP
  by_cases hm:Za1 (i+1)∈taken
  ·rw [if_pos hm] at hf
   have hm':=hm
   rw [hv] at hm'
   have hcl:=ZgY hm
   simp (disch:=first|omega|(simp;done)|(simp;omega)) [hnum,hhas,hm',-getElem?_pos]
   exact ⟨j,hj,by omega,by rw [show n+taken.length-i=f by omega,show 1+(i+1)=i+1+1 by omega];exact hf,by rw [show 1+(i+1)=i+1+1 by omega];omega,by simp⟩
  ·rw [if_neg hm] at hf
   have hm':=hm
   rw [hv] at hm'
   have hj0:j≠0:=by
    rintro rfl
    rw [if_pos rfl] at hf
    omega
   rw [if_neg hj0] at hf
   have hj0':¬(j:Int)=0:=by omega
   have hcm:=Zdw taken (i+1)
   have hsub:IntKind.i64.wrap ((j:Int)-1)=((j-1:Nat):Int):=by rw [Zgk _ (by omega)];omega
   simp (disch:=first|omega|(simp;done)|(simp;omega)) [hnum,hhas,hm',hj0,hj0',hsub,-getElem?_pos]
   exact ⟨j-1,by omega,by omega,by rw [show n+taken.length-i=f by omega,show 1+(i+1)=i+1+1 by omega];exact hf,by rw [show 1+(i+1)=i+1+1 by omega];omega,by simp⟩
 ·rintro s ⟨j,hj,hin,hf,hlt,rfl⟩
  have hk1:ZaJ n taken-1+1=ZaJ n taken:=by omega
  have hnum:=ZlC (A:=A) (ZaJ n taken) (by omega) (by omega)
  have hlen:=ZeN (ZaJ n taken) 10 (by omega) (by omega)
  have hhas:=ZjV (A:=A) taken (Za1 (ZaJ n taken)) (by omega)
  have hv:Za1 (ZaJ n taken)=118::numS (ZaJ n taken):=rfl
  have hm:Za1 (ZaJ n taken)∉taken:=hnot
  obtain ⟨f,hfe⟩:∃ f,n+taken.length+1-(ZaJ n taken-1)=f+1:=⟨n+taken.length-(ZaJ n taken-1),by omega⟩
  rw [hfe,Nat.add_comm 1 _,hk1,Zcu,if_neg hm] at hf
  have hj0:j=0:=by
   by_cases hj0:j=0
   ·exact hj0
   ·rw [if_neg hj0] at hf
    have:=Zcj taken f (ZaJ n taken+1) (j-1)
    omega
  subst hj0
  rw [hv] at hhas hm
  rw [show (((ZaJ n taken-1:Nat):Int))+1=(ZaJ n taken:Int) by omega]
  unfold ZrP
  simp (disch:=first|omega|(simp;done)|(simp;omega)) [hnum,hhas,hm,ZaK,Za1,-getElem?_pos]
end Go.Vs.Tryz
namespace Go.Vs
open Go
structure EntD where
 name:Str
 count:Int
 ty:Ty
def ZbC (e:EntD):List Cell:=.str e.name::.int .i64 e.count::e.ty.row
def Zbq (l:List EntD):List (List Cell):=l.map ZbC
@[simp] theorem entRow_len (e:EntD):(ZbC e).length=7:=by simp [ZbC]
@[simp] theorem entRows_len (l:List EntD):(Zbq l).length=l.length:=by simp [Zbq]
@[simp] theorem entRows_get (l:List EntD) (i:Nat):(Zbq l)[i]?=(l[i]?).map ZbC:=by simp [Zbq]
@[simp] theorem okRows_ent (l:List EntD):Za0 7 (wr (Zbq l))=true:=ZbG l entRow_len
@[simp] theorem entRows_snoc (l:List EntD) (x:EntD):wr (Zbq l)++[wc (ZbC x)]=wr (Zbq (l++[x])):=by simp [Zbq,wr]
@[simp] theorem entRows0:Zbq []=[]:=rfl
def Zdf (c:Int)(t:Ty):List Cell:=.int .i64 c::t.row
@[simp] theorem schRow_len (c:Int) (t:Ty):(Zdf c t).length=6:=by simp [Zdf]
section
variable (e:EntD)(c:Int)(t:Ty)
@[simp] theorem cut_n0:cut (ZbC e) 0 1=some [.str e.name]:=by simp [ZbC]
@[simp] theorem cut_n1:cut (ZbC e) 1 6=some (Zdf e.count e.ty):=by rw [ZbC,Zdf,Ty.row_eq];rfl
@[simp] theorem cut_n:cut (ZbC e) 0 7=some (ZbC e):=by rw [ZbC,Ty.row_eq];rfl
@[simp] theorem cutw_n0:cut (wc (ZbC e)) 0 1=some [.c (.str e.name)]:=by rw [ZbC,Ty.row_eq];rfl
@[simp] theorem cutw_n1:cut (wc (ZbC e)) 1 6=some (wc (Zdf e.count e.ty)):=by rw [ZbC,Zdf,Ty.row_eq];rfl
@[simp] theorem cutw_n:cut (wc (ZbC e)) 0 7=some (wc (ZbC e)):=by rw [ZbC,Ty.row_eq];rfl
@[simp] theorem cutw_sch:cut (wc (Zdf c t)) 0 6=some (wc (Zdf c t)):=by rw [Zdf,Ty.row_eq];rfl
@[simp] theorem flat_sch:(wc (Zdf c t)).all Zcd=false:=by rw [Zdf,Ty.row_eq];simp [wc,Zcd]
@[simp] theorem flat_ent:(wc (ZbC e)).all Zcd=false:=by rw [ZbC,Ty.row_eq];simp [wc,Zcd]
end
section
variable {C:Ctx}{E:Nat→Option V}{L:Nat→Option Obj}{oid:Nat}
@[simp] theorem x_sl {s:Nat} {x:Opd} {lo hi mx:Option Opd}:Zad C E L oid (.sl s x lo hi mx)=Zbl L s (x.val C E) (lo.map (·.val C E)) (hi.map (·.val C E)) (mx.map (·.val C E)):=rfl
theorem Zip {α:Type}{f:α→List Cell}{k:Nat}(h:∀ a,(f a).length=k)(l:List α):Zbv k (l.map f)=true:=by
 cases l with
 | nil=>rfl
 | cons a r=>simp [Zbv,h a]
@[simp] theorem fit_ent (l:List EntD):Zbv 7 (Zbq l)=true:=Zip entRow_len l
@[simp] theorem fit_data (l:List DataD):Zbv 4 (Zax l)=true:=Zip dataRow_len l
@[simp] theorem slice_from {s n:Nat} {k:IntKind} {rows:List (List Cell)} (h:n≤rows.length):Zbl L s (.sc (.c (.sl rows))) (some (.sc (.c (.int k (n:Int))))) none none=bif Zbv s rows then some (.sc (.c (.sl (rows.drop n))),[]) else none:=by
 simp [Zbl,Zaq,ZbO,Zbi,Nat.lt_succ_of_le h]
@[simp] theorem slice_from1 {s n:Nat} {k:IntKind} {rows:List (List Cell)} (h:n+1≤rows.length):Zbl L s (.sc (.c (.sl rows))) (some (.sc (.c (.int k ((n:Int)+1))))) none none=bif Zbv s rows then some (.sc (.c (.sl (rows.drop (n+1)))),[]) else none:=slice_from (n:=n+1) h
@[simp] theorem slice_to {s n:Nat} {k:IntKind} {rows:List (List Cell)} (h:n≤rows.length):Zbl L s (.sc (.c (.sl rows))) none (some (.sc (.c (.int k (n:Int))))) none=bif Zbv s rows then some (.sc (.c (.sl (rows.take n))),[]) else none:=by
 simp [Zbl,Zaq,ZbO,Zbi,Nat.lt_succ_of_le h]
@[simp] theorem entRows_drop (l:List EntD) (n:Nat):(Zbq l).drop n=Zbq (l.drop n):=by simp [Zbq]
@[simp] theorem dataRows_take (l:List DataD) (n:Nat):(Zax l).take n=Zax (l.take n):=by simp [Zax]
@[simp] theorem call1_clo {call:Zac} {f:FuncId} {w:W} {args:List (Bool × V)}:Zc2 call L oid (.sc (.clo f [true] [[w]])) args=Zix call L oid f (Zau L (args++[(true,.sc w)])):=by
 rw [Zgb]
 rfl
end
end Go.Vs
namespace Go.Vs.Tryz
open Go Go.Vs
variable {A:Zac}
abbrev entsV (l:List EntD):V:=.sc (.c (.sl (Zbq l)))
def Zdm (l:List EntD):List Str:=l.map (·.name)
@[simp] theorem names_len (l:List EntD):(Zdm l).length=l.length:=by simp [Zdm]
@[simp] theorem names_get (l:List EntD) (i:Nat):(Zdm l)[i]?=(l[i]?).map (·.name):=by simp [Zdm]
def ZlJ (l:List EntD):Nat→List EntD
 | 0=>[]
 | i+1=>match l[i]? with
  | none=>ZlJ l i
  | some e=>if e.name∈Zdm (l.drop (i+1)) then ZlJ l i else ZlJ l i++[e]
variable {A:Zac}
def rlast (l:List Str)(s:Str):Int:=if s∈l then (l.length:Int)-1-ZbM l.reverse s else -1
theorem Zkr {l:List Str}{i:Nat}(h:i<l.length):l.reverse[i]?=l[l.length-1-i]?:=List.getElem?_reverse h
def LookP (b:Bool)(r:V × List Obj):Prop:=∃ c t,r=(.tu [.ag (wc (Zdf c t)),Zah b],[])
def Zbw (d:DataD):List Str:=d.cons.map (·.name)
@[simp] theorem cnames_len (d:DataD):(Zbw d).length=d.cons.length:=by simp [Zbw]
@[simp] theorem cnames_get (d:DataD) (i:Nat):(Zbw d)[i]?=(d.cons[i]?).map (·.name):=by simp [Zbw]
def Zfd (ds:List DataD)(c:Str):Nat:=ds.findIdx fun d=>decide (c∈Zbw d)
theorem Zod {ds:List DataD}{c:Str}(h:Zfd ds c<ds.length):∃ d,ds[Zfd ds c]?=some d∧c∈Zbw d:=by
 refine ⟨ds[Zfd ds c],List.getElem?_eq_getElem h,?_⟩
 have h1:=List.findIdx_getElem (w:=h)
 exact of_decide_eq_true h1
def Zst (ds:List DataD)(c:Str):Int × Int × Bool:=match ds[Zfd ds c]? with
 | some d=>(Zfd ds c,ZbM (Zbw d) c,true)
 | none=>(0,0,false)
abbrev findV (r:Int × Int × Bool):V:=.tu [intV r.1,intV r.2.1,Zah r.2.2]
end Go.Vs.Tryz
namespace Go.Vs
open Go
section
variable {C:Ctx}
theorem Zi8 (ks:List Nat)(s:St):Zcv ks s=s.scrub ks:=by
 cases ks with
 | cons _ _=>rfl
 | nil =>
  obtain ⟨E,O⟩:=s
  unfold Zcv St.scrub
  have:(O.any fun x=>x.2.isSome && List.contains [] x.1)=false:=by
   rw [List.any_eq_false]
   intro x _
   simp
  simp only [this,cond_false]
theorem wp_rangeB {x:Opd}{f s p q k:Nat}{ag:Bool}{asg body:VCode}{Q:Ex→St→Prop}{st:St}{rows:List (List Cell)}(hx:x.val C (get? st.env)=.sc (.clo f [true] [[.ptr k 0]]))(hk:64≤k)
 (hL:look st.objs k=some (.box [.c (.sl rows)])) (hn:rows.length≤4294967296) (I:Nat→St→Prop) (h0:I rows.length (Zcv [k] st))
 (round:∀ i st' row,I (i+1) st'→rows[i]?=some row→row.length=s∧∃ v,asV ag (wc row)=some v ∧
   wp C asg (fun e s1=>e=.normal∧((Zaj body).all fun k=>(look s1.objs k).isNone)=true ∧
    wp C body (fun e s2=>(e=.normal∧I i ⟨(Zcv (Zaj asg++Zaj body) st').env,s2.objs⟩)∨(e≠.normal∧Q e ⟨(Zcv (Zaj asg++Zaj body) st').env,s2.objs⟩)) s1)
    ⟨put (put (Zcv (Zaj asg++Zaj body) st').env p (.sc (.c (.int .i64 i)))) q v,(Zcv (Zaj asg++Zaj body) st').objs⟩)
 (fin:∀ st',I 0 st'→Q .normal st'):wp C (.rangeB x f s ag p q asg body) Q st:=by
 have key:∀ i,i≤rows.length→∀ st',I i st'→∃ n e s',(∀ n',n≤n'→Zc9 (run C n' asg) (run C n' body) (Zaj asg++Zaj body) (Zaj body) s ag p q rows i st'=some (e,s'))∧Q e s':=by
  intro i
  induction i with
  | zero=>exact fun _ st' h=>⟨0,.normal,st',fun _ _=>rfl,fin st' h⟩
  | succ i ih =>
   intro hi st' h
   obtain ⟨row,hrow⟩:∃ row,rows[i]?=some row:=⟨rows[i],List.getElem?_eq_getElem (by omega)⟩
   obtain ⟨hlen,v,hv,n1,e1,s1,h1,rfl,h2,n2,e2,s2,h3,h4⟩:=round i st' row h hrow
   rw [Zi8] at h1 h4
   have hl:(row.length == s)=true:=by simp [hlen]
   have r1:∀ n',n1≤n'→run C n' asg ⟨put (put (st'.scrub (Zaj asg++Zaj body)).env p (.sc (.c (.int .i64 i)))) q v,(st'.scrub (Zaj asg++Zaj body)).objs⟩=some (.normal,s1):=fun n' hn=>ZbV (gl:=C.gl) (c:=C.call) (Le.refl _) hn h1
   have r2:∀ n',n2≤n'→run C n' body s1=some (e2,s2):=fun n' hn=>ZbV (gl:=C.gl) (c:=C.call) (Le.refl _) hn h3
   have hv':asV ag (row.map W.c)=some v:=hv
   rcases h4 with ⟨rfl,h4⟩|⟨hne,h4⟩
   ·obtain ⟨n3,e3,s3,h5,h6⟩:=ih (by omega) _ h4
    refine ⟨max n1 (max n2 n3),e3,s3,fun n' hn' => ?_,h6⟩
    have ha:=r1 n' (by omega)
    have hb:=r2 n' (by omega)
    simp only [Zc9,hrow,hl,cond_true,hv',ha,h2,hb]
    exact h5 n' (by omega)
   ·refine ⟨max n1 n2,e2,_,fun n' hn' => ?_,h4⟩
    have ha:=r1 n' (by omega)
    have hb:=r2 n' (by omega)
    simp only [Zc9,hrow,hl,cond_true,hv',ha,h2,hb]
    cases e2 with
    | normal=>exact absurd rfl hne
    | exit _=>rfl
    | ret=>rfl
 obtain ⟨n,e,s',h1,h2⟩:=key rows.length (Nat.le_refl _) _ h0
 refine ⟨n,e,s',?_,h2⟩
 have hb:(f == f && Nat.ble 64 k)=true:=by
  simp only [beq_self_eq_true,Bool.true_and]
  exact Nat.ble_eq_true_of_le hk
 have hb2:Nat.ble rows.length Zff=true:=Nat.ble_eq_true_of_le (by unfold Zff;omega)
 rw [Zi8] at h1
 simp only [run,hx,hb,cond_true,hL,hb2]
 exact h1 n (Nat.le_refl n)
attribute [simp] Zaj
end
end Go.Vs
namespace Go.Vs.Tryz
open Go Go.Vs
variable {A:Zac}
def Zel (ds:List DataD)(i:Nat):Nat:=((ds.take i).map fun d=>d.cons.length).sum
theorem ZgF {ds:List DataD}{i:Nat}{d:DataD}(h:ds[i]?=some d):Zel ds (i+1)=Zel ds i+d.cons.length:=by
 unfold Zel
 rw [Zat h,List.map_append,List.sum_append]
 simp
def Ze2 (ds:List DataD)(seen bound:List Str)(e:Exp):Int :=
 if e.kind=1 then (if e.name∈bound then seen.length+rlast bound e.name else rlast seen e.name)
 else if e.kind=2 then match Zst ds e.name with
  | (i,k,true)=>seen.length+bound.length+k+Zel ds i.toNat
  | _=>-1
 else -1
variable {A:Zac}
theorem Zin {l:List Str}{s:Str}{i:Nat}(h:l[i]?=some s)(hj:∀ j x,i<j→l[j]?=some x→¬x=s):rlast l s=i:=by
 have hi:=(List.getElem?_eq_some_iff.1 h).1
 have hmem:s∈l:=List.mem_of_getElem? h
 unfold rlast
 rw [if_pos hmem]
 have hp:=Zb6.2 (List.mem_reverse.2 hmem)
 have hx:=Zfi hp
 rw [List.length_reverse] at hp
 rw [Zkr hp] at hx
 have h1:¬i<l.length-1-ZbM l.reverse s:=fun hlt=>hj _ s hlt hx rfl
 have h2:¬l.length-1-i<ZbM l.reverse s:=by
  intro hlt
  obtain ⟨x,hx2,hne⟩:=ZiI hlt
  rw [Zkr (by omega),show l.length-1-(l.length-1-i)=i by omega,h] at hx2
  cases hx2
  exact hne rfl
 omega
theorem Zh6 {l:List Str}{s:Str}(h:s∉l):rlast l s=-1:=if_neg h
theorem Zoh {l:List Str}{s:Str}(h:s∈l):0≤rlast l s:=by
 unfold rlast
 rw [if_pos h]
 have:=Zb6.2 (List.mem_reverse.2 h)
 rw [List.length_reverse] at this
 omega
def seenN (ctx:List EntD):List Str:=Zdm (ZlJ ctx ctx.length)
def headEq (a b:Exp):Prop:=a.kind=b.kind∧a.num=b.num∧a.ty=b.ty∧a.kids.length=b.kids.length∧a.arms.length=b.arms.length
def Zg6 (a b:Exp):Prop:=∀ (i:Nat) p q,a.arms[i]?=some p→b.arms[i]?=some q→p.1.con=q.1.con∧p.1.vars.length=q.1.vars.length
def ZrG (left right:List Str)(s t:Str):Prop:=rlast left s=rlast right t∧(0≤rlast left s∨s=t)
def alphaF (a:Exp)(l:List (Exp→List Str→List Str→Prop))(b:Exp)(left right:List Str):Prop :=
 headEq a b∧(a.kind=1→ZrG left right a.name b.name)∧(a.kind=2→a.name=b.name) ∧
  (a.kind≠1→a.kind≠2→Zg6 a b∧∀ (i:Nat) f y,l[i]?=some f→b.children[i]?=some y→f y (left++a.bound i) (right++b.bound i))
def alphaP (a:Exp):Exp→List Str→List Str→Prop:=a.fold alphaF
def news (taken:List Str)(n k:Nat):List Str:=(List.range k).map fun j=>ZaK (n+j) taken
@[simp] theorem news_len (taken:List Str) (n k:Nat):(news taken n k).length=k:=by simp [news]
def canonF (taken:List Str)(e:Exp)(l:List (List Str→List Str→Exp))(old Zdm:List Str):Exp :=
 if e.kind=1 then (if 0≤rlast old e.name then .mk e.kind e.pos ((Zdm[(rlast old e.name).toNat]?).getD []) e.num e.kids e.arms e.ty else e)
 else
  let cs:=l.zipIdx.map fun p=>p.1 (old++e.bound p.2) (Zdm++news taken old.length (e.bound p.2).length)
  .mk e.kind e.pos (if e.kind=4∨e.kind=6∨e.kind=7 then ZaK old.length taken else e.name) e.num (cs.take e.kids.length)
   (List.zipWith (fun a c=>(⟨a.1.pos,a.1.con,news taken old.length a.1.vars.length⟩,c)) e.arms (cs.drop e.kids.length)) e.ty
def Zrw (taken:List Str)(e:Exp):List Str→List Str→Exp:=e.fold (canonF taken)
def Zrd (taken:List Str)(e:Exp)(old Zdm:List Str):List Exp:=e.children.zipIdx.map fun p=>Zrw taken p.1 (old++e.bound p.2) (Zdm++news taken old.length (e.bound p.2).length)
@[simp] theorem canonC_len (taken:List Str) (e:Exp) (old Zdm:List Str):(Zrd taken e old Zdm).length=e.kids.length+e.arms.length:=by simp [Zrd]
theorem Zl7 {e x:Exp}{i:Nat}(hk:e.kind≠1)(hx:e.children[i]?=some x){s:Str}(hs:s∈Zaf x):s∈e.bound i∨s∈Zaf e:=by
 by_cases hb:s∈e.bound i
 ·exact .inl hb
 ·refine .inr ?_
  rw [Zb4,if_neg hk,←ZiQ]
  have key:∀ n,n≤e.children.length→i<n→s∈outP e n:=by
   intro n
   induction n with
   | zero=>intro _ h;omega
   | succ n ih =>
    intro hn hi
    obtain ⟨y,hy⟩:=Zaa (l:=e.children) (i:=n) (by omega)
    rw [ZgM hy,Zds]
    by_cases hin:i=n
    ·subst hin
     rw [hx] at hy
     cases hy
     exact .inr ⟨hs,hb⟩
    ·exact .inl (ih (by omega) (by omega))
  exact key _ (Nat.le_refl _) (List.getElem?_eq_some_iff.1 hx).1
theorem ZaD {e:Exp}{i:Nat}:e.bound i=if e.kind=4∨e.kind=7∨(e.kind=6∧i=1) then [e.name] else if e.kind=8∧0<i then ((e.arms[i-1]?).map fun a=>a.1.vars).getD [] else []:=rfl
section
variable (k p:Int)(n:Str)(m:Int)(ks:List Exp)(l:List (ArmH × Exp))(t:Ty)
theorem Zku:(Exp.mk k p n m ks l t).kind=k:=rfl
theorem Zrt:(Exp.mk k p n m ks l t).pos=p:=rfl
theorem Zj3:(Exp.mk k p n m ks l t).name=n:=rfl
theorem Zq6:(Exp.mk k p n m ks l t).num=m:=rfl
theorem Zeu:(Exp.mk k p n m ks l t).kids=ks:=rfl
theorem ZcZ:(Exp.mk k p n m ks l t).arms=l:=rfl
theorem ty_mk:(Exp.mk k p n m ks l t).ty=t:=rfl
theorem Zea (i:Nat):(Exp.mk k p n m ks l t).bound i=if k=4∨k=7∨(k=6∧i=1) then [n] else if k=8∧0<i then ((l[i-1]?).map fun a=>a.1.vars).getD [] else []:=rfl
theorem ZaH:(Exp.mk k p n m ks l t).children=ks++l.map (·.2):=rfl
end
theorem headEq.symm {a b:Exp}(h:headEq a b):headEq b a:=⟨h.1.symm,h.2.1.symm,h.2.2.1.symm,h.2.2.2.1.symm,h.2.2.2.2.symm⟩
theorem headEq.children {a b:Exp}(h:headEq a b):a.children.length=b.children.length:=by
 rw [a.children_len,b.children_len,h.2.2.2.1,h.2.2.2.2]
def stripF (e:Exp)(cs:List Exp):Exp:=.mk e.kind 0 e.name e.num (cs.take e.kids.length) (List.zipWith (fun (a:ArmH × Exp) c=>((⟨0,a.1.con,a.1.vars⟩:ArmH),c)) e.arms (cs.drop e.kids.length)) e.ty
def stripM (e:Exp):Exp:=e.fold stripF
theorem Zs9 {α β γ:Type}{f:α→β→γ}{l:List α}{m:List β}(h:l.length=m.length)(g:γ→β)(hg:∀ a b,g (f a b)=b):(List.zipWith f l m).map g=m:=by
 refine List.ext_getElem? fun j => ?_
 rw [List.getElem?_map,List.getElem?_zipWith]
 by_cases hj:j<l.length
 ·rw [List.getElem?_eq_getElem hj,List.getElem?_eq_getElem (show j<m.length by omega)]
  simp [hg]
 ·rw [List.getElem?_eq_none (by omega),List.getElem?_eq_none (by omega)]
  rfl
def canonT (e:Exp)(taken:List Str):Exp:=Zrw (taken++Zaf e) (stripM e) [] []
variable {A:Zac}
end Go.Vs.Tryz
namespace Go.Vs
open Go
mutual
def Ty.size:Ty→Nat
 | .mk _ _ _ _ a=>1+Ty.sizes a
def Ty.sizes:List Ty→Nat
 | []=>0
 | t::r=>t.size+Ty.sizes r
end
theorem Ty.sizes_map:∀ l:List Ty,Ty.sizes l=(l.map Ty.size).sum
 | []=>by simp [Ty.sizes]
 | t::r=>by simp [Ty.sizes,Ty.sizes_map r]
theorem Ty.size_eq (t:Ty):t.size=1+(t.args.map Ty.size).sum:=by
 cases t
 simp [Ty.size,Ty.args,Ty.sizes_map]
theorem Ty.size_pos (t:Ty):1≤t.size:=by
 rw [Ty.size_eq]
 omega
theorem Zir {l:List Nat}{n:Nat}(h:n∈l):n≤l.sum:=by
 induction l with
 | nil=>cases h
 | cons a r ih =>
  simp only [List.sum_cons]
  rcases List.mem_cons.1 h with rfl|h
  ·omega
  ·have:=ih h
   omega
theorem Ty.arg_lt {t x:Ty}(h:x∈t.args):x.size<t.size:=by
 have:=Zir (List.mem_map_of_mem (f:=Ty.size) h)
 rw [t.size_eq]
 omega
theorem Ty.len_le (l:List Ty):l.length≤(l.map Ty.size).sum:=by
 induction l with
 | nil=>simp
 | cons a r ih =>
  have:=a.size_pos
  simp only [List.length_cons,List.map_cons,List.sum_cons]
  omega
theorem Ty.args_lt (t:Ty):t.args.length<t.size:=by
 have:=Ty.len_le t.args
 rw [t.size_eq]
 omega
theorem Ty.size_leaf {k:Int}{n:Str}{i h:Int}:(Ty.mk k n i h []).size=1:=by simp [Ty.size,Ty.sizes]
structure AssD where
 id:Int
 ty:Ty
def ZbD (a:AssD):List Cell:=.int .i64 a.id::a.ty.row
def Zc3 (l:List AssD):List (List Cell):=l.map ZbD
@[simp] theorem assRow_len (a:AssD):(ZbD a).length=6:=by simp [ZbD]
@[simp] theorem assRows_len (l:List AssD):(Zc3 l).length=l.length:=by simp [Zc3]
@[simp] theorem assRows_get (l:List AssD) (i:Nat):(Zc3 l)[i]?=(l[i]?).map ZbD:=by simp [Zc3]
@[simp] theorem okRows_ass (l:List AssD):Za0 6 (wr (Zc3 l))=true:=ZbG l assRow_len
@[simp] theorem assRows_snoc (l:List AssD) (x:AssD):wr (Zc3 l)++[wc (ZbD x)]=wr (Zc3 (l++[x])):=by simp [Zc3,wr]
@[simp] theorem assRows0:Zc3 []=[]:=rfl
section
variable (a:AssD)
@[simp] theorem cut_as0:cut (ZbD a) 0 1=some [.int .i64 a.id]:=by rw [ZbD,Ty.row_eq];rfl
@[simp] theorem cut_as1:cut (ZbD a) 1 5=some a.ty.row:=by rw [ZbD,Ty.row_eq];rfl
@[simp] theorem cut_as:cut (ZbD a) 0 6=some (ZbD a):=by rw [ZbD,Ty.row_eq];rfl
@[simp] theorem cutw_as0:cut (wc (ZbD a)) 0 1=some [.c (.int .i64 a.id)]:=by rw [ZbD,Ty.row_eq];rfl
@[simp] theorem cutw_as1:cut (wc (ZbD a)) 1 5=some (wc a.ty.row):=by rw [ZbD,Ty.row_eq];rfl
@[simp] theorem cutw_as:cut (wc (ZbD a)) 0 6=some (wc (ZbD a)):=by rw [ZbD,Ty.row_eq];rfl
@[simp] theorem flat_ass:(wc (ZbD a)).all Zcd=false:=by rw [ZbD,Ty.row_eq];simp [wc,Zcd]
end
end Go.Vs
namespace Go.Vs.Tryz
open Go Go.Vs
variable {A:Zac}
abbrev intsV (l:List Int):V:=.sc (.c (.sl (Zbg l)))
abbrev tysV (l:List Ty):V:=.sc (.c (.sl (Ty.rows l)))
abbrev asssV (l:List AssD):V:=.sc (.c (.sl (Zc3 l)))
abbrev schV (c:Int)(t:Ty):V:=.ag (wc (Zdf c t))
def IntsB (r:V × List Obj):Prop:=∃ b,r=(Zah b,[])
variable {A:Zac}
def cmpI (a b:Int):Int:=if a<b then -1 else if b<a then 1 else 0
def orI:List Int→Int
 | []=>0
 | a::r=>if a=0 then orI r else a
def kindM (e:Exp):Int:=if e.kind=4 then 0 else if e.kind=8 then 2 else 1
variable {A:Zac}
end Go.Vs.Tryz
namespace Go.Vs
open Go
section
variable {call:FuncId→List V→List Obj→Option (V × List Obj)}{L:Nat→Option Obj}{oid:Nat}
@[simp] theorem call1_clo2 {f:FuncId} {w0 w1:W} {args:List (Bool × V)}:Zc2 call L oid (.sc (.clo f [true,true] [[w0],[w1]])) args=Zix call L oid f (Zau L (args++[(true,.sc w0),(true,.sc w1)])):=by
 rw [Zgb]
 rfl
@[simp] theorem call1_clo3 {f:FuncId} {w0 w1 w2:W} {args:List (Bool × V)}:Zc2 call L oid (.sc (.clo f [true,true,true] [[w0],[w1],[w2]])) args=Zix call L oid f (Zau L (args++[(true,.sc w0),(true,.sc w1),(true,.sc w2)])):=by
 rw [Zgb]
 rfl
end
end Go.Vs
namespace Go.Vs.Tryz
open Go Go.Vs
variable {A:Zac}
variable {A:Zac}
def ZhS (l:List Exp):Nat→List Exp
 | 0=>l
 | i+1=>match (ZhS l i)[i]?,(ZhS l i)[l.length-1-i]? with
  | some x,some y=>((ZhS l i).set i y).set (l.length-1-i) x
  | _,_=>ZhS l i
@[simp] theorem swapTo_len (l:List Exp):∀ i,(ZhS l i).length=l.length
 | 0=>rfl
 | i+1=>by
  have:=swapTo_len l i
  simp only [ZhS]
  split
  ·simp [this]
  ·exact this
theorem setRow_set {α:Type}:∀ (l:List α)(i:Nat)(a:α),setRow l i a=l.set i a
 | [],_,_=>rfl
 | _::_,0,_=>rfl
 | b::r,n+1,a=>by simp only [setRow,List.set_cons_succ,setRow_set r n a]
theorem Zd7 (l:List Exp)(i:Nat)(x:Exp):setRow (wr (Exp.rows l)) i (wc x.row)=wr (Exp.rows (l.set i x)):=by
 rw [setRow_set]
 simp [Exp.rows_map,wr,List.map_set]
end Go.Vs.Tryz
namespace Go.Vs
open Go
def elK (x:Option Obj)(N i:Nat):Bool:=match x with
 | some (.arr _ rows _)=>rows.length == N && Nat.blt i N
 | _=>false
@[simp] theorem elK_some {s p N i:Nat} {rows:List (List W)}:elK (some (.arr s rows p)) N i=(rows.length == N && Nat.blt i N):=rfl
@[simp] theorem elOk_eq {L:Nat→Option Obj} {k N i:Nat}:elOk L k N i=elK (L k) N i:=rfl
end Go.Vs
namespace Go.Vs.Tryz
open Go Go.Vs
variable {A:Zac}
abbrev exsV (l:List Exp):V:=.sc (.c (.sl (Exp.rows l)))
def Za4 (zz:List (ArmH × Exp))(cs:List Exp):List (ArmH × Exp):=List.zipWith (fun (a:ArmH × Exp) c=>(a.1,c)) zz cs
@[simp] theorem armsW_len (zz:List (ArmH × Exp)) (cs:List Exp):(Za4 zz cs).length=min zz.length cs.length:=by simp [Za4]
theorem Zcg {α:Type}{zs zz:List α}{i:Nat}{x:α}(hl:zs.length=zz.length)(hx:zs[i]?=some x):(zs.take i++zz.drop i).set i x=zs.take (i+1)++zz.drop (i+1):=by
 have hi:=(List.getElem?_eq_some_iff.1 hx).1
 have htl:(zs.take i).length=i:=by simp;omega
 rw [Zat hx,List.append_assoc]
 have hd:zz.drop i=zz[i]'(by omega)::zz.drop (i+1):=List.drop_eq_getElem_cons (by omega)
 rw [hd,List.set_append_right _ _ (by omega),htl,Nat.sub_self,List.set_cons_zero]
 rfl
theorem Zdv (l:List (ArmH × Exp))(i:Nat)(x:ArmH × Exp):setRow (wr (Exp.armRows l)) i (wc (Zao x))=wr (Exp.armRows (l.set i x)):=by
 rw [setRow_set]
 simp [Exp.armRows_map,wr,List.map_set]
theorem ZhJ (a:ArmH × Exp)(c:Exp):splice (wc (Zao a)) 3 (wc c.row)=some (wc (Zao (a.1,c))):=by
 rw [Zao,Zao,Exp.row_eq a.2,Exp.row_eq c]
 rfl
theorem Zcz {α:Type}{zs zz:List α}{i:Nat}(hl:zs.length=zz.length)(hi:i<zz.length):(zs.take i++zz.drop i)[i]?=zz[i]?:=by
 have htl:(zs.take i).length=i:=by simp;omega
 rw [List.getElem?_append_right (by omega),htl,Nat.sub_self,List.getElem?_drop]
 rfl
theorem ZcA {α:Type}{zs zz:List α}{i:Nat}(hl:zs.length=zz.length):(zs.take i++zz.drop i).length=zz.length:=by
 simp
 omega
def armsP (l:List (ArmH × Exp)):List (ArmH × Exp):=l.map fun a=>(⟨0,a.1.con,a.1.vars⟩,a.2)
@[simp] theorem armsP_len (l:List (ArmH × Exp)):(armsP l).length=l.length:=by simp [armsP]
end Go.Vs.Tryz
namespace Go.Vs
open Go
section
variable {C:Ctx}{E:Nat→Option V}{L:Nat→Option Obj}{oid:Nat}
def mkSK (oid s bytes:Nat)(zero:List W)(v:V):Option (V × Upd):=match Zp4 v with
 | some (.ofNat m)=>bif Nat.ble (m*bytes) Za9 && zero.length == s && Nat.blt 0 s && Nat.ble m Zaw then
  some (.sc (.arr oid m),[(oid,some (.arr s (List.replicate m zero) 0))]) else none
 | _=>none
@[simp] theorem x_mkS {s bytes:Nat} {zero:List W} {n:Opd}:Zad C E L oid (.mkS s bytes zero n)=newK (L oid) (mkSK oid s bytes zero (n.val C E)):=by
 simp only [Zad,newK,mkSK]
 cases L oid with
 | some _=>rfl
 | none =>
  cases Zp4 (n.val C E) with
  | none=>rfl
  | some z=>cases z<;>rfl
@[simp] theorem mkSK_nat {s bytes m:Nat} {zero:List W} {k:IntKind} (h1:m*bytes≤140737488355328) (h2:zero.length=s) (h3:0<s) (h4:m≤9223372036854775807):mkSK oid s bytes zero (.sc (.c (.int k (m:Int))))=some (.sc (.arr oid m),[(oid,some (.arr s (List.replicate m zero) 0))]):=by
 have e:mkSK oid s bytes zero (.sc (.c (.int k (m:Int))))=bif Nat.ble (m*bytes) Za9 && zero.length == s && Nat.blt 0 s && Nat.ble m Zaw then
  some (.sc (.arr oid m),[(oid,some (.arr s (List.replicate m zero) 0))]) else none:=rfl
 rw [e,Nat.ble_eq_true_of_le (by unfold Za9;exact h1),Nat.ble_eq_true_of_le (by unfold Zaw;exact h4),show Nat.blt 0 s=true from Nat.ble_eq_true_of_le h3,h2]
 simp
end
end Go.Vs
namespace Go.Vs.Tryz
open Go Go.Vs
variable {A:Zac}
def Zr7 (taken:List Str)(n:Nat)(l:List (ArmH × Exp)):List (ArmH × Exp):=l.map fun a=>(⟨a.1.pos,a.1.con,news taken n a.1.vars.length⟩,a.2)
@[simp] theorem armsN_len (taken:List Str) (n:Nat) (l:List (ArmH × Exp)):(Zr7 taken n l).length=l.length:=by simp [Zr7]
theorem Zg2 (l:List Str)(i:Nat)(x:Str):setRow (wr (Zag l)) i [W.c (.str x)]=wr (Zag (l.set i x)):=by
 rw [setRow_set]
 simp [Zag,wr,List.map_set,ZdG]
abbrev Zej:Obj:=.box [zi,zi,zs,zi,.nil,.nil,zi,zs,zi,zi,.nil]
variable {A:Zac}
def renTo (k:Nat):List Str:=[[118,49],118::numS (k+2)]
variable {A:Zac}
def charOk (c:UInt8):Bool:=(97≤c.toNat && c.toNat≤122) || (65≤c.toNat && c.toNat≤90) || (48≤c.toNat && c.toNat≤57) || c.toNat == 95
def Zqs:List Str:=[[100,97,116,97],[108,101,116],[114,101,99],[105,110],[99,97,115,101],[111,102],[101,110,100]]
def Zdi (lo hi:Nat)(s:Str):Prop:=s.length≤12∧(∃ c,s[0]?=some c∧lo≤c.toNat∧c.toNat≤hi)∧(∀ c∈s,charOk c=true)∧s∉Zqs
variable {A:Zac}
def IffB (P:Prop)(r:V × List Obj):Prop:=∃ b:Bool,(b=true↔P)∧r=(Zah b,[])
theorem IffB.yes {P:Prop}(h:P):IffB P (Zah true,[]):=⟨true,by simp [h],rfl⟩
theorem IffB.no {P:Prop}(h:¬P):IffB P (Zah false,[]):=⟨false,by simp [h],rfl⟩
theorem Ty.ext {a b:Ty}(h1:a.kind=b.kind)(h2:a.name=b.name)(h3:a.id=b.id)(h4:a.home=b.home)(h5:a.args=b.args):a=b:=by
 cases a;cases b;simp only [Ty.kind,Ty.name,Ty.id,Ty.home,Ty.args] at *;subst h1 h2 h3 h4 h5;rfl
theorem ZtN {α:Type}{l m:List α}(hn:l.length=m.length)(h:∀ (i:Nat)(x y:α),l[i]?=some x→m[i]?=some y→x=y):l=m:=by
 refine List.ext_getElem? fun i => ?_
 by_cases hi:i<l.length
 ·rw [List.getElem?_eq_getElem hi,List.getElem?_eq_getElem (hn▸hi)]
  exact congrArg some (h i _ _ (List.getElem?_eq_getElem hi) (List.getElem?_eq_getElem (hn▸hi)))
 ·rw [List.getElem?_eq_none (by omega),List.getElem?_eq_none (by omega)]
theorem teq134 (l m:List Ty)(hl:l.length≤1073741824)(ih:∀ x∈l,∀ b,∃ r,IffB (x=b) r∧(K A).call 84 [tyV x,tyV b] []=some r):∃ r,IffB (l=m) r∧(K A).call 147 [tysV l,tysV m] []=some r:=by
 refine ZcI _ (vf:=v147) (by kernel_rfl) rfl (by simp) ?_
 unfold v147
 by_cases hn:l.length=m.length
 ·simp (disch:=first|omega|(simp;done)|(simp;omega)) [hn]
  refine Zam (fun i s=>(∀ (j:Nat) x y,j<i→l[j]?=some x→m[j]?=some y→x=y)∧s=⟨[(0,tysV l),(1,tysV m),(5,intV i)],[]⟩) l.length ⟨by omega,by simp⟩ ?_ ?_
  ·rintro i s hi ⟨hs,rfl⟩
   obtain ⟨x,hx⟩:=Zaa hi
   obtain ⟨y,hy⟩:=Zaa (l:=m) (i:=i) (by omega)
   obtain ⟨_,⟨b,hb,rfl⟩,hc⟩:=ih x (List.mem_of_getElem? hx) y
   unfold ZoE
   cases b with
   | true =>
    have hxy:x=y:=hb.1 rfl
    simp (disch:=first|omega|(simp;done)|(simp;omega)) [hi,hx,hy,hc,-getElem?_pos]
    intro j x' y' hj hx' hy'
    by_cases hji:j=i
    ·subst hji
     rw [hx] at hx'
     rw [hy] at hy'
     cases hx'
     cases hy'
     exact hxy
    ·exact hs j x' y' (by omega) hx' hy'
   | false =>
    have hne:l≠m:=by
     rintro rfl
     rw [hx] at hy
     cases hy
     exact absurd (hb.2 rfl) (by simp)
    simp (disch:=first|omega|(simp;done)|(simp;omega)) [hi,hx,hy,hc,-getElem?_pos]
    exact IffB.no hne
  ·rintro s ⟨hs,rfl⟩
   have he:l=m:=ZtN hn fun i x y hx hy=>hs i x y (List.getElem?_eq_some_iff.1 hx).1 hx hy
   unfold ZoE
   simp (disch:=first|omega|(simp;done)|(simp;omega))
   exact IffB.yes he
 ·have hn':¬(l.length:Int)=m.length:=by omega
  have hne:l≠m:=fun h=>hn (by rw [h])
  simp (disch:=first|omega|(simp;done)|(simp;omega)) [hn,hn']
  exact IffB.no hne
theorem teq85:∀ (n:Nat)(a b:Ty),a.size≤n→n≤1073741824→∃ r,IffB (a=b) r∧(K A).call 84 [tyV a,tyV b] []=some r:=by
 intro n
 induction n with
 | zero =>
  intro a b ha
  have:=a.size_pos
  omega
 | succ n ih =>
  intro a b ha hn
  have hal:=a.args_lt
  obtain ⟨_,⟨v,hv,rfl⟩,hc⟩:=teq134 (A:=A) a.args b.args (by omega) (fun x hx b=>ih x b (by have:=Ty.arg_lt hx;omega) (by omega))
  refine ZcI _ (vf:=v84) (by kernel_rfl) rfl (by simp) ?_
  unfold v84
  by_cases h1:a.kind=b.kind
  ·by_cases h2:a.name=b.name
   ·by_cases h3:a.id=b.id
    ·by_cases h4:a.home=b.home
     ·simp (disch:=first|omega|(simp;done)|(simp;omega)) [h1,h2,h3,h4,hc]
      exact ⟨v,hv.trans ⟨fun h5=>Ty.ext h1 h2 h3 h4 h5,fun h=>by rw [h]⟩,rfl⟩
     ·simp (disch:=first|omega|(simp;done)|(simp;omega)) [h1,h2,h3,h4,hc]
      exact IffB.no fun h=>h4 (by rw [h])
    ·simp (disch:=first|omega|(simp;done)|(simp;omega)) [h1,h2,h3,hc]
     exact IffB.no fun h=>h3 (by rw [h])
   ·simp (disch:=first|omega|(simp;done)|(simp;omega)) [h1,h2,hc]
    exact IffB.no fun h=>h2 (by rw [h])
  ·simp (disch:=first|omega|(simp;done)|(simp;omega)) [h1,hc]
   exact IffB.no fun h=>h1 (by rw [h])
end Go.Vs.Tryz
