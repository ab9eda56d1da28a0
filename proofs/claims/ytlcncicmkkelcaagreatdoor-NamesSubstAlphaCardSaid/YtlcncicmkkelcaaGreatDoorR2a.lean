/- Numbers as text and fresh names by the reference, walked. (Parts of one proof, put together.) -/
import Derived.Test.YtlcncicmkkelcaaGreatDoorR1a
set_option linter.unusedSimpArgs false
set_option linter.unusedVariables false
set_option linter.deprecated false
namespace Go.Vs
open Go
section
variable {C:Ctx}{E:Nat→Option V}{L:Nat→Option Obj}{oid:Nat}
@[simp] theorem b_quo {k:IntKind} {a b:Int} (h:b≠0):binV .quo 0 (.sc (.c (.int k a))) (.sc (.c (.int k b)))=some (.sc (.c (.int k (k.wrap (a.tdiv b)))),[]):=by simp [binV,binW,Za4,Zcb,h,ZdN]
@[simp] theorem x_slS {x:Opd} {lo hi:Option Opd}:Zad C E L oid (.slS x lo hi)=(match x.val C E with
 | .sc (.c (.str s))=>match Zap (hi.map (·.val C E)) s.length s.length with
  | none=>none
  | some h=>(Zap (lo.map (·.val C E)) 0 h).map fun l=>(.sc (.c (.str ((s.take h).drop l))),[])
 | _=>none):=rfl
end
end Go.Vs
namespace Go.Vs.Tryz
open Go Go.Vs
variable {A:Zac}
def digits:Str:=[48,49,50,51,52,53,54,55,56,57]
theorem ZiA (n:Nat)(h0:n≠0)(h:n≤1073741824):(K A).call 26 [intV n] []=some (strV (numS n),[]):=by
 refine Zas (vf:=v26) (by kernel_rfl) rfl (by simp) ?_
 have h0':¬(n:Int)=0:=by omega
 have hneg:¬(n:Int)<0:=by omega
 have hlen:=Zei n 10 (by omega) (by omega)
 unfold v26
 simp (disch:=first|omega|(simp;done)|(simp;omega)) [h0,h0',-getElem?_pos]
 refine Zal (fun i s=>∃ (k:Nat) (t:Str),k≤n∧t.length=i∧(if k=0 then numS n=t else numS n=numS k++t)∧s=⟨[(0,intV n),(3,strV t),(4,intV k)],[]⟩) (numS n).length ⟨n,[],Nat.le_refl _,rfl,by simp [h0],by first | rfl | simp⟩ ?_ ?_
 ·rintro i s hi ⟨k,t,hk,ht,he,rfl⟩
  have hk0:k≠0:=by
   rintro rfl
   rw [if_pos rfl] at he
   rw [he] at hi
   omega
  rw [if_neg hk0] at he
  have hk0':¬(k:Int)=0:=by omega
  obtain ⟨d,hd,hd10⟩:∃ d,d=k % 10∧d<10:=⟨k % 10,rfl,Nat.mod_lt _ (by omega)⟩
  have hmod:(k:Int).tmod 10=(d:Int):=by rw [Int.tmod_eq_emod_of_nonneg (by omega)];omega
  have hdiv:(k:Int).tdiv 10=((k / 10:Nat):Int):=by rw [Int.tdiv_eq_ediv_of_nonneg (by omega)];omega
  have hb1:Zap (some (intV ((d:Int)+1))) 10 10=some (d+1):=natBelow_cast (k:=.i64) (n:=d+1) (by omega)
  have hb2:Zap (some (intV (d:Int))) 0 (d+1)=some d:=natBelow_cast (k:=.i64) (n:=d) (by omega)
  have hdr:∀ d:Nat,d<10→List.drop d (48::List.take d [49,50,51,52,53,54,55,56,57])=[UInt8.ofNat (48+d)]:=by decide
  have hdd:=hdr d hd10
  have hnd:¬(d:Int)<0:=by omega
  have hnext:if k / 10=0 then numS n=UInt8.ofNat (48+d)::t else numS n=numS (k / 10)++UInt8.ofNat (48+d)::t:=by
   by_cases h10:k<10
   ·rw [if_pos (by omega),he,Zcv h10,hd,Nat.mod_eq_of_lt h10]
    rfl
   ·rw [if_neg (by omega),he,Zc9 h10,hd]
    simp
  have htl:t.length≤10:=by omega
  unfold ZsC
  simp (disch:=first|omega|(simp;done)|(simp;omega)) [hk0,hk0',hnd,hmod,hdiv,hb1,hb2,hdd,-getElem?_pos]
  exact ⟨k / 10,by omega,UInt8.ofNat (48+d)::t,by simp [ht],hnext,by simp⟩
 ·rintro s ⟨k,t,hk,ht,he,rfl⟩
  have hk0:k=0:=by
   by_cases hk0:k=0
   ·exact hk0
   ·rw [if_neg hk0] at he
    have:=Zgq k
    rw [he] at ht
    simp at ht
    rw [ht] at this
    simp at this
  subst hk0
  rw [if_pos rfl] at he
  unfold ZsC
  simp (disch:=first|omega|(simp;done)|(simp;omega)) [hneg,he,-getElem?_pos]
theorem ZkR (n:Nat)(taken:List Str)(hn:n≤1000000)(ht:taken.length≤1000000):(K A).call 29 [intV n,ZaB taken] []=some (strV (ZaX n taken),[]):=by
 refine Zas (vf:=v29) (by kernel_rfl) rfl (by simp) ?_
 have hmx:(if (0:Int)>(n:Int) then (0:Int) else (n:Int))=n:=by rw [if_neg (by omega)]
 have hge:=Zcp taken (n+taken.length+1) 1 n
 have hle:=ZgD n taken
 have hnot:=Zdl n taken
 have hkdef:ZaU n taken=ZbE taken (n+taken.length+1) 1 n:=rfl
 unfold v29
 simp (disch:=first|omega|(simp;done)|(simp;omega)) [hmx,-getElem?_pos]
 refine Zal (fun i s=>∃ j:Nat,j≤n∧i≤n+taken.length∧ZbE taken (n+taken.length+1-i) (1+i) j=ZaU n taken∧j+ZcC taken (1+i)<n+taken.length+1-i∧s=⟨[(0,intV j),(1,ZaB taken),(5,intV ((i:Int)+1))],[]⟩) (ZaU n taken-1)
  ⟨n,Nat.le_refl _,by omega,rfl,by have:=Zd3 taken 1;simp only [Nat.add_zero,Nat.sub_zero];omega,by simp⟩ ?_ ?_
 ·rintro i s hi ⟨j,hj,hin,hf,hlt,rfl⟩
  have hnum:=ZiA (A:=A) (i+1) (by omega) (by omega)
  have hlen:=Zei (i+1) 10 (by omega) (by omega)
  have hhas:=Zpx (A:=A) taken (ZbY (i+1)) (by omega)
  have hv:ZbY (i+1)=118::numS (i+1):=rfl
  obtain ⟨f,hfe⟩:∃ f,n+taken.length+1-i=f+1:=⟨n+taken.length-i,by omega⟩
  rw [hfe,Nat.add_comm 1 i,ZbE] at hf
  rw [hfe,Nat.add_comm 1 i] at hlt
  rw [show (((i+1:Nat):Int))=(i:Int)+1 by omega] at hnum
  rw [hv] at hhas
  unfold Zr8
  by_cases hm:ZbY (i+1)∈taken
  ·rw [if_pos hm] at hf
   have hm':=hm
   rw [hv] at hm'
   have hcl:=ZdR hm
   simp (disch:=first|omega|(simp;done)|(simp;omega)) [hnum,hhas,hm',-getElem?_pos]
   exact ⟨j,hj,by omega,by rw [show n+taken.length-i=f by omega,show 1+(i+1)=i+1+1 by omega];exact hf,by rw [show 1+(i+1)=i+1+1 by omega];omega,by simp⟩
  ·rw [if_neg hm] at hf
   have hm':=hm
   rw [hv] at hm'
   have hj0:j≠0:=by
    rintro rfl
    rw [if_pos rfl] at hf
    omega
   rw [if_neg hj0] at hf
   have hj0':¬(j:Int)=0:=by omega
   have hcm:=Zcg taken (i+1)
   have hsub:IntKind.i64.wrap ((j:Int)-1)=((j-1:Nat):Int):=by rw [ZgR _ (by omega)];omega
   simp (disch:=first|omega|(simp;done)|(simp;omega)) [hnum,hhas,hm',hj0,hj0',hsub,-getElem?_pos]
   exact ⟨j-1,by omega,by omega,by rw [show n+taken.length-i=f by omega,show 1+(i+1)=i+1+1 by omega];exact hf,by rw [show 1+(i+1)=i+1+1 by omega];omega,by simp⟩
 ·rintro s ⟨j,hj,hin,hf,hlt,rfl⟩
  have hk1:ZaU n taken-1+1=ZaU n taken:=by omega
  have hnum:=ZiA (A:=A) (ZaU n taken) (by omega) (by omega)
  have hlen:=Zei (ZaU n taken) 10 (by omega) (by omega)
  have hhas:=Zpx (A:=A) taken (ZbY (ZaU n taken)) (by omega)
  have hv:ZbY (ZaU n taken)=118::numS (ZaU n taken):=rfl
  have hm:ZbY (ZaU n taken)∉taken:=hnot
  obtain ⟨f,hfe⟩:∃ f,n+taken.length+1-(ZaU n taken-1)=f+1:=⟨n+taken.length-(ZaU n taken-1),by omega⟩
  rw [hfe,Nat.add_comm 1 _,hk1,ZbE,if_neg hm] at hf
  have hj0:j=0:=by
   by_cases hj0:j=0
   ·exact hj0
   ·rw [if_neg hj0] at hf
    have:=Zcp taken f (ZaU n taken+1) (j-1)
    omega
  subst hj0
  rw [hv] at hhas hm
  rw [show (((ZaU n taken-1:Nat):Int))+1=(ZaU n taken:Int) by omega]
  unfold Zr8
  simp (disch:=first|omega|(simp;done)|(simp;omega)) [hnum,hhas,hm,ZaX,ZbY,-getElem?_pos]
end Go.Vs.Tryz
namespace Go.Vs
open Go
structure EntD where
 name:Str
 count:Int
 ty:Ty
def ZbJ (e:EntD):List Cell:=.str e.name::.int .i64 e.count::e.ty.row
def Zbr (l:List EntD):List (List Cell):=l.map ZbJ
@[simp] theorem entRow_len (e:EntD):(ZbJ e).length=7:=by simp [ZbJ]
@[simp] theorem entRows_len (l:List EntD):(Zbr l).length=l.length:=by simp [Zbr]
@[simp] theorem entRows_get (l:List EntD) (i:Nat):(Zbr l)[i]?=(l[i]?).map ZbJ:=by simp [Zbr]
@[simp] theorem okRows_ent (l:List EntD):Za2 7 (wr (Zbr l))=true:=ZbM l entRow_len
@[simp] theorem entRows_snoc (l:List EntD) (x:EntD):wr (Zbr l)++[wc (ZbJ x)]=wr (Zbr (l++[x])):=by simp [Zbr,wr]
@[simp] theorem entRows0:Zbr []=[]:=rfl
def Zdt (c:Int)(t:Ty):List Cell:=.int .i64 c::t.row
@[simp] theorem schRow_len (c:Int) (t:Ty):(Zdt c t).length=6:=by simp [Zdt]
section
variable (e:EntD)(c:Int)(t:Ty)
@[simp] theorem cut_n0:cut (ZbJ e) 0 1=some [.str e.name]:=by simp [ZbJ]
@[simp] theorem cut_n1:cut (ZbJ e) 1 6=some (Zdt e.count e.ty):=by rw [ZbJ,Zdt,Ty.row_eq];rfl
@[simp] theorem cut_n:cut (ZbJ e) 0 7=some (ZbJ e):=by rw [ZbJ,Ty.row_eq];rfl
@[simp] theorem cutw_n0:cut (wc (ZbJ e)) 0 1=some [.c (.str e.name)]:=by rw [ZbJ,Ty.row_eq];rfl
@[simp] theorem cutw_n1:cut (wc (ZbJ e)) 1 6=some (wc (Zdt e.count e.ty)):=by rw [ZbJ,Zdt,Ty.row_eq];rfl
@[simp] theorem cutw_n:cut (wc (ZbJ e)) 0 7=some (wc (ZbJ e)):=by rw [ZbJ,Ty.row_eq];rfl
@[simp] theorem cutw_sch:cut (wc (Zdt c t)) 0 6=some (wc (Zdt c t)):=by rw [Zdt,Ty.row_eq];rfl
@[simp] theorem flat_sch:(wc (Zdt c t)).all Zce=false:=by rw [Zdt,Ty.row_eq];simp [wc,Zce]
@[simp] theorem flat_ent:(wc (ZbJ e)).all Zce=false:=by rw [ZbJ,Ty.row_eq];simp [wc,Zce]
end
section
variable {C:Ctx}{E:Nat→Option V}{L:Nat→Option Obj}{oid:Nat}
@[simp] theorem x_sl {s:Nat} {x:Opd} {lo hi mx:Option Opd}:Zad C E L oid (.sl s x lo hi mx)=Zbn L s (x.val C E) (lo.map (·.val C E)) (hi.map (·.val C E)) (mx.map (·.val C E)):=rfl
theorem Zih {α:Type}{f:α→List Cell}{k:Nat}(h:∀ a,(f a).length=k)(l:List α):Zbv k (l.map f)=true:=by
 cases l with
 | nil=>rfl
 | cons a r=>simp [Zbv,h a]
@[simp] theorem fit_ent (l:List EntD):Zbv 7 (Zbr l)=true:=Zih entRow_len l
@[simp] theorem fit_data (l:List DataD):Zbv 4 (Zax l)=true:=Zih dataRow_len l
@[simp] theorem slice_from {s n:Nat} {k:IntKind} {rows:List (List Cell)} (h:n≤rows.length):Zbn L s (.sc (.c (.sl rows))) (some (.sc (.c (.int k (n:Int))))) none none=bif Zbv s rows then some (.sc (.c (.sl (rows.drop n))),[]) else none:=by
 simp [Zbn,Zap,ZbU,Za6,Nat.lt_succ_of_le h]
@[simp] theorem slice_from1 {s n:Nat} {k:IntKind} {rows:List (List Cell)} (h:n+1≤rows.length):Zbn L s (.sc (.c (.sl rows))) (some (.sc (.c (.int k ((n:Int)+1))))) none none=bif Zbv s rows then some (.sc (.c (.sl (rows.drop (n+1)))),[]) else none:=slice_from (n:=n+1) h
@[simp] theorem slice_to {s n:Nat} {k:IntKind} {rows:List (List Cell)} (h:n≤rows.length):Zbn L s (.sc (.c (.sl rows))) none (some (.sc (.c (.int k (n:Int))))) none=bif Zbv s rows then some (.sc (.c (.sl (rows.take n))),[]) else none:=by
 simp [Zbn,Zap,ZbU,Za6,Nat.lt_succ_of_le h]
@[simp] theorem entRows_drop (l:List EntD) (n:Nat):(Zbr l).drop n=Zbr (l.drop n):=by simp [Zbr]
@[simp] theorem dataRows_take (l:List DataD) (n:Nat):(Zax l).take n=Zax (l.take n):=by simp [Zax]
@[simp] theorem call1_clo {call:Zac} {f:FuncId} {w:W} {args:List (Bool × V)}:Zc2 call L oid (.sc (.clo f [true] [[w]])) args=Zio call L oid f (Zau L (args++[(true,.sc w)])):=by
 rw [Zgo]
 rfl
end
end Go.Vs
namespace Go.Vs.Tryz
open Go Go.Vs
variable {A:Zac}
abbrev entsV (l:List EntD):V:=.sc (.c (.sl (Zbr l)))
def names (l:List EntD):List Str:=l.map (·.name)
@[simp] theorem names_len (l:List EntD):(names l).length=l.length:=by simp [names]
@[simp] theorem names_get (l:List EntD) (i:Nat):(names l)[i]?=(l[i]?).map (·.name):=by simp [names]
def ZlY (l:List EntD):Nat→List EntD
 | 0=>[]
 | i+1=>match l[i]? with
  | none=>ZlY l i
  | some e=>if e.name∈names (l.drop (i+1)) then ZlY l i else ZlY l i++[e]
variable {A:Zac}
def rlast (l:List Str)(s:Str):Int:=if s∈l then (l.length:Int)-1-Zbg l.reverse s else -1
theorem ZgX {l:List Str}{i:Nat}(h:i<l.length):l.reverse[i]?=l[l.length-1-i]?:=List.getElem?_reverse h
def LookP (b:Bool)(r:V × List Obj):Prop:=∃ c t,r=(.tu [.ag (wc (Zdt c t)),Zah b],[])
def Zbx (d:DataD):List Str:=d.cons.map (·.name)
@[simp] theorem cnames_len (d:DataD):(Zbx d).length=d.cons.length:=by simp [Zbx]
@[simp] theorem cnames_get (d:DataD) (i:Nat):(Zbx d)[i]?=(d.cons[i]?).map (·.name):=by simp [Zbx]
def Zfz (ds:List DataD)(c:Str):Nat:=ds.findIdx fun d=>decide (c∈Zbx d)
theorem Zpq {ds:List DataD}{c:Str}(h:Zfz ds c<ds.length):∃ d,ds[Zfz ds c]?=some d∧c∈Zbx d:=by
 refine ⟨ds[Zfz ds c],List.getElem?_eq_getElem h,?_⟩
 have h1:=List.findIdx_getElem (w:=h)
 exact of_decide_eq_true h1
def Zsq (ds:List DataD)(c:Str):Int × Int × Bool:=match ds[Zfz ds c]? with
 | some d=>(Zfz ds c,Zbg (Zbx d) c,true)
 | none=>(0,0,false)
abbrev findV (r:Int × Int × Bool):V:=.tu [intV r.1,intV r.2.1,Zah r.2.2]
end Go.Vs.Tryz
namespace Go.Vs
open Go
section
variable {C:Ctx}
theorem Zjb (ks:List Nat)(s:St):ZcB ks s=s.scrub ks:=by
 cases ks with
 | cons _ _=>rfl
 | nil =>
  obtain ⟨E,O⟩:=s
  unfold ZcB St.scrub
  have:(O.any fun x=>x.2.isSome && List.contains [] x.1)=false:=by
   rw [List.any_eq_false]
   intro x _
   simp
  simp only [this,cond_false]
theorem wp_rangeB {x:Opd}{f s p q k:Nat}{ag:Bool}{asg body:VCode}{Q:Ex→St→Prop}{st:St}{rows:List (List Cell)}(hx:x.val C (get? st.env)=.sc (.clo f [true] [[.ptr k 0]]))(hk:64≤k)
 (hL:look st.objs k=some (.box [.c (.sl rows)])) (hn:rows.length≤4294967296) (I:Nat→St→Prop) (h0:I rows.length (ZcB [k] st))
 (round:∀ i st' row,I (i+1) st'→rows[i]?=some row→row.length=s∧∃ v,asV ag (wc row)=some v ∧
   wp C asg (fun e s1=>e=.normal∧((Zaj body).all fun k=>(look s1.objs k).isNone)=true ∧
    wp C body (fun e s2=>(e=.normal∧I i ⟨(ZcB (Zaj asg++Zaj body) st').env,s2.objs⟩)∨(e≠.normal∧Q e ⟨(ZcB (Zaj asg++Zaj body) st').env,s2.objs⟩)) s1)
    ⟨put (put (ZcB (Zaj asg++Zaj body) st').env p (.sc (.c (.int .i64 i)))) q v,(ZcB (Zaj asg++Zaj body) st').objs⟩)
 (fin:∀ st',I 0 st'→Q .normal st'):wp C (.rangeB x f s ag p q asg body) Q st:=by
 have key:∀ i,i≤rows.length→∀ st',I i st'→∃ n e s',(∀ n',n≤n'→Zdo (run C n' asg) (run C n' body) (Zaj asg++Zaj body) (Zaj body) s ag p q rows i st'=some (e,s'))∧Q e s':=by
  intro i
  induction i with
  | zero=>exact fun _ st' h=>⟨0,.normal,st',fun _ _=>rfl,fin st' h⟩
  | succ i ih =>
   intro hi st' h
   obtain ⟨row,hrow⟩:∃ row,rows[i]?=some row:=⟨rows[i],List.getElem?_eq_getElem (by omega)⟩
   obtain ⟨hlen,v,hv,n1,e1,s1,h1,rfl,h2,n2,e2,s2,h3,h4⟩:=round i st' row h hrow
   rw [Zjb] at h1 h4
   have hl:(row.length == s)=true:=by simp [hlen]
   have r1:∀ n',n1≤n'→run C n' asg ⟨put (put (st'.scrub (Zaj asg++Zaj body)).env p (.sc (.c (.int .i64 i)))) q v,(st'.scrub (Zaj asg++Zaj body)).objs⟩=some (.normal,s1):=fun n' hn=>ZbX (gl:=C.gl) (c:=C.call) (Le.refl _) hn h1
   have r2:∀ n',n2≤n'→run C n' body s1=some (e2,s2):=fun n' hn=>ZbX (gl:=C.gl) (c:=C.call) (Le.refl _) hn h3
   have hv':asV ag (row.map W.c)=some v:=hv
   rcases h4 with ⟨rfl,h4⟩|⟨hne,h4⟩
   ·obtain ⟨n3,e3,s3,h5,h6⟩:=ih (by omega) _ h4
    refine ⟨max n1 (max n2 n3),e3,s3,fun n' hn' => ?_,h6⟩
    have ha:=r1 n' (by omega)
    have hb:=r2 n' (by omega)
    simp only [Zdo,hrow,hl,cond_true,hv',ha,h2,hb]
    exact h5 n' (by omega)
   ·refine ⟨max n1 n2,e2,_,fun n' hn' => ?_,h4⟩
    have ha:=r1 n' (by omega)
    have hb:=r2 n' (by omega)
    simp only [Zdo,hrow,hl,cond_true,hv',ha,h2,hb]
    cases e2 with
    | normal=>exact absurd rfl hne
    | exit _=>rfl
    | ret=>rfl
 obtain ⟨n,e,s',h1,h2⟩:=key rows.length (Nat.le_refl _) _ h0
 refine ⟨n,e,s',?_,h2⟩
 have hb:(f == f && Nat.ble 64 k)=true:=by
  simp only [beq_self_eq_true,Bool.true_and]
  exact Nat.ble_eq_true_of_le hk
 have hb2:Nat.ble rows.length Zfs=true:=Nat.ble_eq_true_of_le (by unfold Zfs;omega)
 rw [Zjb] at h1
 simp only [run,hx,hb,cond_true,hL,hb2]
 exact h1 n (Nat.le_refl n)
attribute [simp] Zaj
end
end Go.Vs
namespace Go.Vs.Tryz
open Go Go.Vs
variable {A:Zac}
def ZeC (ds:List DataD)(i:Nat):Nat:=((ds.take i).map fun d=>d.cons.length).sum
theorem Zhi {ds:List DataD}{i:Nat}{d:DataD}(h:ds[i]?=some d):ZeC ds (i+1)=ZeC ds i+d.cons.length:=by
 unfold ZeC
 rw [ZaC h,List.map_append,List.sum_append]
 simp
def Zfp (ds:List DataD)(seen bound:List Str)(e:Exp):Int :=
 if e.kind=1 then (if e.name∈bound then seen.length+rlast bound e.name else rlast seen e.name)
 else if e.kind=2 then match Zsq ds e.name with
  | (i,k,true)=>seen.length+bound.length+k+ZeC ds i.toNat
  | _=>-1
 else -1
variable {A:Zac}
theorem Zgp {l:List Str}{s:Str}{i:Nat}(h:l[i]?=some s)(hj:∀ j x,i<j→l[j]?=some x→¬x=s):rlast l s=i:=by
 have hi:=(List.getElem?_eq_some_iff.1 h).1
 have hmem:s∈l:=List.mem_of_getElem? h
 unfold rlast
 rw [if_pos hmem]
 have hp:=ZaN.2 (List.mem_reverse.2 hmem)
 have hx:=ZdG hp
 rw [List.length_reverse] at hp
 rw [ZgX hp] at hx
 have h1:¬i<l.length-1-Zbg l.reverse s:=fun hlt=>hj _ s hlt hx rfl
 have h2:¬l.length-1-i<Zbg l.reverse s:=by
  intro hlt
  obtain ⟨x,hx2,hne⟩:=Ze4 hlt
  rw [ZgX (by omega),show l.length-1-(l.length-1-i)=i by omega,h] at hx2
  cases hx2
  exact hne rfl
 omega
theorem Zb6 {l:List Str}{s:Str}(h:s∉l):rlast l s=-1:=if_neg h
theorem ZjZ (l:List Str)(s:Str):-1≤rlast l s∧rlast l s≤l.length:=by
 unfold rlast
 split
 ·rename_i h
  have:=ZaN.2 (List.mem_reverse.2 h)
  rw [List.length_reverse] at this
  omega
 ·omega
theorem Zdm {l:List Str}{s:Str}(h:s∈l):0≤rlast l s:=by
 unfold rlast
 rw [if_pos h]
 have:=ZaN.2 (List.mem_reverse.2 h)
 rw [List.length_reverse] at this
 omega
def seenN (ctx:List EntD):List Str:=names (ZlY ctx ctx.length)
def headEq (a b:Exp):Prop:=a.kind=b.kind∧a.num=b.num∧a.ty=b.ty∧a.kids.length=b.kids.length∧a.arms.length=b.arms.length
def ZbZ (a b:Exp):Prop:=∀ (i:Nat) p q,a.arms[i]?=some p→b.arms[i]?=some q→p.1.con=q.1.con∧p.1.vars.length=q.1.vars.length
def Zdj (left right:List Str)(s t:Str):Prop:=rlast left s=rlast right t∧(0≤rlast left s∨s=t)
def ZqW (a:Exp)(l:List (Exp→List Str→List Str→Prop))(b:Exp)(left right:List Str):Prop :=
 headEq a b∧(a.kind=1→Zdj left right a.name b.name)∧(a.kind=2→a.name=b.name) ∧
  (a.kind≠1→a.kind≠2→ZbZ a b∧∀ (i:Nat) f y,l[i]?=some f→b.children[i]?=some y→f y (left++a.bound i) (right++b.bound i))
def Zbb (a:Exp):Exp→List Str→List Str→Prop:=a.fold ZqW
theorem ZbW (a b:Exp)(left right:List Str):Zbb a b left right=(headEq a b∧(a.kind=1→Zdj left right a.name b.name)∧(a.kind=2→a.name=b.name) ∧
 (a.kind≠1→a.kind≠2→ZbZ a b∧∀ (i:Nat) x y,a.children[i]?=some x→b.children[i]?=some y→Zbb x y (left++a.bound i) (right++b.bound i))):=by
 unfold Zbb
 rw [Exp.fold_eq]
 unfold ZqW
 simp only [List.getElem?_map,Option.map_eq_some_iff]
 apply propext
 refine and_congr_right fun _=>and_congr_right fun _=>and_congr_right fun _=>forall_congr' fun _=>forall_congr' fun _=>and_congr_right fun _=>forall_congr' fun i => ?_
 constructor
 ·exact fun h x y hx hy=>h _ y ⟨x,hx,rfl⟩ hy
 ·rintro h f y ⟨x,hx,rfl⟩ hy
  exact h x y hx hy
def news (taken:List Str)(n k:Nat):List Str:=(List.range k).map fun j=>ZaX (n+j) taken
@[simp] theorem news_len (taken:List Str) (n k:Nat):(news taken n k).length=k:=by simp [news]
theorem ZbN {taken:List Str}{n k j:Nat}(h:j<k):(news taken n k)[j]?=some (ZaX (n+j) taken):=by simp [news,h]
theorem ZpA (taken:List Str)(n k:Nat):news taken 0 (n+k)=news taken 0 n++news taken n k:=by
 refine List.ext_getElem? fun j => ?_
 by_cases h1:j<n
 ·rw [List.getElem?_append_left (by simpa using h1),ZbN h1,ZbN (by omega)]
 ·rw [List.getElem?_append_right (by simpa using h1),news_len]
  by_cases h2:j<n+k
  ·rw [ZbN h2,ZbN (by omega),show 0+j=n+(j-n) by omega]
  ·rw [List.getElem?_eq_none (by simp;omega),List.getElem?_eq_none (by simp;omega)]
def Zk3 (taken:List Str)(e:Exp)(l:List (List Str→List Str→Exp))(old names:List Str):Exp :=
 if e.kind=1 then (if 0≤rlast old e.name then .mk e.kind e.pos ((names[(rlast old e.name).toNat]?).getD []) e.num e.kids e.arms e.ty else e)
 else
  let cs:=l.zipIdx.map fun p=>p.1 (old++e.bound p.2) (names++news taken old.length (e.bound p.2).length)
  .mk e.kind e.pos (if e.kind=4∨e.kind=6∨e.kind=7 then ZaX old.length taken else e.name) e.num (cs.take e.kids.length)
   (List.zipWith (fun a c=>(⟨a.1.pos,a.1.con,news taken old.length a.1.vars.length⟩,c)) e.arms (cs.drop e.kids.length)) e.ty
def ZbD (taken:List Str)(e:Exp):List Str→List Str→Exp:=e.fold (Zk3 taken)
theorem Zcj {taken:List Str}{e:Exp}{old names:List Str}(h:e.kind=1):ZbD taken e old names=if 0≤rlast old e.name then .mk e.kind e.pos ((names[(rlast old e.name).toNat]?).getD []) e.num e.kids e.arms e.ty else e:=by
 unfold ZbD
 rw [Exp.fold_eq]
 simp only [Zk3,if_pos h]
def ZaL (taken:List Str)(e:Exp)(old names:List Str):List Exp:=e.children.zipIdx.map fun p=>ZbD taken p.1 (old++e.bound p.2) (names++news taken old.length (e.bound p.2).length)
@[simp] theorem canonC_len (taken:List Str) (e:Exp) (old names:List Str):(ZaL taken e old names).length=e.kids.length+e.arms.length:=by simp [ZaL]
theorem Zcd {taken:List Str}{e x:Exp}{old names:List Str}{i:Nat}(h:e.children[i]?=some x):(ZaL taken e old names)[i]?=some (ZbD taken x (old++e.bound i) (names++news taken old.length (e.bound i).length)):=by
 simp [ZaL,h]
theorem Zd1 {taken:List Str}{e:Exp}{old names:List Str}(h:e.kind≠1):ZbD taken e old names=.mk e.kind e.pos (if e.kind=4∨e.kind=6∨e.kind=7 then ZaX old.length taken else e.name) e.num ((ZaL taken e old names).take e.kids.length)
 (List.zipWith (fun a c=>(⟨a.1.pos,a.1.con,news taken old.length a.1.vars.length⟩,c)) e.arms ((ZaL taken e old names).drop e.kids.length)) e.ty:=by
 unfold ZbD
 rw [Exp.fold_eq]
 simp only [Zk3,if_neg h]
 have:((e.children.map (Exp.fold (Zk3 taken))).zipIdx.map fun p=>p.1 (old++e.bound p.2) (names++news taken old.length (e.bound p.2).length))=ZaL taken e old names:=by
  unfold ZaL ZbD
  refine List.ext_getElem? fun j => ?_
  simp only [List.getElem?_map,List.getElem?_zipIdx]
  cases e.children[j]?<;>simp
 rw [this]
theorem ZhE {e x:Exp}{i:Nat}(hk:e.kind≠1)(hx:e.children[i]?=some x){s:Str}(hs:s∈Zag x):s∈e.bound i∨s∈Zag e:=by
 by_cases hb:s∈e.bound i
 ·exact .inl hb
 ·refine .inr ?_
  rw [Zbz,if_neg hk,←ZiH]
  have key:∀ n,n≤e.children.length→i<n→s∈outP e n:=by
   intro n
   induction n with
   | zero=>intro _ h;omega
   | succ n ih =>
    intro hn hi
    obtain ⟨y,hy⟩:=Zaa (l:=e.children) (i:=n) (by omega)
    rw [Zg3 hy,ZdB]
    by_cases hin:i=n
    ·subst hin
     rw [hx] at hy
     cases hy
     exact .inr ⟨hs,hb⟩
    ·exact .inl (ih (by omega) (by omega))
  exact key _ (Nat.le_refl _) (List.getElem?_eq_some_iff.1 hx).1
theorem ZaH {e:Exp}{i:Nat}:e.bound i=if e.kind=4∨e.kind=7∨(e.kind=6∧i=1) then [e.name] else if e.kind=8∧0<i then ((e.arms[i-1]?).map fun a=>a.1.vars).getD [] else []:=rfl
section
variable (k p:Int)(n:Str)(m:Int)(ks:List Exp)(l:List (ArmH × Exp))(t:Ty)
theorem kind_mk:(Exp.mk k p n m ks l t).kind=k:=rfl
theorem pos_mk:(Exp.mk k p n m ks l t).pos=p:=rfl
theorem ZfI:(Exp.mk k p n m ks l t).name=n:=rfl
theorem num_mk:(Exp.mk k p n m ks l t).num=m:=rfl
theorem ZnC:(Exp.mk k p n m ks l t).kids=ks:=rfl
theorem Zdu:(Exp.mk k p n m ks l t).arms=l:=rfl
theorem ty_mk:(Exp.mk k p n m ks l t).ty=t:=rfl
theorem ZdH (i:Nat):(Exp.mk k p n m ks l t).bound i=if k=4∨k=7∨(k=6∧i=1) then [n] else if k=8∧0<i then ((l[i-1]?).map fun a=>a.1.vars).getD [] else []:=rfl
theorem Za3:(Exp.mk k p n m ks l t).children=ks++l.map (·.2):=rfl
end
theorem Zch {taken:List Str}{e:Exp}{old names:List Str}(h:e.kind≠1)(hw:e.wf1) :
 headEq e (ZbD taken e old names)∧(ZbD taken e old names).children=ZaL taken e old names∧ZbZ e (ZbD taken e old names)∧(e.kind=2→e.name=(ZbD taken e old names).name) ∧
 ∀ i,i<e.children.length→(ZbD taken e old names).bound i=news taken old.length (e.bound i).length:=by
 have hl:=canonC_len taken e old names
 have hal:(List.zipWith (fun (a:ArmH × Exp) c=>((⟨a.1.pos,a.1.con,news taken old.length a.1.vars.length⟩:ArmH),c)) e.arms ((ZaL taken e old names).drop e.kids.length)).length=e.arms.length:=by
  rw [List.length_zipWith,List.length_drop,hl]
  omega
 have hkl:((ZaL taken e old names).take e.kids.length).length=e.kids.length:=by rw [List.length_take,hl];omega
 rw [Zd1 h]
 refine ⟨⟨rfl,rfl,rfl,by simp only [ZnC,hkl],by simp only [Zdu,hal]⟩,?_,?_,?_,?_⟩
 ·simp only [Za3]
  rw [List.map_zipWith]
  have:List.zipWith (fun (a:ArmH × Exp) (c:Exp)=>c) e.arms ((ZaL taken e old names).drop e.kids.length)=(ZaL taken e old names).drop e.kids.length:=by
   refine List.ext_getElem? fun j => ?_
   rw [List.getElem?_zipWith]
   by_cases hj:j<e.arms.length
   ·rw [List.getElem?_eq_getElem hj]
    cases ((ZaL taken e old names).drop e.kids.length)[j]?<;>rfl
   ·rw [List.getElem?_eq_none (by omega),List.getElem?_eq_none (by rw [List.length_drop,hl];omega)]
  rw [this,List.take_append_drop]
 ·intro i p q hp hq
  simp only [Zdu,List.getElem?_zipWith,hp] at hq
  cases hc:((ZaL taken e old names).drop e.kids.length)[i]? with
  | none=>rw [hc] at hq;simp at hq
  | some c =>
   rw [hc] at hq
   simp only [Option.some.injEq] at hq
   subst hq
   simp
 ·intro h2
  simp [ZfI,h2]
 ·intro i hi
  have h1:=ZaH (e:=e) (i:=i)
  rw [ZdH]
  by_cases c1:e.kind=4∨e.kind=7∨(e.kind=6∧i=1)
  ·rw [if_pos c1] at h1
   have c2:e.kind=4∨e.kind=6∨e.kind=7:=by omega
   rw [if_pos c1,if_pos c2,h1]
   simp [news]
  ·rw [if_neg c1] at h1
   rw [if_neg c1]
   by_cases c2:e.kind=8∧0<i
   ·rw [if_pos c2] at h1
    rw [if_pos c2]
    have hk1:=hw.1 c2.1
    rw [e.children_len] at hi
    obtain ⟨a,ha⟩:=Zaa (l:=e.arms) (i:=i-1) (by omega)
    obtain ⟨c,hc⟩:=Zaa (l:=(ZaL taken e old names).drop e.kids.length) (i:=i-1) (by rw [List.length_drop,hl];omega)
    rw [h1,List.getElem?_zipWith,ha,hc]
    simp
   ·rw [if_neg c2] at h1
    rw [if_neg c2,h1]
    simp [news]
theorem headEq.symm {a b:Exp}(h:headEq a b):headEq b a:=⟨h.1.symm,h.2.1.symm,h.2.2.1.symm,h.2.2.2.1.symm,h.2.2.2.2.symm⟩
theorem headEq.children {a b:Exp}(h:headEq a b):a.children.length=b.children.length:=by
 rw [a.children_len,b.children_len,h.2.2.2.1,h.2.2.2.2]
theorem Zkm (taken:List Str)(e:Exp):e.wf→∀ old,(∀ s∈Zag e,s∈old∨s∈taken)→Zbb e (ZbD taken e old (news taken 0 old.length)) old (news taken 0 old.length):=by
 induction e using Exp.ind with
 | h e ih =>
  intro hw old hf
  by_cases hk:e.kind=1
  ·have hch:e.children=[]:=by
    have h1:=hw.one.2.2 hk
    have h2:=hw.one.2.1 (by rw [hk];decide)
    simp [Exp.children,h1,h2]
   rw [Zcj hk]
   by_cases hm:e.name∈old
   ·have hp:=Zdm hm
    have hb:=ZjZ old e.name
    have hlt:(rlast old e.name).toNat<old.length:=by
     unfold rlast at hp ⊢
     rw [if_pos hm] at hp ⊢
     have:=ZaN.2 (List.mem_reverse.2 hm)
     rw [List.length_reverse] at this
     omega
    rw [if_pos hp,ZbN hlt,ZbW]
    refine ⟨⟨rfl,rfl,rfl,rfl,rfl⟩,fun _=>⟨?_,.inl hp⟩,fun h2=>absurd h2 (by rw [hk];decide),fun h1=>absurd hk h1⟩
    have:rlast (news taken 0 old.length) (ZaX (0+(rlast old e.name).toNat) taken)=((rlast old e.name).toNat:Nat):=by
     refine Zgp (ZbN hlt) fun j x hj hx he => ?_
     have hjl:j<old.length:=by
      have:=(List.getElem?_eq_some_iff.1 hx).1
      simpa using this
     rw [ZbN hjl] at hx
     cases hx
     have:=ZhW he
     omega
    simp only [ZfI,Option.getD_some,this]
    omega
   ·have hp:¬0≤rlast old e.name:=by rw [Zb6 hm];omega
    rw [if_neg hp,ZbW]
    refine ⟨⟨rfl,rfl,rfl,rfl,rfl⟩,fun _=>⟨?_,.inr rfl⟩,fun _=>rfl,fun h1=>absurd hk h1⟩
    have ht:e.name∈taken:=(hf e.name (by rw [Zbz,if_pos hk];simp)).resolve_left hm
    rw [Zb6 hm,Zb6]
    intro hn
    obtain ⟨j,hj⟩:=List.mem_iff_getElem?.1 hn
    have hjl:j<old.length:=by
     have:=(List.getElem?_eq_some_iff.1 hj).1
     simpa using this
    rw [ZbN hjl] at hj
    exact Zdl _ _ ((Option.some.inj hj)▸ht)
  ·obtain ⟨p1,p2,p3,p4,p5⟩:=Zch (taken:=taken) (old:=old) (names:=news taken 0 old.length) hk hw.one
   rw [ZbW]
   refine ⟨p1,fun h1=>absurd h1 hk,p4,fun _ _=>⟨p3,fun i x y hx hy => ?_⟩⟩
   have hi:=(List.getElem?_eq_some_iff.1 hx).1
   rw [p2,Zcd hx] at hy
   cases hy
   have hadd:news taken 0 old.length++news taken old.length (e.bound i).length=news taken 0 (old++e.bound i).length:=by rw [List.length_append,ZpA]
   rw [p5 i hi,hadd]
   refine ih x (List.mem_of_getElem? hx) (hw.child (List.mem_of_getElem? hx)) _ fun s hs => ?_
   rcases ZhE hk hx hs with h|h
   ·exact .inl (List.mem_append_right _ h)
   ·exact (hf s h).imp (fun h=>List.mem_append_left _ h) id
def ZhV (e:Exp)(cs:List Exp):Exp:=.mk e.kind 0 e.name e.num (cs.take e.kids.length) (List.zipWith (fun (a:ArmH × Exp) c=>((⟨0,a.1.con,a.1.vars⟩:ArmH),c)) e.arms (cs.drop e.kids.length)) e.ty
def Zan (e:Exp):Exp:=e.fold ZhV
theorem Zhc (e:Exp):Zan e=ZhV e (e.children.map Zan):=Exp.fold_eq _ e
theorem Zoh {α β γ:Type}{f:α→β→γ}{l:List α}{m:List β}(h:l.length=m.length)(g:γ→β)(hg:∀ a b,g (f a b)=b):(List.zipWith f l m).map g=m:=by
 refine List.ext_getElem? fun j => ?_
 rw [List.getElem?_map,List.getElem?_zipWith]
 by_cases hj:j<l.length
 ·rw [List.getElem?_eq_getElem hj,List.getElem?_eq_getElem (show j<m.length by omega)]
  simp [hg]
 ·rw [List.getElem?_eq_none (by omega),List.getElem?_eq_none (by omega)]
  rfl
theorem ZaZ (e:Exp):(Zan e).kind=e.kind∧(Zan e).name=e.name∧(Zan e).num=e.num∧(Zan e).ty=e.ty∧(Zan e).kids.length=e.kids.length∧(Zan e).arms.length=e.arms.length ∧
 (Zan e).children=e.children.map Zan∧(∀ i:Nat,(Zan e).arms[i]?=(e.arms[i]?).map fun (a:ArmH × Exp)=>((⟨0,a.1.con,a.1.vars⟩:ArmH),Zan a.2)):=by
 have hl:(e.children.map Zan).length=e.kids.length+e.arms.length:=by simp
 have hkl:((e.children.map Zan).take e.kids.length).length=e.kids.length:=by rw [List.length_take,hl];omega
 have hdl:((e.children.map Zan).drop e.kids.length).length=e.arms.length:=by rw [List.length_drop,hl];omega
 have hal:(List.zipWith (fun (a:ArmH × Exp) (c:Exp)=>((⟨0,a.1.con,a.1.vars⟩:ArmH),c)) e.arms ((e.children.map Zan).drop e.kids.length)).length=e.arms.length:=by
  rw [List.length_zipWith,hdl];omega
 rw [Zhc]
 refine ⟨rfl,rfl,rfl,rfl,by simp only [ZhV,ZnC,hkl],by simp only [ZhV,Zdu,hal],?_,?_⟩
 ·simp only [ZhV,Za3]
  rw [Zoh (g:=fun (x:ArmH × Exp)=>x.2) (by rw [hdl]) (fun _ _=>rfl),List.take_append_drop]
 ·intro i
  simp only [ZhV,Zdu,List.getElem?_zipWith]
  have hd:(e.children.map Zan).drop e.kids.length=e.arms.map fun a=>Zan a.2:=by
   simp [Exp.children]
  rw [hd,List.getElem?_map]
  cases e.arms[i]?<;>rfl
theorem ZeO (e:Exp)(i:Nat):(Zan e).bound i=e.bound i:=by
 obtain ⟨h1,h2,_,_,_,_,_,h8⟩:=ZaZ e
 rw [ZaH,ZaH,h1,h2,h8]
 cases e.arms[i-1]?<;>rfl
theorem Zeg (e:Exp):e.wf→(Zan e).wf:=by
 induction e using Exp.ind with
 | h e ih =>
  intro hw
  obtain ⟨h1,h2,h3,h4,h5,h6,h7,h8⟩:=ZaZ e
  rw [Exp.wf_eq]
  obtain ⟨w1,w2,w3⟩:=hw.one
  refine ⟨⟨fun hk=>by rw [h5];exact w1 (h1▸hk),fun hk => ?_,fun hk => ?_⟩,?_⟩
  ·have:=w2 (h1▸hk)
   rw [this] at h6
   exact List.length_eq_zero_iff.1 h6
  ·have:=w3 (h1▸hk)
   rw [this] at h5
   exact List.length_eq_zero_iff.1 h5
  ·intro x hx
   rw [h7] at hx
   obtain ⟨y,hy,rfl⟩:=List.mem_map.1 hx
   exact ih y hy (hw.child hy)
theorem ZdZ (e:Exp):(Zan e).weight=e.weight:=by
 induction e using Exp.ind with
 | h e ih =>
  obtain ⟨h1,h2,h3,h4,h5,h6,h7,h8⟩:=ZaZ e
  rw [Exp.weight_eq,e.weight_eq,h7,List.map_map]
  have ha:((Zan e).arms.map fun a=>a.1.vars.length)=e.arms.map fun a=>a.1.vars.length:=by
   refine List.ext_getElem? fun i => ?_
   rw [List.getElem?_map,List.getElem?_map,h8]
   cases e.arms[i]?<;>rfl
  have hc:e.children.map (Exp.weight ∘ Zan)=e.children.map Exp.weight:=List.map_congr_left fun x hx=>ih x hx
  rw [ha,hc]
theorem Zme (e:Exp):Zag (Zan e)=Zag e:=by
 induction e using Exp.ind with
 | h e ih =>
  obtain ⟨h1,h2,h3,h4,h5,h6,h7,h8⟩:=ZaZ e
  rw [Zbz,Zbz,h1,h2,h7,List.map_map]
  have hc:e.children.map (Zag ∘ Zan)=e.children.map Zag:=List.map_congr_left fun x hx=>ih x hx
  rw [hc]
  have hb:ZdK (Zan e)=ZdK e:=by
   funext out p
   simp only [ZdK,ZeO]
  rw [hb]
theorem Zjr (a:Exp):∀ b l r,Zbb (Zan a) b l r→Zbb a b l r:=by
 induction a using Exp.ind with
 | h a ih =>
  intro b l r h
  obtain ⟨h1,h2,h3,h4,h5,h6,h7,h8⟩:=ZaZ a
  rw [ZbW] at h ⊢
  obtain ⟨g1,g2,g3,g4⟩:=h
  rw [h1,h2] at g2
  rw [h1,h2] at g3
  rw [h1] at g4
  unfold headEq at g1
  rw [h1,h3,h4,h5,h6] at g1
  refine ⟨g1,g2,g3,fun k1 k2 => ?_⟩
  obtain ⟨g5,g6⟩:=g4 k1 k2
  refine ⟨fun i p q hp hq=>g5 i (⟨0,p.1.con,p.1.vars⟩,Zan p.2) q (by rw [h8,hp];rfl) hq,fun i x y hx hy => ?_⟩
  have:=g6 i (Zan x) y (by rw [h7,List.getElem?_map,hx];rfl) hy
  rw [ZeO] at this
  exact ih x (List.mem_of_getElem? hx) _ _ _ this
def Zdq (e:Exp)(taken:List Str):Exp:=ZbD (taken++Zag e) (Zan e) [] []
theorem Zf0 (e:Exp)(taken:List Str)(hw:e.wf):Zbb e (Zdq e taken) [] []:=by
 refine Zjr _ _ _ _ ?_
 have:=Zkm (taken++Zag e) (Zan e) (Zeg e hw) [] (fun s hs=>by rw [Zme] at hs;exact .inr (List.mem_append_right _ hs))
 simpa [news,Zdq] using this
variable {A:Zac}
end Go.Vs.Tryz
namespace Go.Vs
open Go
mutual
def Ty.size:Ty→Nat
 | .mk _ _ _ _ a=>1+Ty.sizes a
def Ty.sizes:List Ty→Nat
 | []=>0
 | t::r=>t.size+Ty.sizes r
end
theorem Ty.sizes_map:∀ l:List Ty,Ty.sizes l=(l.map Ty.size).sum
 | []=>by simp [Ty.sizes]
 | t::r=>by simp [Ty.sizes,Ty.sizes_map r]
theorem Ty.size_eq (t:Ty):t.size=1+(t.args.map Ty.size).sum:=by
 cases t
 simp [Ty.size,Ty.args,Ty.sizes_map]
theorem Ty.size_pos (t:Ty):1≤t.size:=by
 rw [Ty.size_eq]
 omega
theorem Zig {l:List Nat}{n:Nat}(h:n∈l):n≤l.sum:=by
 induction l with
 | nil=>cases h
 | cons a r ih =>
  simp only [List.sum_cons]
  rcases List.mem_cons.1 h with rfl|h
  ·omega
  ·have:=ih h
   omega
theorem Ty.arg_lt {t x:Ty}(h:x∈t.args):x.size<t.size:=by
 have:=Zig (List.mem_map_of_mem (f:=Ty.size) h)
 rw [t.size_eq]
 omega
theorem Ty.len_le (l:List Ty):l.length≤(l.map Ty.size).sum:=by
 induction l with
 | nil=>simp
 | cons a r ih =>
  have:=a.size_pos
  simp only [List.length_cons,List.map_cons,List.sum_cons]
  omega
theorem Ty.args_lt (t:Ty):t.args.length<t.size:=by
 have:=Ty.len_le t.args
 rw [t.size_eq]
 omega
theorem Ty.size_leaf {k:Int}{n:Str}{i h:Int}:(Ty.mk k n i h []).size=1:=by simp [Ty.size,Ty.sizes]
structure AssD where
 id:Int
 ty:Ty
def ZbI (a:AssD):List Cell:=.int .i64 a.id::a.ty.row
def Zdc (l:List AssD):List (List Cell):=l.map ZbI
@[simp] theorem assRow_len (a:AssD):(ZbI a).length=6:=by simp [ZbI]
@[simp] theorem assRows_len (l:List AssD):(Zdc l).length=l.length:=by simp [Zdc]
@[simp] theorem assRows_get (l:List AssD) (i:Nat):(Zdc l)[i]?=(l[i]?).map ZbI:=by simp [Zdc]
@[simp] theorem okRows_ass (l:List AssD):Za2 6 (wr (Zdc l))=true:=ZbM l assRow_len
@[simp] theorem assRows_snoc (l:List AssD) (x:AssD):wr (Zdc l)++[wc (ZbI x)]=wr (Zdc (l++[x])):=by simp [Zdc,wr]
@[simp] theorem assRows0:Zdc []=[]:=rfl
section
variable (a:AssD)
@[simp] theorem cut_as0:cut (ZbI a) 0 1=some [.int .i64 a.id]:=by rw [ZbI,Ty.row_eq];rfl
@[simp] theorem cut_as1:cut (ZbI a) 1 5=some a.ty.row:=by rw [ZbI,Ty.row_eq];rfl
@[simp] theorem cut_as:cut (ZbI a) 0 6=some (ZbI a):=by rw [ZbI,Ty.row_eq];rfl
@[simp] theorem cutw_as0:cut (wc (ZbI a)) 0 1=some [.c (.int .i64 a.id)]:=by rw [ZbI,Ty.row_eq];rfl
@[simp] theorem cutw_as1:cut (wc (ZbI a)) 1 5=some (wc a.ty.row):=by rw [ZbI,Ty.row_eq];rfl
@[simp] theorem cutw_as:cut (wc (ZbI a)) 0 6=some (wc (ZbI a)):=by rw [ZbI,Ty.row_eq];rfl
@[simp] theorem flat_ass:(wc (ZbI a)).all Zce=false:=by rw [ZbI,Ty.row_eq];simp [wc,Zce]
end
end Go.Vs
namespace Go.Vs.Tryz
open Go Go.Vs
variable {A:Zac}
abbrev intsV (l:List Int):V:=.sc (.c (.sl (Zbd l)))
abbrev tysV (l:List Ty):V:=.sc (.c (.sl (Ty.rows l)))
abbrev asssV (l:List AssD):V:=.sc (.c (.sl (Zdc l)))
abbrev schV (c:Int)(t:Ty):V:=.ag (wc (Zdt c t))
def IntsB (r:V × List Obj):Prop:=∃ b,r=(Zah b,[])
variable {A:Zac}
def cmpI (a b:Int):Int:=if a<b then -1 else if b<a then 1 else 0
def orI:List Int→Int
 | []=>0
 | a::r=>if a=0 then orI r else a
def kindM (e:Exp):Int:=if e.kind=4 then 0 else if e.kind=8 then 2 else 1
variable {A:Zac}
end Go.Vs.Tryz
namespace Go.Vs
open Go
section
variable {call:FuncId→List V→List Obj→Option (V × List Obj)}{L:Nat→Option Obj}{oid:Nat}
@[simp] theorem call1_clo2 {f:FuncId} {w0 w1:W} {args:List (Bool × V)}:Zc2 call L oid (.sc (.clo f [true,true] [[w0],[w1]])) args=Zio call L oid f (Zau L (args++[(true,.sc w0),(true,.sc w1)])):=by
 rw [Zgo]
 rfl
@[simp] theorem call1_clo3 {f:FuncId} {w0 w1 w2:W} {args:List (Bool × V)}:Zc2 call L oid (.sc (.clo f [true,true,true] [[w0],[w1],[w2]])) args=Zio call L oid f (Zau L (args++[(true,.sc w0),(true,.sc w1),(true,.sc w2)])):=by
 rw [Zgo]
 rfl
end
end Go.Vs
namespace Go.Vs.Tryz
open Go Go.Vs
variable {A:Zac}
end Go.Vs.Tryz
