/- Contexts and ranks: their functions, walked. (Parts of one proof, put together.) -/
import Derived.Test.YtlcncicmkkelcaaGreatDoorR1f
set_option linter.unusedSimpArgs false
set_option linter.unusedVariables false
set_option linter.deprecated false
namespace Go.Vs
open Go
structure EntD where
 name:Str
 count:Int
 ty:Ty
def entRow (e:EntD):List Cell:=.str e.name::.int .i64 e.count::e.ty.row
def entRows (l:List EntD):List (List Cell):=l.map entRow
@[simp] theorem entRow_len (e:EntD):(entRow e).length=7:=by simp [entRow]
@[simp] theorem entRows_len (l:List EntD):(entRows l).length=l.length:=by simp [entRows]
@[simp] theorem entRows_get (l:List EntD) (i:Nat):(entRows l)[i]?=(l[i]?).map entRow:=by simp [entRows]
@[simp] theorem okRows_ent (l:List EntD):okRows 7 (wr (entRows l))=true:=okRows_of l entRow_len
@[simp] theorem entRows_snoc (l:List EntD) (x:EntD):wr (entRows l)++[wc (entRow x)]=wr (entRows (l++[x])):=by simp [entRows,wr]
@[simp] theorem entRows0:entRows []=[]:=rfl
def schRow (c:Int)(t:Ty):List Cell:=.int .i64 c::t.row
@[simp] theorem schRow_len (c:Int) (t:Ty):(schRow c t).length=6:=by simp [schRow]
section
variable (e:EntD)(c:Int)(t:Ty)
@[simp] theorem cut_n0:cut (entRow e) 0 1=some [.str e.name]:=by simp [entRow]
@[simp] theorem cut_n1:cut (entRow e) 1 6=some (schRow e.count e.ty):=by rw [entRow,schRow,Ty.row_eq];rfl
@[simp] theorem cut_n:cut (entRow e) 0 7=some (entRow e):=by rw [entRow,Ty.row_eq];rfl
@[simp] theorem cutw_n0:cut (wc (entRow e)) 0 1=some [.c (.str e.name)]:=by rw [entRow,Ty.row_eq];rfl
@[simp] theorem cutw_n1:cut (wc (entRow e)) 1 6=some (wc (schRow e.count e.ty)):=by rw [entRow,schRow,Ty.row_eq];rfl
@[simp] theorem cutw_n:cut (wc (entRow e)) 0 7=some (wc (entRow e)):=by rw [entRow,Ty.row_eq];rfl
@[simp] theorem cutw_sch:cut (wc (schRow c t)) 0 6=some (wc (schRow c t)):=by rw [schRow,Ty.row_eq];rfl
@[simp] theorem flat_sch:(wc (schRow c t)).all flatW=false:=by rw [schRow,Ty.row_eq];simp [wc,flatW]
@[simp] theorem flat_ent:(wc (entRow e)).all flatW=false:=by rw [entRow,Ty.row_eq];simp [wc,flatW]
end
section
variable {C:Ctx}{E:Nat→Option V}{L:Nat→Option Obj}{oid:Nat}
@[simp] theorem x_sl {s:Nat} {x:Opd} {lo hi mx:Option Opd}:exec1 C E L oid (.sl s x lo hi mx)=slice1 L s (x.val C E) (lo.map (·.val C E)) (hi.map (·.val C E)) (mx.map (·.val C E)):=rfl
theorem fit_map {α:Type}{f:α→List Cell}{k:Nat}(h:∀ a,(f a).length=k)(l:List α):rowsFit k (l.map f)=true:=by
 cases l with
 | nil=>rfl
 | cons a r=>simp [rowsFit,h a]
@[simp] theorem fit_ent (l:List EntD):rowsFit 7 (entRows l)=true:=fit_map entRow_len l
@[simp] theorem fit_data (l:List DataD):rowsFit 4 (dataRows l)=true:=fit_map dataRow_len l
@[simp] theorem slice_from {s n:Nat} {k:IntKind} {rows:List (List Cell)} (h:n≤rows.length):slice1 L s (.sc (.c (.sl rows))) (some (.sc (.c (.int k (n:Int))))) none none=bif rowsFit s rows then some (.sc (.c (.sl (rows.drop n))),[]) else none:=by
 simp [slice1,boundOr,natBelow_nat,blt_dec,Nat.lt_succ_of_le h]
@[simp] theorem slice_from1 {s n:Nat} {k:IntKind} {rows:List (List Cell)} (h:n+1≤rows.length):slice1 L s (.sc (.c (.sl rows))) (some (.sc (.c (.int k ((n:Int)+1))))) none none=bif rowsFit s rows then some (.sc (.c (.sl (rows.drop (n+1)))),[]) else none:=slice_from (n:=n+1) h
@[simp] theorem slice_to {s n:Nat} {k:IntKind} {rows:List (List Cell)} (h:n≤rows.length):slice1 L s (.sc (.c (.sl rows))) none (some (.sc (.c (.int k (n:Int))))) none=bif rowsFit s rows then some (.sc (.c (.sl (rows.take n))),[]) else none:=by
 simp [slice1,boundOr,natBelow_nat,blt_dec,Nat.lt_succ_of_le h]
@[simp] theorem entRows_drop (l:List EntD) (n:Nat):(entRows l).drop n=entRows (l.drop n):=by simp [entRows]
@[simp] theorem dataRows_take (l:List DataD) (n:Nat):(dataRows l).take n=dataRows (l.take n):=by simp [dataRows]
@[simp] theorem call1_clo {call:Oracle} {f:FuncId} {w:W} {args:List (Bool × V)}:call1 call L oid (.sc (.clo f [true] [[w]])) args=callA call L oid f (argsOf L (args++[(true,.sc w)])):=by
 rw [call1_eq]
 rfl
end
end Go.Vs
namespace Go.Vs.Tryz
open Go Go.Vs
variable {A:Oracle}
abbrev entsV (l:List EntD):V:=.sc (.c (.sl (entRows l)))
def names (l:List EntD):List Str:=l.map (·.name)
@[simp] theorem names_len (l:List EntD):(names l).length=l.length:=by simp [names]
@[simp] theorem names_get (l:List EntD) (i:Nat):(names l)[i]?=(l[i]?).map (·.name):=by simp [names]
def seenTo (l:List EntD):Nat→List EntD
 | 0=>[]
 | i+1=>match l[i]? with
  | none=>seenTo l i
  | some e=>if e.name∈names (l.drop (i+1)) then seenTo l i else seenTo l i++[e]
variable {A:Oracle}
def rlast (l:List Str)(s:Str):Int:=if s∈l then (l.length:Int)-1-place l.reverse s else -1
theorem rev_get {l:List Str}{i:Nat}(h:i<l.length):l.reverse[i]?=l[l.length-1-i]?:=List.getElem?_reverse h
def LookP (b:Bool)(r:V × List Obj):Prop:=∃ c t,r=(.tu [.ag (wc (schRow c t)),boolV b],[])
def cnames (d:DataD):List Str:=d.cons.map (·.name)
@[simp] theorem cnames_len (d:DataD):(cnames d).length=d.cons.length:=by simp [cnames]
@[simp] theorem cnames_get (d:DataD) (i:Nat):(cnames d)[i]?=(d.cons[i]?).map (·.name):=by simp [cnames]
def dataOf (ds:List DataD)(c:Str):Nat:=ds.findIdx fun d=>decide (c∈cnames d)
theorem dataOf_at {ds:List DataD}{c:Str}(h:dataOf ds c<ds.length):∃ d,ds[dataOf ds c]?=some d∧c∈cnames d:=by
 refine ⟨ds[dataOf ds c],List.getElem?_eq_getElem h,?_⟩
 have h1:=List.findIdx_getElem (w:=h)
 exact of_decide_eq_true h1
def findM (ds:List DataD)(c:Str):Int × Int × Bool:=match ds[dataOf ds c]? with
 | some d=>(dataOf ds c,place (cnames d) c,true)
 | none=>(0,0,false)
abbrev findV (r:Int × Int × Bool):V:=.tu [intV r.1,intV r.2.1,boolV r.2.2]
end Go.Vs.Tryz
namespace Go.Vs
open Go
section
variable {C:Ctx}
theorem scrubD_eq (ks:List Nat)(s:St):scrubD ks s=s.scrub ks:=by
 cases ks with
 | cons _ _=>rfl
 | nil =>
  obtain ⟨E,O⟩:=s
  unfold scrubD St.scrub
  have:(O.any fun x=>x.2.isSome && List.contains [] x.1)=false:=by
   rw [List.any_eq_false]
   intro x _
   simp
  simp only [this,cond_false]
theorem wp_rangeB {x:Opd}{f s p q k:Nat}{ag:Bool}{asg body:VCode}{Q:Ex→St→Prop}{st:St}{rows:List (List Cell)}(hx:x.val C (get? st.env)=.sc (.clo f [true] [[.ptr k 0]]))(hk:64≤k)
 (hL:look st.objs k=some (.box [.c (.sl rows)])) (hn:rows.length≤4294967296) (I:Nat→St→Prop) (h0:I rows.length (scrubD [k] st))
 (round:∀ i st' row,I (i+1) st'→rows[i]?=some row→row.length=s∧∃ v,asV ag (wc row)=some v ∧
   wp C asg (fun e s1=>e=.normal∧((dropsOf body).all fun k=>(look s1.objs k).isNone)=true ∧
    wp C body (fun e s2=>(e=.normal∧I i ⟨(scrubD (dropsOf asg++dropsOf body) st').env,s2.objs⟩)∨(e≠.normal∧Q e ⟨(scrubD (dropsOf asg++dropsOf body) st').env,s2.objs⟩)) s1)
    ⟨put (put (scrubD (dropsOf asg++dropsOf body) st').env p (.sc (.c (.int .i64 i)))) q v,(scrubD (dropsOf asg++dropsOf body) st').objs⟩)
 (fin:∀ st',I 0 st'→Q .normal st'):wp C (.rangeB x f s ag p q asg body) Q st:=by
 have key:∀ i,i≤rows.length→∀ st',I i st'→∃ n e s',(∀ n',n≤n'→rounds (run C n' asg) (run C n' body) (dropsOf asg++dropsOf body) (dropsOf body) s ag p q rows i st'=some (e,s'))∧Q e s':=by
  intro i
  induction i with
  | zero=>exact fun _ st' h=>⟨0,.normal,st',fun _ _=>rfl,fin st' h⟩
  | succ i ih =>
   intro hi st' h
   obtain ⟨row,hrow⟩:∃ row,rows[i]?=some row:=⟨rows[i],List.getElem?_eq_getElem (by omega)⟩
   obtain ⟨hlen,v,hv,n1,e1,s1,h1,rfl,h2,n2,e2,s2,h3,h4⟩:=round i st' row h hrow
   rw [scrubD_eq] at h1 h4
   have hl:(row.length == s)=true:=by simp [hlen]
   have r1:∀ n',n1≤n'→run C n' asg ⟨put (put (st'.scrub (dropsOf asg++dropsOf body)).env p (.sc (.c (.int .i64 i)))) q v,(st'.scrub (dropsOf asg++dropsOf body)).objs⟩=some (.normal,s1):=fun n' hn=>run_mono (gl:=C.gl) (c:=C.call) (Le.refl _) hn h1
   have r2:∀ n',n2≤n'→run C n' body s1=some (e2,s2):=fun n' hn=>run_mono (gl:=C.gl) (c:=C.call) (Le.refl _) hn h3
   have hv':asV ag (row.map W.c)=some v:=hv
   rcases h4 with ⟨rfl,h4⟩|⟨hne,h4⟩
   ·obtain ⟨n3,e3,s3,h5,h6⟩:=ih (by omega) _ h4
    refine ⟨max n1 (max n2 n3),e3,s3,fun n' hn' => ?_,h6⟩
    have ha:=r1 n' (by omega)
    have hb:=r2 n' (by omega)
    simp only [rounds,hrow,hl,cond_true,hv',ha,h2,hb]
    exact h5 n' (by omega)
   ·refine ⟨max n1 n2,e2,_,fun n' hn' => ?_,h4⟩
    have ha:=r1 n' (by omega)
    have hb:=r2 n' (by omega)
    simp only [rounds,hrow,hl,cond_true,hv',ha,h2,hb]
    cases e2 with
    | normal=>exact absurd rfl hne
    | exit _=>rfl
    | ret=>rfl
 obtain ⟨n,e,s',h1,h2⟩:=key rows.length (Nat.le_refl _) _ h0
 refine ⟨n,e,s',?_,h2⟩
 have hb:(f == f && Nat.ble 64 k)=true:=by
  simp only [beq_self_eq_true,Bool.true_and]
  exact Nat.ble_eq_true_of_le hk
 have hb2:Nat.ble rows.length maxRows2=true:=Nat.ble_eq_true_of_le (by unfold maxRows2;omega)
 rw [scrubD_eq] at h1
 simp only [run,hx,hb,cond_true,hL,hb2]
 exact h1 n (Nat.le_refl n)
attribute [simp] dropsOf
end
end Go.Vs
namespace Go.Vs.Tryz
open Go Go.Vs
variable {A:Oracle}
def consTo (ds:List DataD)(i:Nat):Nat:=((ds.take i).map fun d=>d.cons.length).sum
theorem consTo_succ {ds:List DataD}{i:Nat}{d:DataD}(h:ds[i]?=some d):consTo ds (i+1)=consTo ds i+d.cons.length:=by
 unfold consTo
 rw [take_next h,List.map_append,List.sum_append]
 simp
def rankM (ds:List DataD)(seen bound:List Str)(e:Exp):Int :=
 if e.kind=1 then (if e.name∈bound then seen.length+rlast bound e.name else rlast seen e.name)
 else if e.kind=2 then match findM ds e.name with
  | (i,k,true)=>seen.length+bound.length+k+consTo ds i.toNat
  | _=>-1
 else -1
variable {A:Oracle}
theorem rlast_eq {l:List Str}{s:Str}{i:Nat}(h:l[i]?=some s)(hj:∀ j x,i<j→l[j]?=some x→¬x=s):rlast l s=i:=by
 have hi:=(List.getElem?_eq_some_iff.1 h).1
 have hmem:s∈l:=List.mem_of_getElem? h
 unfold rlast
 rw [if_pos hmem]
 have hp:=place_mem.2 (List.mem_reverse.2 hmem)
 have hx:=place_at hp
 rw [List.length_reverse] at hp
 rw [rev_get hp] at hx
 have h1:¬i<l.length-1-place l.reverse s:=fun hlt=>hj _ s hlt hx rfl
 have h2:¬l.length-1-i<place l.reverse s:=by
  intro hlt
  obtain ⟨x,hx2,hne⟩:=place_lt hlt
  rw [rev_get (by omega),show l.length-1-(l.length-1-i)=i by omega,h] at hx2
  cases hx2
  exact hne rfl
 omega
theorem rlast_no {l:List Str}{s:Str}(h:s∉l):rlast l s=-1:=if_neg h
theorem rlast_mem {l:List Str}{s:Str}(h:s∈l):0≤rlast l s:=by
 unfold rlast
 rw [if_pos h]
 have:=place_mem.2 (List.mem_reverse.2 h)
 rw [List.length_reverse] at this
 omega
def seenN (ctx:List EntD):List Str:=names (seenTo ctx ctx.length)
def headEq (a b:Exp):Prop:=a.kind=b.kind∧a.num=b.num∧a.ty=b.ty∧a.kids.length=b.kids.length∧a.arms.length=b.arms.length
def armsEq (a b:Exp):Prop:=∀ (i:Nat) p q,a.arms[i]?=some p→b.arms[i]?=some q→p.1.con=q.1.con∧p.1.vars.length=q.1.vars.length
def varEq (left right:List Str)(s t:Str):Prop:=rlast left s=rlast right t∧(0≤rlast left s∨s=t)
def alphaF (a:Exp)(l:List (Exp→List Str→List Str→Prop))(b:Exp)(left right:List Str):Prop :=
 headEq a b∧(a.kind=1→varEq left right a.name b.name)∧(a.kind=2→a.name=b.name) ∧
  (a.kind≠1→a.kind≠2→armsEq a b∧∀ (i:Nat) f y,l[i]?=some f→b.children[i]?=some y→f y (left++a.bound i) (right++b.bound i))
def alphaP (a:Exp):Exp→List Str→List Str→Prop:=a.fold alphaF
def news (taken:List Str)(n k:Nat):List Str:=(List.range k).map fun j=>freshS (n+j) taken
@[simp] theorem news_len (taken:List Str) (n k:Nat):(news taken n k).length=k:=by simp [news]
def canonF (taken:List Str)(e:Exp)(l:List (List Str→List Str→Exp))(old names:List Str):Exp :=
 if e.kind=1 then (if 0≤rlast old e.name then .mk e.kind e.pos ((names[(rlast old e.name).toNat]?).getD []) e.num e.kids e.arms e.ty else e)
 else
  let cs:=l.zipIdx.map fun p=>p.1 (old++e.bound p.2) (names++news taken old.length (e.bound p.2).length)
  .mk e.kind e.pos (if e.kind=4∨e.kind=6∨e.kind=7 then freshS old.length taken else e.name) e.num (cs.take e.kids.length)
   (List.zipWith (fun a c=>(⟨a.1.pos,a.1.con,news taken old.length a.1.vars.length⟩,c)) e.arms (cs.drop e.kids.length)) e.ty
def canonM (taken:List Str)(e:Exp):List Str→List Str→Exp:=e.fold (canonF taken)
def canonC (taken:List Str)(e:Exp)(old names:List Str):List Exp:=e.children.zipIdx.map fun p=>canonM taken p.1 (old++e.bound p.2) (names++news taken old.length (e.bound p.2).length)
@[simp] theorem canonC_len (taken:List Str) (e:Exp) (old names:List Str):(canonC taken e old names).length=e.kids.length+e.arms.length:=by simp [canonC]
theorem free_child {e x:Exp}{i:Nat}(hk:e.kind≠1)(hx:e.children[i]?=some x){s:Str}(hs:s∈freeP x):s∈e.bound i∨s∈freeP e:=by
 by_cases hb:s∈e.bound i
 ·exact .inl hb
 ·refine .inr ?_
  rw [freeP_eq,if_neg hk,←outP_end]
  have key:∀ n,n≤e.children.length→i<n→s∈outP e n:=by
   intro n
   induction n with
   | zero=>intro _ h;omega
   | succ n ih =>
    intro hn hi
    obtain ⟨y,hy⟩:=get_of_lt (l:=e.children) (i:=n) (by omega)
    rw [outP_succ hy,mem_foldNew]
    by_cases hin:i=n
    ·subst hin
     rw [hx] at hy
     cases hy
     exact .inr ⟨hs,hb⟩
    ·exact .inl (ih (by omega) (by omega))
  exact key _ (Nat.le_refl _) (List.getElem?_eq_some_iff.1 hx).1
theorem bound_some {e:Exp}{i:Nat}:e.bound i=if e.kind=4∨e.kind=7∨(e.kind=6∧i=1) then [e.name] else if e.kind=8∧0<i then ((e.arms[i-1]?).map fun a=>a.1.vars).getD [] else []:=rfl
section
variable (k p:Int)(n:Str)(m:Int)(ks:List Exp)(l:List (ArmH × Exp))(t:Ty)
theorem kind_mk:(Exp.mk k p n m ks l t).kind=k:=rfl
theorem pos_mk:(Exp.mk k p n m ks l t).pos=p:=rfl
theorem name_mk:(Exp.mk k p n m ks l t).name=n:=rfl
theorem num_mk:(Exp.mk k p n m ks l t).num=m:=rfl
theorem kids_mk:(Exp.mk k p n m ks l t).kids=ks:=rfl
theorem arms_mk:(Exp.mk k p n m ks l t).arms=l:=rfl
theorem ty_mk:(Exp.mk k p n m ks l t).ty=t:=rfl
theorem bound_mk (i:Nat):(Exp.mk k p n m ks l t).bound i=if k=4∨k=7∨(k=6∧i=1) then [n] else if k=8∧0<i then ((l[i-1]?).map fun a=>a.1.vars).getD [] else []:=rfl
theorem children_mk:(Exp.mk k p n m ks l t).children=ks++l.map (·.2):=rfl
end
theorem headEq.symm {a b:Exp}(h:headEq a b):headEq b a:=⟨h.1.symm,h.2.1.symm,h.2.2.1.symm,h.2.2.2.1.symm,h.2.2.2.2.symm⟩
theorem headEq.children {a b:Exp}(h:headEq a b):a.children.length=b.children.length:=by
 rw [a.children_len,b.children_len,h.2.2.2.1,h.2.2.2.2]
def stripF (e:Exp)(cs:List Exp):Exp:=.mk e.kind 0 e.name e.num (cs.take e.kids.length) (List.zipWith (fun (a:ArmH × Exp) c=>((⟨0,a.1.con,a.1.vars⟩:ArmH),c)) e.arms (cs.drop e.kids.length)) e.ty
def stripM (e:Exp):Exp:=e.fold stripF
theorem zip_snd {α β γ:Type}{f:α→β→γ}{l:List α}{m:List β}(h:l.length=m.length)(g:γ→β)(hg:∀ a b,g (f a b)=b):(List.zipWith f l m).map g=m:=by
 refine List.ext_getElem? fun j => ?_
 rw [List.getElem?_map,List.getElem?_zipWith]
 by_cases hj:j<l.length
 ·rw [List.getElem?_eq_getElem hj,List.getElem?_eq_getElem (show j<m.length by omega)]
  simp [hg]
 ·rw [List.getElem?_eq_none (by omega),List.getElem?_eq_none (by omega)]
  rfl
def canonT (e:Exp)(taken:List Str):Exp:=canonM (taken++freeP e) (stripM e) [] []
variable {A:Oracle}
end Go.Vs.Tryz
namespace Go.Vs
open Go
mutual
def Ty.size:Ty→Nat
 | .mk _ _ _ _ a=>1+Ty.sizes a
def Ty.sizes:List Ty→Nat
 | []=>0
 | t::r=>t.size+Ty.sizes r
end
theorem Ty.sizes_map:∀ l:List Ty,Ty.sizes l=(l.map Ty.size).sum
 | []=>by simp [Ty.sizes]
 | t::r=>by simp [Ty.sizes,Ty.sizes_map r]
theorem Ty.size_eq (t:Ty):t.size=1+(t.args.map Ty.size).sum:=by
 cases t
 simp [Ty.size,Ty.args,Ty.sizes_map]
theorem Ty.size_leaf {k:Int}{n:Str}{i h:Int}:(Ty.mk k n i h []).size=1:=by simp [Ty.size,Ty.sizes]
structure AssD where
 id:Int
 ty:Ty
def assRow (a:AssD):List Cell:=.int .i64 a.id::a.ty.row
def assRows (l:List AssD):List (List Cell):=l.map assRow
@[simp] theorem assRow_len (a:AssD):(assRow a).length=6:=by simp [assRow]
@[simp] theorem assRows_len (l:List AssD):(assRows l).length=l.length:=by simp [assRows]
@[simp] theorem assRows_get (l:List AssD) (i:Nat):(assRows l)[i]?=(l[i]?).map assRow:=by simp [assRows]
@[simp] theorem okRows_ass (l:List AssD):okRows 6 (wr (assRows l))=true:=okRows_of l assRow_len
@[simp] theorem assRows_snoc (l:List AssD) (x:AssD):wr (assRows l)++[wc (assRow x)]=wr (assRows (l++[x])):=by simp [assRows,wr]
@[simp] theorem assRows0:assRows []=[]:=rfl
section
variable (a:AssD)
@[simp] theorem cut_as0:cut (assRow a) 0 1=some [.int .i64 a.id]:=by rw [assRow,Ty.row_eq];rfl
@[simp] theorem cut_as1:cut (assRow a) 1 5=some a.ty.row:=by rw [assRow,Ty.row_eq];rfl
@[simp] theorem cut_as:cut (assRow a) 0 6=some (assRow a):=by rw [assRow,Ty.row_eq];rfl
@[simp] theorem cutw_as0:cut (wc (assRow a)) 0 1=some [.c (.int .i64 a.id)]:=by rw [assRow,Ty.row_eq];rfl
@[simp] theorem cutw_as1:cut (wc (assRow a)) 1 5=some (wc a.ty.row):=by rw [assRow,Ty.row_eq];rfl
@[simp] theorem cutw_as:cut (wc (assRow a)) 0 6=some (wc (assRow a)):=by rw [assRow,Ty.row_eq];rfl
@[simp] theorem flat_ass:(wc (assRow a)).all flatW=false:=by rw [assRow,Ty.row_eq];simp [wc,flatW]
end
end Go.Vs
namespace Go.Vs.Tryz
open Go Go.Vs
variable {A:Oracle}
abbrev intsV (l:List Int):V:=.sc (.c (.sl (intRows l)))
abbrev tysV (l:List Ty):V:=.sc (.c (.sl (Ty.rows l)))
abbrev asssV (l:List AssD):V:=.sc (.c (.sl (assRows l)))
abbrev schV (c:Int)(t:Ty):V:=.ag (wc (schRow c t))
def IntsB (r:V × List Obj):Prop:=∃ b,r=(boolV b,[])
variable {A:Oracle}
def cmpI (a b:Int):Int:=if a<b then -1 else if b<a then 1 else 0
def orI:List Int→Int
 | []=>0
 | a::r=>if a=0 then orI r else a
def kindM (e:Exp):Int:=if e.kind=4 then 0 else if e.kind=8 then 2 else 1
variable {A:Oracle}
end Go.Vs.Tryz
namespace Go.Vs
open Go
section
variable {call:FuncId→List V→List Obj→Option (V × List Obj)}{L:Nat→Option Obj}{oid:Nat}
@[simp] theorem call1_clo2 {f:FuncId} {w0 w1:W} {args:List (Bool × V)}:call1 call L oid (.sc (.clo f [true,true] [[w0],[w1]])) args=callA call L oid f (argsOf L (args++[(true,.sc w0),(true,.sc w1)])):=by
 rw [call1_eq]
 rfl
@[simp] theorem call1_clo3 {f:FuncId} {w0 w1 w2:W} {args:List (Bool × V)}:call1 call L oid (.sc (.clo f [true,true,true] [[w0],[w1],[w2]])) args=callA call L oid f (argsOf L (args++[(true,.sc w0),(true,.sc w1),(true,.sc w2)])):=by
 rw [call1_eq]
 rfl
end
end Go.Vs
namespace Go.Vs.Tryz
open Go Go.Vs
variable {A:Oracle}
variable {A:Oracle}
def swapTo (l:List Exp):Nat→List Exp
 | 0=>l
 | i+1=>match (swapTo l i)[i]?,(swapTo l i)[l.length-1-i]? with
  | some x,some y=>((swapTo l i).set i y).set (l.length-1-i) x
  | _,_=>swapTo l i
@[simp] theorem swapTo_len (l:List Exp):∀ i,(swapTo l i).length=l.length
 | 0=>rfl
 | i+1=>by
  have:=swapTo_len l i
  simp only [swapTo]
  split
  ·simp [this]
  ·exact this
theorem setRow_set {α:Type}:∀ (l:List α)(i:Nat)(a:α),setRow l i a=l.set i a
 | [],_,_=>rfl
 | _::_,0,_=>rfl
 | b::r,n+1,a=>by simp only [setRow,List.set_cons_succ,setRow_set r n a]
theorem rows_set (l:List Exp)(i:Nat)(x:Exp):setRow (wr (Exp.rows l)) i (wc x.row)=wr (Exp.rows (l.set i x)):=by
 rw [setRow_set]
 simp [Exp.rows_map,wr,List.map_set]
end Go.Vs.Tryz
namespace Go.Vs
open Go
def elK (x:Option Obj)(N i:Nat):Bool:=match x with
 | some (.arr _ rows _)=>rows.length == N && Nat.blt i N
 | _=>false
@[simp] theorem elK_some {s p N i:Nat} {rows:List (List W)}:elK (some (.arr s rows p)) N i=(rows.length == N && Nat.blt i N):=rfl
@[simp] theorem elOk_eq {L:Nat→Option Obj} {k N i:Nat}:elOk L k N i=elK (L k) N i:=rfl
end Go.Vs
namespace Go.Vs.Tryz
open Go Go.Vs
variable {A:Oracle}
abbrev exsV (l:List Exp):V:=.sc (.c (.sl (Exp.rows l)))
def armsW (zz:List (ArmH × Exp))(cs:List Exp):List (ArmH × Exp):=List.zipWith (fun (a:ArmH × Exp) c=>(a.1,c)) zz cs
@[simp] theorem armsW_len (zz:List (ArmH × Exp)) (cs:List Exp):(armsW zz cs).length=min zz.length cs.length:=by simp [armsW]
theorem set_step {α:Type}{zs zz:List α}{i:Nat}{x:α}(hl:zs.length=zz.length)(hx:zs[i]?=some x):(zs.take i++zz.drop i).set i x=zs.take (i+1)++zz.drop (i+1):=by
 have hi:=(List.getElem?_eq_some_iff.1 hx).1
 have htl:(zs.take i).length=i:=by simp;omega
 rw [take_next hx,List.append_assoc]
 have hd:zz.drop i=zz[i]'(by omega)::zz.drop (i+1):=List.drop_eq_getElem_cons (by omega)
 rw [hd,List.set_append_right _ _ (by omega),htl,Nat.sub_self,List.set_cons_zero]
 rfl
theorem armrows_set (l:List (ArmH × Exp))(i:Nat)(x:ArmH × Exp):setRow (wr (Exp.armRows l)) i (wc (armRow x))=wr (Exp.armRows (l.set i x)):=by
 rw [setRow_set]
 simp [Exp.armRows_map,wr,List.map_set]
theorem arm_splice (a:ArmH × Exp)(c:Exp):splice (wc (armRow a)) 3 (wc c.row)=some (wc (armRow (a.1,c))):=by
 rw [armRow,armRow,Exp.row_eq a.2,Exp.row_eq c]
 rfl
theorem get_step {α:Type}{zs zz:List α}{i:Nat}(hl:zs.length=zz.length)(hi:i<zz.length):(zs.take i++zz.drop i)[i]?=zz[i]?:=by
 have htl:(zs.take i).length=i:=by simp;omega
 rw [List.getElem?_append_right (by omega),htl,Nat.sub_self,List.getElem?_drop]
 rfl
theorem len_step {α:Type}{zs zz:List α}{i:Nat}(hl:zs.length=zz.length):(zs.take i++zz.drop i).length=zz.length:=by
 simp
 omega
def armsP (l:List (ArmH × Exp)):List (ArmH × Exp):=l.map fun a=>(⟨0,a.1.con,a.1.vars⟩,a.2)
@[simp] theorem armsP_len (l:List (ArmH × Exp)):(armsP l).length=l.length:=by simp [armsP]
end Go.Vs.Tryz
namespace Go.Vs
open Go
section
variable {C:Ctx}{E:Nat→Option V}{L:Nat→Option Obj}{oid:Nat}
def mkSK (oid s bytes:Nat)(zero:List W)(v:V):Option (V × Upd):=match intOf v with
 | some (.ofNat m)=>bif Nat.ble (m*bytes) maxBytes && zero.length == s && Nat.blt 0 s && Nat.ble m maxRows then
  some (.sc (.arr oid m),[(oid,some (.arr s (List.replicate m zero) 0))]) else none
 | _=>none
@[simp] theorem x_mkS {s bytes:Nat} {zero:List W} {n:Opd}:exec1 C E L oid (.mkS s bytes zero n)=newK (L oid) (mkSK oid s bytes zero (n.val C E)):=by
 simp only [exec1,newK,mkSK]
 cases L oid with
 | some _=>rfl
 | none =>
  cases intOf (n.val C E) with
  | none=>rfl
  | some z=>cases z<;>rfl
@[simp] theorem mkSK_nat {s bytes m:Nat} {zero:List W} {k:IntKind} (h1:m*bytes≤140737488355328) (h2:zero.length=s) (h3:0<s) (h4:m≤9223372036854775807):mkSK oid s bytes zero (.sc (.c (.int k (m:Int))))=some (.sc (.arr oid m),[(oid,some (.arr s (List.replicate m zero) 0))]):=by
 have e:mkSK oid s bytes zero (.sc (.c (.int k (m:Int))))=bif Nat.ble (m*bytes) maxBytes && zero.length == s && Nat.blt 0 s && Nat.ble m maxRows then
  some (.sc (.arr oid m),[(oid,some (.arr s (List.replicate m zero) 0))]) else none:=rfl
 rw [e,Nat.ble_eq_true_of_le (by unfold maxBytes;exact h1),Nat.ble_eq_true_of_le (by unfold maxRows;exact h4),show Nat.blt 0 s=true from Nat.ble_eq_true_of_le h3,h2]
 simp
end
end Go.Vs
namespace Go.Vs.Tryz
open Go Go.Vs
variable {A:Oracle}
def armsN (taken:List Str)(n:Nat)(l:List (ArmH × Exp)):List (ArmH × Exp):=l.map fun a=>(⟨a.1.pos,a.1.con,news taken n a.1.vars.length⟩,a.2)
@[simp] theorem armsN_len (taken:List Str) (n:Nat) (l:List (ArmH × Exp)):(armsN taken n l).length=l.length:=by simp [armsN]
theorem strrows_set (l:List Str)(i:Nat)(x:Str):setRow (wr (strRows l)) i [W.c (.str x)]=wr (strRows (l.set i x)):=by
 rw [setRow_set]
 simp [strRows,wr,List.map_set,strRow]
abbrev zbox2:Obj:=.box [zi,zi,zs,zi,.nil,.nil,zi,zs,zi,zi,.nil]
variable {A:Oracle}
def renTo (k:Nat):List Str:=[[118,49],118::numS (k+2)]
variable {A:Oracle}
def charOk (c:UInt8):Bool:=(97≤c.toNat && c.toNat≤122) || (65≤c.toNat && c.toNat≤90) || (48≤c.toNat && c.toNat≤57) || c.toNat == 95
def keyWords:List Str:=[[100,97,116,97],[108,101,116],[114,101,99],[105,110],[99,97,115,101],[111,102],[101,110,100]]
def nameOk (lo hi:Nat)(s:Str):Prop:=s.length≤12∧(∃ c,s[0]?=some c∧lo≤c.toNat∧c.toNat≤hi)∧(∀ c∈s,charOk c=true)∧s∉keyWords
variable {A:Oracle}
def IffB (P:Prop)(r:V × List Obj):Prop:=∃ b:Bool,(b=true↔P)∧r=(boolV b,[])
theorem IffB.yes {P:Prop}(h:P):IffB P (boolV true,[]):=⟨true,by simp [h],rfl⟩
theorem IffB.no {P:Prop}(h:¬P):IffB P (boolV false,[]):=⟨false,by simp [h],rfl⟩
theorem Ty.ext {a b:Ty}(h1:a.kind=b.kind)(h2:a.name=b.name)(h3:a.id=b.id)(h4:a.home=b.home)(h5:a.args=b.args):a=b:=by
 cases a;cases b;simp only [Ty.kind,Ty.name,Ty.id,Ty.home,Ty.args] at *;subst h1 h2 h3 h4 h5;rfl
end Go.Vs.Tryz
