/- Alpha-equal expressions and canonical forms (plain): an expression is alpha-equal to its canonical form. (Parts of one proof, put together.) -/
import Derived.Test.YtccmnfpbcmccpaaGreatDoorR3c
import Derived.Test.YtccmnfpbcmccpaaGreatDoorR1c
import Derived.Test.YtccmnfpbcmccpaaGreatDoorR2c
import Derived.Test.YtccmnfpbcmccpaaGreatDoorR0c
set_option linter.unusedSimpArgs false
set_option linter.unusedVariables false
set_option linter.deprecated false
set_option maxHeartbeats 4000000
set_option maxRecDepth 10000
namespace Go.Vs.Tryz
open Go Go.Vs
def headEq (a b:Exp):Prop:=a.kind=b.kind∧a.num=b.num∧a.ty=b.ty∧a.kids.length=b.kids.length∧a.arms.length=b.arms.length
def Zga (a b:Exp):Prop:=∀ (i:Nat) p q,a.arms[i]?=some p→b.arms[i]?=some q→p.1.con=q.1.con∧p.1.vars.length=q.1.vars.length
def ZpU (left right:List Str)(s t:Str):Prop:=rlast left s=rlast right t∧(0≤rlast left s∨s=t)
def alphaF (a:Exp)(l:List (Exp→List Str→List Str→Prop))(b:Exp)(left right:List Str):Prop :=
 headEq a b∧(a.kind=1→ZpU left right a.name b.name)∧(a.kind=2→a.name=b.name) ∧
  (a.kind≠1→a.kind≠2→Zga a b∧∀ (i:Nat) f y,l[i]?=some f→b.children[i]?=some y→f y (left++a.bound i) (right++b.bound i))
def alphaP (a:Exp):Exp→List Str→List Str→Prop:=a.fold alphaF
def news (taken:List Str)(n k:Nat):List Str:=(List.range k).map fun j=>Zde (n+j) taken
@[simp] theorem news_len (taken:List Str) (n k:Nat):(news taken n k).length=k:=by simp [news]
def canonF (taken:List Str)(e:Exp)(l:List (List Str→List Str→Exp))(old ZbM:List Str):Exp :=
 if e.kind=1 then (if 0≤rlast old e.name then .mk e.kind e.pos ((ZbM[(rlast old e.name).toNat]?).getD []) e.num e.kids e.arms e.ty else e)
 else
  let cs:=l.zipIdx.map fun p=>p.1 (old++e.bound p.2) (ZbM++news taken old.length (e.bound p.2).length)
  .mk e.kind e.pos (if e.kind=4∨e.kind=6∨e.kind=7 then Zde old.length taken else e.name) e.num (cs.take e.kids.length)
   (List.zipWith (fun a c=>(⟨a.1.pos,a.1.con,news taken old.length a.1.vars.length⟩,c)) e.arms (cs.drop e.kids.length)) e.ty
def Zpt (taken:List Str)(e:Exp):List Str→List Str→Exp:=e.fold (canonF taken)
def Zpy (taken:List Str)(e:Exp)(old ZbM:List Str):List Exp:=e.children.zipIdx.map fun p=>Zpt taken p.1 (old++e.bound p.2) (ZbM++news taken old.length (e.bound p.2).length)
@[simp] theorem canonC_len (taken:List Str) (e:Exp) (old ZbM:List Str):(Zpy taken e old ZbM).length=e.kids.length+e.arms.length:=by simp [Zpy]
theorem ZkK {e x:Exp}{i:Nat}(hk:e.kind≠1)(hx:e.children[i]?=some x){s:Str}(hs:s∈Zbw x):s∈e.bound i∨s∈Zbw e:=by
 by_cases hb:s∈e.bound i
 ·exact .inl hb
 ·refine .inr ?_
  rw [Ze3,if_neg hk,←Zjv]
  have key:∀ n,n≤e.children.length→i<n→s∈outP e n:=by
   intro n
   induction n with
   | zero=>intro _ h;omega
   | succ n ih =>
    intro hn hi
    obtain ⟨y,hy⟩:=Zaa (l:=e.children) (i:=n) (by omega)
    rw [Zib hy,ZdF]
    by_cases hin:i=n
    ·subst hin
     rw [hx] at hy
     cases hy
     exact .inr ⟨hs,hb⟩
    ·exact .inl (ih (by omega) (by omega))
  exact key _ (Nat.le_refl _) (List.getElem?_eq_some_iff.1 hx).1
section
variable (k p:Int)(n:Str)(m:Int)(ks:List Exp)(l:List (ArmH × Exp))(t:Ty)
theorem kind_mk:(Exp.mk k p n m ks l t).kind=k:=rfl
theorem pos_mk:(Exp.mk k p n m ks l t).pos=p:=rfl
theorem name_mk:(Exp.mk k p n m ks l t).name=n:=rfl
theorem num_mk:(Exp.mk k p n m ks l t).num=m:=rfl
theorem Zp5:(Exp.mk k p n m ks l t).kids=ks:=rfl
theorem Zmc:(Exp.mk k p n m ks l t).arms=l:=rfl
theorem ty_mk:(Exp.mk k p n m ks l t).ty=t:=rfl
theorem bound_mk (i:Nat):(Exp.mk k p n m ks l t).bound i=if k=4∨k=7∨(k=6∧i=1) then [n] else if k=8∧0<i then ((l[i-1]?).map fun a=>a.1.vars).getD [] else []:=rfl
theorem Zi6:(Exp.mk k p n m ks l t).children=ks++l.map (·.2):=rfl
end
theorem headEq.symm {a b:Exp}(h:headEq a b):headEq b a:=⟨h.1.symm,h.2.1.symm,h.2.2.1.symm,h.2.2.2.1.symm,h.2.2.2.2.symm⟩
theorem headEq.children {a b:Exp}(h:headEq a b):a.children.length=b.children.length:=by
 rw [a.children_len,b.children_len,h.2.2.2.1,h.2.2.2.2]
def Zd1 (e:Exp)(cs:List Exp):Exp:=.mk e.kind 0 e.name e.num (cs.take e.kids.length) (List.zipWith (fun (a:ArmH × Exp) c=>((⟨0,a.1.con,a.1.vars⟩:ArmH),c)) e.arms (cs.drop e.kids.length)) e.ty
def Zag (e:Exp):Exp:=e.fold Zd1
theorem ZcG (e:Exp):Zag e=Zd1 e (e.children.map Zag):=Exp.fold_eq _ e
theorem Znn {α β γ:Type}{f:α→β→γ}{l:List α}{m:List β}(h:l.length=m.length)(g:γ→β)(hg:∀ a b,g (f a b)=b):(List.zipWith f l m).map g=m:=by
 refine List.ext_getElem? fun j => ?_
 rw [List.getElem?_map,List.getElem?_zipWith]
 by_cases hj:j<l.length
 ·rw [List.getElem?_eq_getElem hj,List.getElem?_eq_getElem (show j<m.length by omega)]
  simp [hg]
 ·rw [List.getElem?_eq_none (by omega),List.getElem?_eq_none (by omega)]
  rfl
theorem Zbr (e:Exp):(Zag e).kind=e.kind∧(Zag e).name=e.name∧(Zag e).num=e.num∧(Zag e).ty=e.ty∧(Zag e).kids.length=e.kids.length∧(Zag e).arms.length=e.arms.length ∧
 (Zag e).children=e.children.map Zag∧(∀ i:Nat,(Zag e).arms[i]?=(e.arms[i]?).map fun (a:ArmH × Exp)=>((⟨0,a.1.con,a.1.vars⟩:ArmH),Zag a.2)):=by
 have hl:(e.children.map Zag).length=e.kids.length+e.arms.length:=by simp
 have hkl:((e.children.map Zag).take e.kids.length).length=e.kids.length:=by rw [List.length_take,hl];omega
 have hdl:((e.children.map Zag).drop e.kids.length).length=e.arms.length:=by rw [List.length_drop,hl];omega
 have hal:(List.zipWith (fun (a:ArmH × Exp) (c:Exp)=>((⟨0,a.1.con,a.1.vars⟩:ArmH),c)) e.arms ((e.children.map Zag).drop e.kids.length)).length=e.arms.length:=by
  rw [List.length_zipWith,hdl];omega
 rw [ZcG]
 refine ⟨rfl,rfl,rfl,rfl,by simp only [Zd1,Zp5,hkl],by simp only [Zd1,Zmc,hal],?_,?_⟩
 ·simp only [Zd1,Zi6]
  rw [Znn (g:=fun (x:ArmH × Exp)=>x.2) (by rw [hdl]) (fun _ _=>rfl),List.take_append_drop]
 ·intro i
  simp only [Zd1,Zmc,List.getElem?_zipWith]
  have hd:(e.children.map Zag).drop e.kids.length=e.arms.map fun a=>Zag a.2:=by
   simp [Exp.children]
  rw [hd,List.getElem?_map]
  cases e.arms[i]?<;>rfl
theorem ZhT (e:Exp):(Zag e).weight=e.weight:=by
 induction e using Exp.ind with
 | h e ih =>
  obtain ⟨h1,h2,h3,h4,h5,h6,h7,h8⟩:=Zbr e
  rw [Exp.weight_eq,e.weight_eq,h7,List.map_map]
  have ha:((Zag e).arms.map fun a=>a.1.vars.length)=e.arms.map fun a=>a.1.vars.length:=by
   refine List.ext_getElem? fun i => ?_
   rw [List.getElem?_map,List.getElem?_map,h8]
   cases e.arms[i]?<;>rfl
  have hc:e.children.map (Exp.weight ∘ Zag)=e.children.map Exp.weight:=List.map_congr_left fun x hx=>ih x hx
  rw [ha,hc]
def canonT (e:Exp)(taken:List Str):Exp:=Zpt (taken++Zbw e) (Zag e) [] []
end Go.Vs.Tryz
namespace Go.Vs
open Go
def elK (x:Option Obj)(N i:Nat):Bool:=match x with
 | some (.arr _ rows _)=>rows.length == N && Nat.blt i N
 | _=>false
@[simp] theorem elK_some {s p N i:Nat} {rows:List (List W)}:elK (some (.arr s rows p)) N i=(rows.length == N && Nat.blt i N):=rfl
@[simp] theorem elOk_eq {L:Nat→Option Obj} {k N i:Nat}:elOk L k N i=elK (L k) N i:=rfl
end Go.Vs
namespace Go.Vs.Tryz
open Go Go.Vs
variable {A:Zac}
abbrev exsV (l:List Exp):V:=.sc (.c (.sl (Exp.rows l)))
def Zbz (zz:List (ArmH × Exp))(cs:List Exp):List (ArmH × Exp):=List.zipWith (fun (a:ArmH × Exp) c=>(a.1,c)) zz cs
@[simp] theorem armsW_len (zz:List (ArmH × Exp)) (cs:List Exp):(Zbz zz cs).length=min zz.length cs.length:=by simp [Zbz]
theorem ZcY {α:Type}{zs zz:List α}{i:Nat}{x:α}(hl:zs.length=zz.length)(hx:zs[i]?=some x):(zs.take i++zz.drop i).set i x=zs.take (i+1)++zz.drop (i+1):=by
 have hi:=(List.getElem?_eq_some_iff.1 hx).1
 have htl:(zs.take i).length=i:=by simp;omega
 rw [ZaQ hx,List.append_assoc]
 have hd:zz.drop i=zz[i]'(by omega)::zz.drop (i+1):=List.drop_eq_getElem_cons (by omega)
 rw [hd,List.set_append_right _ _ (by omega),htl,Nat.sub_self,List.set_cons_zero]
 rfl
theorem Zcj (l:List (ArmH × Exp))(i:Nat)(x:ArmH × Exp):setRow (wr (Exp.armRows l)) i (wc (ZaF x))=wr (Exp.armRows (l.set i x)):=by
 rw [setRow_set]
 simp [Exp.armRows_map,wr,List.map_set]
theorem Zgp (a:ArmH × Exp)(c:Exp):splice (wc (ZaF a)) 3 (wc c.row)=some (wc (ZaF (a.1,c))):=by
 rw [ZaF,ZaF,Exp.row_eq a.2,Exp.row_eq c]
 rfl
theorem ZcS {α:Type}{zs zz:List α}{i:Nat}(hl:zs.length=zz.length)(hi:i<zz.length):(zs.take i++zz.drop i)[i]?=zz[i]?:=by
 have htl:(zs.take i).length=i:=by simp;omega
 rw [List.getElem?_append_right (by omega),htl,Nat.sub_self,List.getElem?_drop]
 rfl
theorem ZcT {α:Type}{zs zz:List α}{i:Nat}(hl:zs.length=zz.length):(zs.take i++zz.drop i).length=zz.length:=by
 simp
 omega
theorem ZpG (e:Exp)(cs:List Exp)(h:cs.length=e.kids.length+e.arms.length)(hl:e.weight≤1073741824):(K A).call 106 [expV e,exsV cs] [] =
 some (.ag [.c (.int .i64 e.kind),.c (.int .i64 e.pos),.c (.str e.name),.c (.int .i64 e.num),.arr 0 e.kids.length,.arr 1 e.arms.length,.c (.int .i64 e.ty.kind),.c (.str e.ty.name),.c (.int .i64 e.ty.id),.c (.int .i64 e.ty.home),.c (.sl (Ty.rows e.ty.args))],
  [.arr 11 (wr (Exp.rows (cs.take e.kids.length))) 0,.arr 14 (wr (Exp.armRows (Zbz e.arms (cs.drop e.kids.length)))) 0]):=by
 refine ZaW (vf:=v106) (by kernel_rfl) rfl (by simp) ?_
 have hle:=e.children_le
 rw [e.children_len] at hle
 have hrow:wc e.row=[.c (.int .i64 e.kind),.c (.int .i64 e.pos),.c (.str e.name),.c (.int .i64 e.num),.c (.sl (Exp.rows e.kids)),.c (.sl (Exp.armRows e.arms)),.c (.int .i64 e.ty.kind),.c (.str e.ty.name),.c (.int .i64 e.ty.id),.c (.int .i64 e.ty.home),.c (.sl (Ty.rows e.ty.args))]:=by rw [Exp.row_eq];rfl
 have hzl:(Zbz e.arms (cs.drop e.kids.length)).length=e.arms.length:=by rw [armsW_len,List.length_drop];omega
 have hfit:Za0 11 (Exp.rows cs)=true:=by rw [Exp.rows_map];exact Zc9 Exp.row_len cs
 have htk:(Exp.rows cs).take e.kids.length=Exp.rows (cs.take e.kids.length):=by simp [Exp.rows_map,List.map_take]
 have hcl:(cs.take e.kids.length).length=e.kids.length:=by rw [List.length_take];omega
 unfold v106
 simp (maxSteps:=4000000) (disch:=first|omega|(simp;done)|(simp;omega)) [h,hrow,hfit,htk,hcl,-getElem?_pos]
 refine ZaV (fun i=>⟨[(1,exsV cs),(4,.sc (.ptr 128 0)),(5,intV e.kids.length),(6,.sc (.ptr 1152 0)),(7,intV i)],
  [(128,some (.box [zi,zi,zs,zi,.nil,.nil,zi,zs,zi,zi,.nil])),(1152,some (.box [.c (.int .i64 e.kind),.c (.int .i64 e.pos),.c (.str e.name),.c (.int .i64 e.num),.arr 1472 e.kids.length,.arr 1664 e.arms.length,.c (.int .i64 e.ty.kind),.c (.str e.ty.name),.c (.int .i64 e.ty.id),.c (.int .i64 e.ty.home),.c (.sl (Ty.rows e.ty.args))])),
    (1472,some (.arr 11 (wr (Exp.rows (cs.take e.kids.length))) 0)),(1664,some (.arr 14 (wr (Exp.armRows ((Zbz e.arms (cs.drop e.kids.length)).take i++e.arms.drop i))) 0))]⟩) e.arms.length ?_ ?_ ?_
 ·simp
 ·intro i hi
  obtain ⟨a,ha⟩:=Zaa hi
  obtain ⟨c,hc⟩:=Zaa (l:=cs) (i:=e.kids.length+i) (by omega)
  have hz:(Zbz e.arms (cs.drop e.kids.length))[i]?=some (a.1,c):=by
   unfold Zbz
   rw [List.getElem?_zipWith,ha,List.getElem?_drop,hc]
  have hg:=ZcS hzl hi
  rw [ha] at hg
  have hs:=ZcY hzl hz
  have hln:=ZcT (i:=i) hzl
  rw [←hs]
  generalize (Zbz e.arms (cs.drop e.kids.length)).take i++e.arms.drop i=zz at hg hln ⊢
  have hset:=Zcj zz i (a.1,c)
  have hsp:=Zgp a c
  have hnb:Zaj (intV ((e.kids.length:Int)+i)) cs.length=some (e.kids.length+i):=natBelow_cast (k:=.i64) (n:=e.kids.length+i) (by omega)
  unfold Zmt
  simp (maxSteps:=4000000) (disch:=first|omega|(simp;done)|(simp;omega)) [hi,hg,hln,hc,hnb,hsp,hset,ZbY,-getElem?_pos]
 ·have ht:(Zbz e.arms (cs.drop e.kids.length)).take e.arms.length++e.arms.drop e.arms.length=Zbz e.arms (cs.drop e.kids.length):=by
   rw [List.drop_length,List.append_nil,List.take_of_length_le (by omega)]
  rw [ht]
  unfold Zmt
  simp (maxSteps:=4000000) (disch:=first|omega|(simp;done)|(simp;omega)) [hzl,-getElem?_pos]
def Zcx (l:List (ArmH × Exp)):List (ArmH × Exp):=l.map fun a=>(⟨0,a.1.con,a.1.vars⟩,a.2)
@[simp] theorem armsP_len (l:List (ArmH × Exp)):(Zcx l).length=l.length:=by simp [Zcx]
theorem Zes (a:ArmH × Exp):splice (wc (ZaF a)) 0 [W.c (.int .i64 0)]=some (wc (ZaF ((⟨0,a.1.con,a.1.vars⟩:ArmH),a.2))):=by
 rw [ZaF,ZaF,Exp.row_eq a.2]
 rfl
theorem Zgc (e:Exp):Zcx (Zbz e.arms ((e.children.map Zag).drop e.kids.length))=(Zag e).arms:=by
 obtain ⟨_,_,_,_,_,h6,_,h8⟩:=Zbr e
 have hd:(e.children.map Zag).drop e.kids.length=e.arms.map fun a=>Zag a.2:=by simp [Exp.children]
 refine List.ext_getElem? fun i => ?_
 rw [h8,hd]
 unfold Zcx Zbz
 rw [List.getElem?_map,List.getElem?_zipWith,List.getElem?_map]
 cases e.arms[i]?<;>rfl
theorem ZgK (e:Exp):(e.children.map Zag).take e.kids.length=(Zag e).kids:=by
 rw [ZcG]
 rfl
theorem ZfQ (e:Exp):wc (Zag e).row=[.c (.int .i64 e.kind),.c (.int .i64 0),.c (.str e.name),.c (.int .i64 e.num),.c (.sl (Exp.rows (Zag e).kids)),.c (.sl (Exp.armRows (Zag e).arms)),.c (.int .i64 e.ty.kind),.c (.str e.ty.name),.c (.int .i64 e.ty.id),.c (.int .i64 e.ty.home),.c (.sl (Ty.rows e.ty.args))]:=by
 obtain ⟨h1,h2,h3,h4,_,_,_,_⟩:=Zbr e
 have hp:(Zag e).pos=0:=by rw [ZcG];rfl
 rw [Exp.row_eq,h1,h2,h3,h4,hp]
 rfl
theorem Zrk (e:Exp):e.weight≤1073741824→(K A).call 51 [expV e] []=some (expV (Zag e),[]):=by
 induction e using Exp.ind with
 | h e ih =>
 intro hl
 refine ZaW (vf:=v51) (by kernel_rfl) rfl (by simp) ?_
 have hle:=e.children_le
 rw [e.children_len] at hle
 have hc:=Zch (A:=A) e (by omega)
 have hml:(e.children.map Zag).length=e.children.length:=by simp
 have hw:=ZpG (A:=A) e (e.children.map Zag) (by rw [hml,e.children_len]) hl
 have hal:(Zbz e.arms ((e.children.map Zag).drop e.kids.length)).length=e.arms.length:=by rw [armsW_len,List.length_drop,hml,e.children_len];omega
 rw [ZgK] at hw
 have hks:(Zag e).kids.length=e.kids.length:=(Zbr e).2.2.2.2.1
 have has:(Zag e).arms.length=e.arms.length:=(Zbr e).2.2.2.2.2.1
 unfold v51
 simp (maxSteps:=4000000) (disch:=first|omega|(simp;done)|(simp;omega)) [hc,-getElem?_pos]
 refine ZaV (fun i=>⟨[(1,.sc (.ptr 64 0)),(2,.sc (.ptr 128 0)),(3,.sc (.arr 288 e.children.length)),(4,intV i)],
  [(64,some (.box (wc e.row))),(128,some (.box [zi,zi,zs,zi,.nil,.nil,zi,zs,zi,zi,.nil])),(288,some (.arr 11 (wr (Exp.rows ((e.children.map Zag).take i++e.children.drop i))) 0))]⟩) e.children.length ?_ ?_ ?_
 ·simp
 ·intro i hi
  obtain ⟨x,hx⟩:=Zaa hi
  have hmem:=List.mem_of_getElem? hx
  have hrec:=ih x hmem (by have:=Exp.child_lt hmem;omega)
  have hz:(e.children.map Zag)[i]?=some (Zag x):=by simp [hx]
  have hg:=ZcS hml hi
  rw [hx] at hg
  have hs:=ZcY hml hz
  have hln:=ZcT (i:=i) hml
  rw [←hs]
  generalize (e.children.map Zag).take i++e.children.drop i=zz at hg hln ⊢
  have hset:=Zjw zz i (Zag x)
  have hi':(i:Int)<(e.kids.length:Int)+e.arms.length:=by rw [e.children_len] at hi;omega
  rw [e.children_len] at hln hi
  unfold Zqh
  simp (maxSteps:=4000000) (disch:=first|omega|(simp;done)|(simp;omega)) [hi,hi',hg,hln,hrec,hset,ZbY,-getElem?_pos]
 ·have ht:(e.children.map Zag).take e.children.length++e.children.drop e.children.length=e.children.map Zag:=by
   rw [List.drop_length,List.append_nil,List.take_of_length_le (by omega)]
  rw [ht]
  unfold Zqh
  simp (maxSteps:=4000000) (disch:=first|omega|(simp;done)|(simp;omega)) [hw,hml,-getElem?_pos]
  have hsa:=Zgc e
  generalize Zbz e.arms ((e.children.map Zag).drop e.kids.length)=ws at *
  have hpl:(Zcx ws).length=ws.length:=armsP_len ws
  refine ZaV (fun i=>⟨[(2,.sc (.ptr 128 0)),(5,.sc (.ptr 1664 0)),(6,intV i)],
   [(128,some (.box [zi,zi,zs,zi,.nil,.nil,zi,zs,zi,zi,.nil])),(288,some (.arr 11 (wr (Exp.rows (e.children.map Zag))) (e.kids.length+e.arms.length))),(1632,some (.arr 11 (wr (Exp.rows (Zag e).kids)) 0)),
     (1633,some (.arr 14 (wr (Exp.armRows ((Zcx ws).take i++ws.drop i))) 0)),
     (1664,some (.box [.c (.int .i64 e.kind),zi,.c (.str e.name),.c (.int .i64 e.num),.arr 1632 e.kids.length,.arr 1633 e.arms.length,.c (.int .i64 e.ty.kind),.c (.str e.ty.name),.c (.int .i64 e.ty.id),.c (.int .i64 e.ty.home),.c (.sl (Ty.rows e.ty.args))]))]⟩) e.arms.length ?_ ?_ ?_
  ·simp
  ·intro i hi
   obtain ⟨a,ha⟩:=Zaa (l:=ws) (i:=i) (by omega)
   have hz:(Zcx ws)[i]?=some ((⟨0,a.1.con,a.1.vars⟩:ArmH),a.2):=by
    unfold Zcx
    rw [List.getElem?_map,ha]
    rfl
   have hg:=ZcS (i:=i) hpl (by omega)
   rw [ha] at hg
   have hs:=ZcY hpl hz
   have hln:=ZcT (i:=i) hpl
   rw [←hs]
   generalize (Zcx ws).take i++ws.drop i=zz at hg hln ⊢
   have hset:=Zcj zz i ((⟨0,a.1.con,a.1.vars⟩:ArmH),a.2)
   have hsp:=Zes a
   have hln2:zz.length=e.arms.length:=by omega
   unfold ZqN
   simp (maxSteps:=4000000) (disch:=first|omega|(simp;done)|(simp;omega)) [hi,hg,hln2,hsp,hset,ZbY,-getElem?_pos]
  ·have ht:(Zcx ws).take e.arms.length++ws.drop e.arms.length=(Zag e).arms:=by
    rw [←hal,List.drop_length,List.append_nil,List.take_of_length_le (by omega),hsa]
   rw [ht]
   have hsr:=ZfQ e
   unfold ZqN
   simp (maxSteps:=4000000) (disch:=first|omega|(simp;done)|(simp;omega)) [hsr,hks,has,-getElem?_pos]
end Go.Vs.Tryz
namespace Go.Vs
open Go
section
variable {C:Ctx}{E:Nat→Option V}{L:Nat→Option Obj}{oid:Nat}
def mkSK (oid s bytes:Nat)(zero:List W)(v:V):Option (V × Upd):=match Zo9 v with
 | some (.ofNat m)=>bif Nat.ble (m*bytes) Za4 && zero.length == s && Nat.blt 0 s && Nat.ble m Zaw then
  some (.sc (.arr oid m),[(oid,some (.arr s (List.replicate m zero) 0))]) else none
 | _=>none
@[simp] theorem x_mkS {s bytes:Nat} {zero:List W} {n:Opd}:Zae C E L oid (.mkS s bytes zero n)=newK (L oid) (mkSK oid s bytes zero (n.val C E)):=by
 simp only [Zae,newK,mkSK]
 cases L oid with
 | some _=>rfl
 | none =>
  cases Zo9 (n.val C E) with
  | none=>rfl
  | some z=>cases z<;>rfl
@[simp] theorem mkSK_nat {s bytes m:Nat} {zero:List W} {k:IntKind} (h1:m*bytes≤140737488355328) (h2:zero.length=s) (h3:0<s) (h4:m≤9223372036854775807):mkSK oid s bytes zero (.sc (.c (.int k (m:Int))))=some (.sc (.arr oid m),[(oid,some (.arr s (List.replicate m zero) 0))]):=by
 have e:mkSK oid s bytes zero (.sc (.c (.int k (m:Int))))=bif Nat.ble (m*bytes) Za4 && zero.length == s && Nat.blt 0 s && Nat.ble m Zaw then
  some (.sc (.arr oid m),[(oid,some (.arr s (List.replicate m zero) 0))]) else none:=rfl
 rw [e,Nat.ble_eq_true_of_le (by unfold Za4;exact h1),Nat.ble_eq_true_of_le (by unfold Zaw;exact h4),show Nat.blt 0 s=true from Nat.ble_eq_true_of_le h3,h2]
 simp
end
end Go.Vs
namespace Go.Vs.Tryz
open Go Go.Vs
variable {A:Zac}
def ZrM (taken:List Str)(n:Nat)(l:List (ArmH × Exp)):List (ArmH × Exp):=l.map fun a=>(⟨a.1.pos,a.1.con,news taken n a.1.vars.length⟩,a.2)
@[simp] theorem armsN_len (taken:List Str) (n:Nat) (l:List (ArmH × Exp)):(ZrM taken n l).length=l.length:=by simp [ZrM]
abbrev Zl6:Obj:=.box [zi,zi,zs,zi,.nil,.nil,zi,zs,zi,zi,.nil]
variable {A:Zac}
def renTo (k:Nat):List Str:=[[118,49],118::numS (k+2)]
end Go.Vs.Tryz
