/- Equal expressions by the program (positions apart), walked. (Parts of one proof, put together.) -/
import Derived.Test.YtccmnfpbcmccpaaGreatDoorRCc
import Derived.Test.YtccmnfpbcmccpaaGreatDoorR4c
import Derived.Test.YtccmnfpbcmccpaaGreatDoorR5c
import Derived.Test.YtccmnfpbcmccpaaGreatDoorR1c
set_option linter.unusedSimpArgs false
set_option linter.unusedVariables false
set_option linter.deprecated false
set_option maxHeartbeats 8000000
set_option maxRecDepth 10000
namespace Go.Vs.Tryz
open Go Go.Vs
variable {A:Zac}
def sameF (a:Exp)(l:List (Exp→Prop))(b:Exp):Prop:=a.kind=b.kind∧a.name=b.name∧a.num=b.num∧a.ty=b.ty∧a.kids.length=b.kids.length∧a.arms.length=b.arms.length ∧
 (∀ (i:Nat) p q,a.arms[i]?=some p→b.arms[i]?=some q→p.1.con=q.1.con∧p.1.vars=q.1.vars)∧∀ (i:Nat) f y,l[i]?=some f→b.children[i]?=some y→f y
def sameP (a:Exp):Exp→Prop:=a.fold sameF
theorem Zb0 (a b:Exp):sameP a b=(a.kind=b.kind∧a.name=b.name∧a.num=b.num∧a.ty=b.ty∧a.kids.length=b.kids.length∧a.arms.length=b.arms.length ∧
 (∀ (i:Nat) p q,a.arms[i]?=some p→b.arms[i]?=some q→p.1.con=q.1.con∧p.1.vars=q.1.vars)∧∀ (i:Nat) x y,a.children[i]?=some x→b.children[i]?=some y→sameP x y):=by
 unfold sameP
 rw [Exp.fold_eq]
 unfold sameF
 simp only [List.getElem?_map,Option.map_eq_some_iff]
 apply propext
 refine and_congr_right fun _=>and_congr_right fun _=>and_congr_right fun _=>and_congr_right fun _=>and_congr_right fun _=>and_congr_right fun _=>and_congr_right fun _=>forall_congr' fun i => ?_
 constructor
 ·exact fun h x y hx hy=>h _ y ⟨x,hx,rfl⟩ hy
 ·rintro h f y ⟨x,hx,rfl⟩ hy
  exact h x y hx hy
theorem ZkE (a:Exp):sameP a a:=by
 induction a using Exp.ind with
 | h a ih =>
  rw [Zb0]
  refine ⟨rfl,rfl,rfl,rfl,rfl,rfl,fun i p q hp hq => ?_,fun i x y hx hy => ?_⟩
  ·rw [hp] at hq
   cases hq
   exact ⟨rfl,rfl⟩
  ·rw [hx] at hy
   cases hy
   exact ih x (List.mem_of_getElem? hx)
abbrev armV (p:ArmH × Exp):V:=.ag (wc (ZaF p))
abbrev armsV (l:List (ArmH × Exp)):V:=.sc (.c (.sl (Exp.armRows l)))
def allR {α:Type}(R:α→α→Prop)(l m:List α):Prop:=l.length=m.length∧∀ (i:Nat) x y,l[i]?=some x→m[i]?=some y→R x y
def sameA (p q:ArmH × Exp):Prop:=p.1.con=q.1.con∧p.1.vars=q.1.vars∧sameP p.2 q.2
end Go.Vs.Tryz
namespace Go.Vs
open Go
def Zlk (k s:Nat)(zs rows:List (List W)):Upd:=bif zs.isEmpty then [] else [(k,some (.arr s (zs++rows.drop zs.length) 0))]
def Zrr (k n s:Nat)(ys:Option (List (List W)))(o:Option Obj):Option (V × Upd):=match ys,o with
 | some ys,some (.arr s' rows p)=>bif ZaM s ys && (rows.length == n && s' == s && p == 0) then some (.sc (.c (.int .i64 (ys.take n).length)),Zlk k s (ys.take n) rows) else none
 | _,_=>none
@[simp] theorem copyK_some {k n s s' p:Nat} {ys rows:List (List W)}:Zrr k n s (some ys) (some (.arr s' rows p))=bif ZaM s ys && (rows.length == n && s' == s && p == 0) then some (.sc (.c (.int .i64 (ys.take n).length)),Zlk k s (ys.take n) rows) else none:=rfl
@[simp] theorem copy1_arr {L:Nat→Option Obj} {k n s:Nat} {y:V}:Zh4 L s (.sc (.arr k n)) y=Zrr k n s (ZaU L y) (L k):=by
 unfold Zh4 Zrr
 cases ZaU L y with
 | none=>rfl
 | some ys =>
  dsimp only
  unfold ZaM Zlk
  cases hL:L k with
  | none=>dsimp only;cases ys.all fun r=>r.length == s && r.all Zas<;>rfl
  | some o=>cases o with
   | box _=>dsimp only;cases ys.all fun r=>r.length == s && r.all Zas<;>rfl
   | arr s' rows p=>dsimp only;cases ys.all fun r=>r.length == s && r.all Zas<;>rfl
theorem Ziq {α:Type}{k:Nat}{a:α}:∀ {l:List (Nat × α)},get? l k=some a→put l k a=l
 | [],h=>by cases h
 | (j,b)::r,h=>by
  simp only [get?] at h
  simp only [put]
  cases hj:(j == k) with
  | true=>rw [hj] at h;simp only [cond_true,Option.some.injEq] at h ⊢;rw [h]
  | false=>rw [hj] at h;simp only [cond_false] at h ⊢;rw [Ziq h]
theorem Zi2 {O:Objs}{k s:Nat}{zs rows:List (List W)}(h:get? O k=some (some (.arr s rows 0))):Zcd O (Zlk k s zs rows)=put O k (some (.arr s (zs++rows.drop zs.length) 0)):=by
 unfold Zlk
 cases zs with
 | nil =>
  simp only [List.isEmpty_nil,cond_true,putAll_nil,List.nil_append,List.length_nil,List.drop_zero]
  exact (Ziq h).symm
 | cons a r=>rfl
end Go.Vs
namespace Go.Vs.Tryz
open Go Go.Vs
variable {A:Zac}
theorem Zp2 (e:Exp)(cs:List Exp)(h:cs.length=e.kids.length+e.arms.length)(hl:e.weight≤1073741824):(K A).call 102 [expV e,exsV cs] [] =
 some (.ag [.c (.int .i64 e.kind),.c (.int .i64 e.pos),.c (.str e.name),.c (.int .i64 e.num),.arr 0 e.kids.length,.arr 1 e.arms.length,.c (.int .i64 e.ty.kind),.c (.str e.ty.name),.c (.int .i64 e.ty.id),.c (.int .i64 e.ty.home),.c (.sl (Ty.rows e.ty.args))],
  [.arr 11 (wr (Exp.rows (cs.take e.kids.length))) 0,.arr 14 (wr (Exp.armRows (Zbz e.arms (cs.drop e.kids.length)))) 0]):=by
 refine ZaW (vf:=v102) (by kernel_rfl) rfl (by simp) ?_
 have hle:=e.children_le
 rw [e.children_len] at hle
 have hrow:wc e.row=[.c (.int .i64 e.kind),.c (.int .i64 e.pos),.c (.str e.name),.c (.int .i64 e.num),.c (.sl (Exp.rows e.kids)),.c (.sl (Exp.armRows e.arms)),.c (.int .i64 e.ty.kind),.c (.str e.ty.name),.c (.int .i64 e.ty.id),.c (.int .i64 e.ty.home),.c (.sl (Ty.rows e.ty.args))]:=by rw [Exp.row_eq];rfl
 have hzl:(Zbz e.arms (cs.drop e.kids.length)).length=e.arms.length:=by rw [armsW_len,List.length_drop];omega
 have htk:(wr (Exp.rows cs)).take e.kids.length=wr (Exp.rows (cs.take e.kids.length)):=by simp [Exp.rows_map,wr,List.map_take]
 have hcl:(cs.take e.kids.length).length=e.kids.length:=by rw [List.length_take];omega
 have hta:(wr (Exp.armRows e.arms)).take e.arms.length=wr (Exp.armRows e.arms):=List.take_of_length_le (by simp)
 unfold v102
 simp (maxSteps:=4000000) (disch:=first|omega|(simp;done)|(simp;omega)) [h,hrow,htk,hta,hcl,Zi2,-getElem?_pos]
 refine ZaV (fun i=>⟨[(1,exsV cs),(2,.sc (.ptr 64 0)),(4,.sc (.ptr 128 0)),(5,intV e.kids.length),(6,.sc (.arr 1152 e.kids.length)),(7,.sc (.arr 1408 e.arms.length)),(35,intV e.arms.length),(36,intV i)],
  [(64,some (.box [.c (.int .i64 e.kind),.c (.int .i64 e.pos),.c (.str e.name),.c (.int .i64 e.num),.c (.sl (Exp.rows e.kids)),.c (.sl (Exp.armRows e.arms)),.c (.int .i64 e.ty.kind),.c (.str e.ty.name),.c (.int .i64 e.ty.id),.c (.int .i64 e.ty.home),.c (.sl (Ty.rows e.ty.args))])),
    (128,some Zl6),(1152,some (.arr 11 (wr (Exp.rows (cs.take e.kids.length))) 0)),(1408,some (.arr 14 (wr (Exp.armRows ((Zbz e.arms (cs.drop e.kids.length)).take i++e.arms.drop i))) 0))]⟩) e.arms.length ?_ ?_ ?_
 ·simp
 ·intro i hi
  obtain ⟨a,ha⟩:=Zaa hi
  obtain ⟨c,hc⟩:=Zaa (l:=cs) (i:=e.kids.length+i) (by omega)
  have hz:(Zbz e.arms (cs.drop e.kids.length))[i]?=some (a.1,c):=by
   unfold Zbz
   rw [List.getElem?_zipWith,ha,List.getElem?_drop,hc]
  have hg:=ZcS hzl hi
  rw [ha] at hg
  have hs:=ZcY hzl hz
  have hln:=ZcT (i:=i) hzl
  rw [←hs]
  generalize (Zbz e.arms (cs.drop e.kids.length)).take i++e.arms.drop i=zz at hg hln ⊢
  have hset:=Zcj zz i (a.1,c)
  have hsp:=Zgp a c
  have hnb:Zaj (intV ((e.kids.length:Int)+i)) cs.length=some (e.kids.length+i):=natBelow_cast (k:=.i64) (n:=e.kids.length+i) (by omega)
  unfold ZnA
  simp (maxSteps:=4000000) (disch:=first|omega|(simp;done)|(simp;omega)) [hi,hg,hln,hc,hnb,hsp,hset,ZbY,-getElem?_pos]
 ·have ht:(Zbz e.arms (cs.drop e.kids.length)).take e.arms.length++e.arms.drop e.arms.length=Zbz e.arms (cs.drop e.kids.length):=by
   rw [List.drop_length,List.append_nil,List.take_of_length_le (by omega)]
  rw [ht]
  unfold ZnA
  simp (maxSteps:=4000000) (disch:=first|omega|(simp;done)|(simp;omega)) [hzl,-getElem?_pos]
def Zq1 (l:List (ArmH × Exp)):List (ArmH × Exp):=l.map fun a=>(⟨a.1.pos,a.1.con,List.replicate a.1.vars.length []⟩,a.2)
@[simp] theorem armsB_len (l:List (ArmH × Exp)):(Zq1 l).length=l.length:=by simp [Zq1]
def bareM (e:Exp)(cs:List Exp):Exp:=.mk e.kind e.pos (if e.kind=2 then e.name else []) e.num (cs.take e.kids.length) (Zq1 (Zbz e.arms (cs.drop e.kids.length))) e.ty
variable {A:Zac}
theorem Zp6 (e:Exp):e.wf→e.weight≤1073741824→(K A).call 49 [expV e] []=some (expV (Zag e),[]):=by
 induction e using Exp.ind with
 | h e ih =>
 intro hwf hl
 refine ZaW (vf:=v49) (by kernel_rfl) rfl (by simp) ?_
 have hle:=e.children_le
 rw [e.children_len] at hle
 have hml:(e.children.map Zag).length=e.children.length:=by simp
 have hw:=Zp2 (A:=A) e (e.children.map Zag) (by rw [hml,e.children_len]) hl
 have hal:(Zbz e.arms ((e.children.map Zag).drop e.kids.length)).length=e.arms.length:=by rw [armsW_len,List.length_drop,hml,e.children_len];omega
 rw [ZgK] at hw
 have hks:(Zag e).kids.length=e.kids.length:=(Zbr e).2.2.2.2.1
 have has:(Zag e).arms.length=e.arms.length:=(Zbr e).2.2.2.2.2.1
 have hsa:=Zgc e
 generalize Zbz e.arms ((e.children.map Zag).drop e.kids.length)=ws at *
 have hpl:(Zcx ws).length=ws.length:=armsP_len ws
 by_cases hkids:e.kids=[]
 ·have harms:e.arms=[]:=Classical.byContradiction fun h=>by
   have h8:e.kind=8:=Classical.byContradiction fun h8=>h (hwf.one.2.1 h8)
   have:=hwf.one.1 h8
   rw [hkids] at this
   simp at this
  have hc:=ZfR (A:=A) e hkids harms
  have hch:e.children=[]:=by simp [Exp.children,hkids,harms]
  rw [hch] at hw
  simp only [List.map_nil,exsV,rows0] at hw
  unfold v49
  simp (maxSteps:=4000000) (disch:=first|omega|(simp;done)|(simp;omega)) [hc,-getElem?_pos]
  refine ZaV (fun i=>⟨[(1,.sc (.ptr 64 0)),(2,.sc (.ptr 128 0)),(3,.sc (.full [])),(9,.sc (.full [])),(10,intV 0),(11,intV i)],[(64,some (.box (wc e.row))),(128,some Zl6)]⟩) 0 (by simp) (fun i hi=>by omega) ?_
  unfold Zoj
  simp (maxSteps:=4000000) (disch:=first|omega|(simp;done)|(simp;omega)) [hw,hal,-getElem?_pos]
  refine ZaV (fun i=>⟨[(1,.sc (.ptr 64 0)),(2,.sc (.ptr 128 0)),(28,intV e.arms.length),(29,intV i)],
   [(64,some (.box [.c (.int .i64 e.kind),zi,.c (.str e.name),.c (.int .i64 e.num),.arr 1696 e.kids.length,.arr 1697 e.arms.length,.c (.int .i64 e.ty.kind),.c (.str e.ty.name),.c (.int .i64 e.ty.id),.c (.int .i64 e.ty.home),.c (.sl (Ty.rows e.ty.args))])),(128,some Zl6),(1696,some (.arr 11 (wr (Exp.rows (Zag e).kids)) 0)),(1697,some (.arr 14 (wr (Exp.armRows ((Zcx ws).take i++ws.drop i))) 0))]⟩) e.arms.length ?_ ?_ ?_
  ·simp
  ·intro i hi
   obtain ⟨a,ha⟩:=Zaa (l:=ws) (i:=i) (by omega)
   have hz:(Zcx ws)[i]?=some ((⟨0,a.1.con,a.1.vars⟩:ArmH),a.2):=by
    unfold Zcx
    rw [List.getElem?_map,ha]
    rfl
   have hg:=ZcS (i:=i) hpl (by omega)
   rw [ha] at hg
   have hs:=ZcY hpl hz
   have hln:=ZcT (i:=i) hpl
   rw [←hs]
   generalize (Zcx ws).take i++ws.drop i=zz at hg hln ⊢
   have hset:=Zcj zz i ((⟨0,a.1.con,a.1.vars⟩:ArmH),a.2)
   have hsp:=Zes a
   have hln2:zz.length=e.arms.length:=by omega
   unfold Zlv
   simp (maxSteps:=4000000) (disch:=first|omega|(simp;done)|(simp;omega)) [hi,hg,hln2,hsp,hset,ZbY,-getElem?_pos]
  ·have ht:(Zcx ws).take e.arms.length++ws.drop e.arms.length=(Zag e).arms:=by
    rw [←hal,List.drop_length,List.append_nil,List.take_of_length_le (by omega),hsa]
   rw [ht]
   have hsr:=ZfQ e
   unfold Zlv
   simp (maxSteps:=4000000) (disch:=first|omega|(simp;done)|(simp;omega)) [hsr,hks,has,-getElem?_pos]
 ·have hc:=Zkx (A:=A) e hkids hl
  rw [e.children_len] at hc
  unfold v49
  simp (maxSteps:=4000000) (disch:=first|omega|(simp;done)|(simp;omega)) [hc,-getElem?_pos]
  refine ZaV (fun i=>⟨[(1,.sc (.ptr 64 0)),(2,.sc (.ptr 128 0)),(3,.sc (.arr 288 (e.kids.length+e.arms.length))),(9,.sc (.arr 288 (e.kids.length+e.arms.length))),(10,intV ((e.kids.length:Int)+e.arms.length)),(11,intV i)],
   [(64,some (.box (wc e.row))),(128,some Zl6),(288,some (.arr 11 (wr (Exp.rows ((e.children.map Zag).take i++e.children.drop i))) 0))]⟩) (e.kids.length+e.arms.length) ?_ ?_ ?_
  ·simp
  ·intro i hi
   obtain ⟨x,hx⟩:=Zaa (l:=e.children) (i:=i) (by rw [e.children_len];exact hi)
   have hmem:=List.mem_of_getElem? hx
   have hrec:=ih x hmem (hwf.child hmem) (by have:=Exp.child_lt hmem;omega)
   have hz:(e.children.map Zag)[i]?=some (Zag x):=by simp [hx]
   have hg:=ZcS (i:=i) hml (by rw [e.children_len];exact hi)
   rw [hx] at hg
   have hs:=ZcY hml hz
   have hln:=ZcT (i:=i) hml
   rw [←hs]
   generalize (e.children.map Zag).take i++e.children.drop i=zz at hg hln ⊢
   have hset:=Zjw zz i (Zag x)
   have hi':(i:Int)<(e.kids.length:Int)+e.arms.length:=by omega
   rw [e.children_len] at hln
   unfold Zoj
   simp (maxSteps:=4000000) (disch:=first|omega|(simp;done)|(simp;omega)) [hi,hi',hg,hln,hrec,hset,ZbY,-getElem?_pos]
  ·have ht:(e.children.map Zag).take (e.kids.length+e.arms.length)++e.children.drop (e.kids.length+e.arms.length)=e.children.map Zag:=by
    rw [List.drop_of_length_le (by simp),List.append_nil,List.take_of_length_le (by simp)]
   rw [ht]
   unfold Zoj
   simp (maxSteps:=4000000) (disch:=first|omega|(simp;done)|(simp;omega)) [hw,hml,hal,-getElem?_pos]
   refine ZaV (fun i=>⟨[(1,.sc (.ptr 64 0)),(2,.sc (.ptr 128 0)),(28,intV e.arms.length),(29,intV i)],
    [(64,some (.box [.c (.int .i64 e.kind),zi,.c (.str e.name),.c (.int .i64 e.num),.arr 1696 e.kids.length,.arr 1697 e.arms.length,.c (.int .i64 e.ty.kind),.c (.str e.ty.name),.c (.int .i64 e.ty.id),.c (.int .i64 e.ty.home),.c (.sl (Ty.rows e.ty.args))])),(128,some Zl6),(288,some (.arr 11 (wr (Exp.rows (e.children.map Zag))) (e.kids.length+e.arms.length))),(1696,some (.arr 11 (wr (Exp.rows (Zag e).kids)) 0)),(1697,some (.arr 14 (wr (Exp.armRows ((Zcx ws).take i++ws.drop i))) 0))]⟩) e.arms.length ?_ ?_ ?_
   ·simp
   ·intro i hi
    obtain ⟨a,ha⟩:=Zaa (l:=ws) (i:=i) (by omega)
    have hz:(Zcx ws)[i]?=some ((⟨0,a.1.con,a.1.vars⟩:ArmH),a.2):=by
     unfold Zcx
     rw [List.getElem?_map,ha]
     rfl
    have hg:=ZcS (i:=i) hpl (by omega)
    rw [ha] at hg
    have hs:=ZcY hpl hz
    have hln:=ZcT (i:=i) hpl
    rw [←hs]
    generalize (Zcx ws).take i++ws.drop i=zz at hg hln ⊢
    have hset:=Zcj zz i ((⟨0,a.1.con,a.1.vars⟩:ArmH),a.2)
    have hsp:=Zes a
    have hln2:zz.length=e.arms.length:=by omega
    unfold Zlv
    simp (maxSteps:=4000000) (disch:=first|omega|(simp;done)|(simp;omega)) [hi,hg,hln2,hsp,hset,ZbY,-getElem?_pos]
   ·have ht:(Zcx ws).take e.arms.length++ws.drop e.arms.length=(Zag e).arms:=by
     rw [←hal,List.drop_length,List.append_nil,List.take_of_length_le (by omega),hsa]
    rw [ht]
    have hsr:=ZfQ e
    unfold Zlv
    simp (maxSteps:=4000000) (disch:=first|omega|(simp;done)|(simp;omega)) [hsr,hks,has,-getElem?_pos]
variable {A:Zac}
theorem Zqf (l m:List Str)(h:l.length≤4294967296):(K A).call 53 [Zdo l,Zdo m] []=some (ZaG (decide (l=m)),[]):=by
 refine ZaW (vf:=v53) (by kernel_rfl) rfl (by decide) ?_
 unfold v53
 by_cases hl:l.length=m.length
 ·have hp:=ZhC l m
  simp (disch:=first|omega|(simp;done)|(simp;omega)) [hl]
  refine ZaV (fun i=>⟨[(0,Zdo l),(1,Zdo m),(5,intV i)],[]⟩) (ZbR l m) ?_ ?_ ?_
  ·simp
  ·intro i hi
   obtain ⟨x,hx,hy⟩:=Zid hi
   have hlt:i<m.length:=by omega
   unfold Zql
   simp (disch:=first|omega|(simp;done)|(simp;omega)) [hx,hy,hlt,hl,-getElem?_pos]
  ·unfold Zql
   by_cases hm:ZbR l m<l.length
   ·obtain ⟨x,y,hx,hy,hxy⟩:=Zhz hl hm
    have hne:l≠m:=fun h=>by rw [←Ze8 hl] at h;omega
    have hm':ZbR l m<m.length:=by omega
    simp (disch:=first|omega|(simp;done)|(simp;omega)) [hx,hy,hm',hl,hxy,hne,-getElem?_pos]
   ·have he:l=m:=(Ze8 hl).1 (by omega)
    subst he
    simp (disch:=first|omega|(simp;done)|(simp;omega)) [hm,-getElem?_pos]
 ·have hne:l≠m:=fun h=>hl (by rw [h])
  have hl':¬(l.length:Int)=m.length:=by omega
  simp (disch:=first|omega|(simp;done)|(simp;omega)) [hl',hne,hl]
theorem ZkL (l m:List Exp)(hl:l.length≤1073741824)(ih:∀ x∈l,∀ y∈m,∃ r,IffB (sameP x y) r∧(K A).call 18 [expV x,expV y] []=some r) :
 ∃ r,IffB (allR sameP l m) r∧(K A).call 54 [exsV l,exsV m] []=some r:=by
 refine Zap _ (vf:=v54) (by kernel_rfl) rfl (by simp) ?_
 unfold v54
 by_cases hn:l.length=m.length
 ·simp (disch:=first|omega|(simp;done)|(simp;omega)) [hn]
  refine Zaf (fun i s=>(∀ (j:Nat) x y,j<i→l[j]?=some x→m[j]?=some y→sameP x y)∧s=⟨[(0,exsV l),(1,exsV m),(5,intV i)],[]⟩) l.length ⟨by omega,by simp⟩ ?_ ?_
  ·rintro i s hi ⟨hs,rfl⟩
   obtain ⟨x,hx⟩:=Zaa hi
   obtain ⟨y,hy⟩:=Zaa (l:=m) (i:=i) (by omega)
   obtain ⟨_,⟨b,hb,rfl⟩,hc⟩:=ih x (List.mem_of_getElem? hx) y (List.mem_of_getElem? hy)
   unfold ZqF
   cases b with
   | true =>
    have hxy:=hb.1 rfl
    simp (disch:=first|omega|(simp;done)|(simp;omega)) [hi,hx,hy,hc,-getElem?_pos]
    intro j x' y' hj hx' hy'
    by_cases hji:j=i
    ·subst hji
     rw [hx] at hx'
     rw [hy] at hy'
     cases hx'
     cases hy'
     exact hxy
    ·exact hs j x' y' (by omega) hx' hy'
   | false =>
    simp (disch:=first|omega|(simp;done)|(simp;omega)) [hi,hx,hy,hc,-getElem?_pos]
    exact IffB.no fun h=>by have:=hb.2 (h.2 i x y hx hy);cases this
  ·rintro s ⟨hs,rfl⟩
   unfold ZqF
   simp (disch:=first|omega|(simp;done)|(simp;omega))
   exact IffB.yes ⟨hn,fun i x y hx hy=>hs i x y (List.getElem?_eq_some_iff.1 hx).1 hx hy⟩
 ·have hn':¬(l.length:Int)=m.length:=by omega
  simp (disch:=first|omega|(simp;done)|(simp;omega)) [hn,hn']
  exact IffB.no fun h=>hn h.1
theorem ZqU (a:Exp):∀ b,tyBd a→a.weight≤1073741824→b.weight≤1073741824→∃ r,IffB (sameP a b) r∧(K A).call 18 [expV a,expV b] []=some r:=by
 induction a using Exp.ind with
 | h a ih =>
 intro b ht hw hwb
 have hal:=a.children_le
 have hbl:=b.children_le
 have hchA:=a.children_len
 have hchB:=b.children_len
 refine Zap _ (vf:=v18) (by kernel_rfl) rfl (by simp) ?_
 obtain ⟨_,⟨t,h3,rfl⟩,hc3⟩:=teq85 (A:=A) 1073741824 a.ty b.ty ht.one (by omega)
 have hca:=Zch (A:=A) a (by omega)
 have hcb:=Zch (A:=A) b (by omega)
 obtain ⟨_,⟨vk,hK,rfl⟩,hck⟩:=ZkL (A:=A) a.children b.children (by omega) fun x hx y hy=>ih x hx y (ht.child hx) (by have:=Exp.child_lt hx;omega) (by have:=Exp.child_lt hy;omega)
 unfold v18
 by_cases q1:a.kind=b.kind
 case neg =>
  simp (disch:=first|omega|(simp;done)|(simp;omega)) [q1]
  exact IffB.no fun h=>by rw [Zb0] at h;exact q1 h.1
 by_cases q2:a.name=b.name
 case neg =>
  simp (disch:=first|omega|(simp;done)|(simp;omega)) [q1,q2]
  exact IffB.no fun h=>by rw [Zb0] at h;exact q2 h.2.1
 by_cases q3:a.num=b.num
 case neg =>
  simp (disch:=first|omega|(simp;done)|(simp;omega)) [q1,q2,q3]
  exact IffB.no fun h=>by rw [Zb0] at h;exact q3 h.2.2.1
 cases t with
 | false =>
  simp (disch:=first|omega|(simp;done)|(simp;omega)) [q1,q2,q3,hc3]
  exact IffB.no fun h=>by rw [Zb0] at h;have:=h3.2 h.2.2.2.1;cases this
 | true =>
 have q4:=h3.1 rfl
 by_cases q5:a.kids.length=b.kids.length
 case neg =>
  have q5':¬(a.kids.length:Int)=b.kids.length:=by omega
  simp (disch:=first|omega|(simp;done)|(simp;omega)) [q1,q2,q3,hc3,q5,q5']
  exact IffB.no fun h=>by rw [Zb0] at h;exact q5 h.2.2.2.2.1
 by_cases q6:a.arms.length=b.arms.length
 case neg =>
  have q6':¬(a.arms.length:Int)=b.arms.length:=by omega
  simp (disch:=first|omega|(simp;done)|(simp;omega)) [q1,q2,q3,hc3,q5,q6,q6']
  exact IffB.no fun h=>by rw [Zb0] at h;exact q6 h.2.2.2.2.2.1
 have hrest:(∀ (i:Nat) p q,a.arms[i]?=some p→b.arms[i]?=some q→p.1.con=q.1.con∧p.1.vars=q.1.vars)→IffB (sameP a b) (ZaG vk,[]):=by
  intro harms
  refine ⟨vk,hK.trans ?_,rfl⟩
  rw [Zb0]
  exact ⟨fun h=>⟨q1,q2,q3,q4,q5,q6,harms,h.2⟩,fun h=>⟨by omega,h.2.2.2.2.2.2.2⟩⟩
 have hbad:∀ (i:Nat) p q,a.arms[i]?=some p→b.arms[i]?=some q→¬(p.1.con=q.1.con∧p.1.vars=q.1.vars)→IffB (sameP a b) (ZaG false,[]):=by
  intro i p q hp hq h
  exact IffB.no fun h'=>by rw [Zb0] at h';exact h (h'.2.2.2.2.2.2.1 i p q hp hq)
 generalize sameP a b=P at hrest hbad ⊢
 clear ih hK ht
 simp (disch:=first|omega|(simp;done)|(simp;omega)) [q1,q2,q3,hc3,q5,q6]
 refine Zaf (fun i s=>(∀ (j:Nat) p q,j<i→a.arms[j]?=some p→b.arms[j]?=some q→p.1.con=q.1.con∧p.1.vars=q.1.vars)∧s=⟨[(2,.sc (.ptr 64 0)),(3,.sc (.ptr 128 0)),(5,intV i)],[(64,some (.box (wc a.row))),(128,some (.box (wc b.row)))]⟩) a.arms.length ⟨by omega,by simp⟩ ?_ ?_
 ·rintro i s hi ⟨hs,rfl⟩
  obtain ⟨p,hp⟩:=Zaa hi
  obtain ⟨q,hq⟩:=Zaa (l:=b.arms) (i:=i) (by omega)
  have hv:=Exp.vars_le (List.mem_of_getElem? hp)
  have hc:=Zqf (A:=A) p.1.vars q.1.vars (by omega)
  have hib:i<b.arms.length:=by omega
  have bad:=hbad i p q hp hq
  have hiI:(i:Int)<b.arms.length:=by omega
  unfold ZqC
  by_cases c1:p.1.con=q.1.con
  ·by_cases c2:p.1.vars=q.1.vars
   ·rw [c2] at hc
    simp (maxSteps:=4000000) (disch:=first|omega|(simp;done)|(simp;omega)) [hi,hib,hiI,hp,hq,hc,c1,c2,q6,-getElem?_pos]
    intro j x1 x2 y1 y2 hj hx' hy'
    by_cases hji:j=i
    ·subst hji
     rw [hp] at hx'
     rw [hq] at hy'
     cases hx'
     cases hy'
     exact ⟨c1,c2⟩
    ·exact hs j _ _ (by omega) hx' hy'
   ·simp (maxSteps:=4000000) (disch:=first|omega|(simp;done)|(simp;omega)) [hi,hib,hiI,hp,hq,hc,c1,c2,q6,-getElem?_pos]
    exact bad fun h=>c2 h.2
  ·simp (maxSteps:=4000000) (disch:=first|omega|(simp;done)|(simp;omega)) [hi,hib,hiI,hp,hq,hc,c1,q6,-getElem?_pos]
   exact bad fun h=>c1 h.1
 ·rintro s ⟨hs,rfl⟩
  have yes:=hrest fun i p q hp hq=>hs i p q (List.getElem?_eq_some_iff.1 hp).1 hp hq
  unfold ZqC
  simp (maxSteps:=4000000) (disch:=first|omega|(simp;done)|(simp;omega)) [hca,hcb,hck,q6,-getElem?_pos]
  exact yes
variable {A:Zac}
def Zfi (p:Str × Str):List Cell:=[.str p.1,.str p.2]
def ZbZ (l:List (Str × Str)):List (List Cell):=l.map Zfi
@[simp] theorem pairRow_len (p:Str × Str):(Zfi p).length=2:=rfl
@[simp] theorem pairRows_len (l:List (Str × Str)):(ZbZ l).length=l.length:=by simp [ZbZ]
@[simp] theorem pairRows_get (l:List (Str × Str)) (i:Nat):(ZbZ l)[i]?=(l[i]?).map Zfi:=by simp [ZbZ]
@[simp] theorem okRows_pair (l:List (Str × Str)):ZaM 2 (wr (ZbZ l))=true:=Za2 l pairRow_len
@[simp] theorem pairRows_snoc (l:List (Str × Str)) (x:Str × Str):wr (ZbZ l)++[[W.c (.str x.1),W.c (.str x.2)]]=wr (ZbZ (l++[x])):=by simp [ZbZ,wr,Zfi]
@[simp] theorem fit_pair (l:List (Str × Str)):Za0 2 (ZbZ l)=true:=Zc9 pairRow_len l
@[simp] theorem wc_pair (p:Str × Str):wc (Zfi p)=[.c (.str p.1),.c (.str p.2)]:=rfl
abbrev pairsV (l:List (Str × Str)):V:=.sc (.c (.sl (ZbZ l)))
end Go.Vs.Tryz
