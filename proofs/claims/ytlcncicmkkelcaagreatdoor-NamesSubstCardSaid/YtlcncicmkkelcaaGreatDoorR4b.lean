/- Comparing by the program: the closure compare, walked. (Parts of one proof, put together.) -/
import Derived.Test.YtlcncicmkkelcaaGreatDoorR3b
import Derived.Test.YtlcncicmkkelcaaGreatDoorR2b
set_option linter.unusedSimpArgs false
set_option linter.unusedVariables false
set_option linter.deprecated false
set_option maxHeartbeats 4000000
set_option maxRecDepth 10000
namespace Go.Vs.Tryz
open Go Go.Vs
variable {A:Zac}
@[simp] theorem calleeOf_c1 {f:FuncId} {w:W}:Zbj (.sc (.clo f [true] [[w]]))=some (f,[(true,.sc w)]):=rfl
@[simp] theorem calleeOf_c2 {f:FuncId} {w0 w1:W}:Zbj (.sc (.clo f [true,true] [[w0],[w1]]))=some (f,[(true,.sc w0),(true,.sc w1)]):=rfl
@[simp] theorem calleeOf_c3 {f:FuncId} {w0 w1 w2:W}:Zbj (.sc (.clo f [true,true,true] [[w0],[w1],[w2]]))=some (f,[(true,.sc w0),(true,.sc w1),(true,.sc w2)]):=rfl
def armS (ds:List DataD)(ctx:List EntD)(l m:List Str)(a b:Exp)(k i:Nat):St:=⟨[(0,Za3 l),(1,Za3 m),(4,.sc (.ptr 2 0)),(5,.sc (.ptr 3 0)),(9,.sc (.ptr 64 0)),(10,.sc (.ptr 128 0)),(115,intV k),(116,intV i)],
 [(0,some (.box [.c (.sl (Zax ds))])),(1,some (.box [.c (.sl (Zbq ctx))])),(2,some (.box [.clo 58 [true,true,true] [[.ptr 2 0],[.ptr 3 0],[.ptr 4 0]]])),(3,some (.box [.clo 54 [true,true] [[.ptr 0 0],[.ptr 1 0]]])),(4,some (.box [.clo 57 [true] [[.ptr 2 0]]])),(64,some (.box (wc a.row))),(128,some (.box (wc b.row)))]⟩
variable {A:Zac}
def ZeT (ds:List DataD):Prop:=∀ d∈ds,∀ c∈d.cons,Zdi 65 90 c.name
def TermP (L:List Int)(ds:List DataD)(N:List Str)(B:Nat)(r:V × List Obj):Prop:=∃ e J,good e∧Zeo ds e N∧e.weight≤B∧J≤L.length∧r=(expV e,[Zbo L J])
end Go.Vs.Tryz
namespace Go.Vs
open Go
section
variable {C:Ctx}
theorem wp_seqN {a b:VCode}{Q:Ex→St→Prop}{s:St}(R:St→Prop)(h1:wp C a (fun e s'=>(e=.normal∧R s')∨(e≠.normal∧Q e s')) s)(h2:∀ s',R s'→wp C b Q s'):wp C (.seq a b) Q s:=by
 rw [wp_seq]
 refine wp_mono h1 ?_
 rintro e s' (⟨rfl,h⟩|⟨h,h3⟩)
 ·exact h2 s' h
 ·cases e with
  | normal=>exact absurd rfl h
  | exit i=>exact h3
  | ret=>exact h3
end
end Go.Vs
namespace Go.Vs.Tryz
open Go Go.Vs
variable {A:Zac}
def vnames:List Str:=[[120],[116],[102],[118]]
abbrev zbox:Obj:=.box [zi,zi,zs,zi,.nil,.nil,zi,zs,zi,zi,.nil]
def ArmT (L:List Int)(ds:List DataD)(N:List Str)(dd:DataD)(x:Exp)(B d i:Nat)(s:St):Prop:=∃ arms J,arms.length=i∧J≤L.length ∧
 (arms.map fun a=>a.1.con)=(Zbw dd).take i∧(arms.map fun a=>a.1.vars.length)=(dd.cons.map fun c=>c.fields.length).take i ∧
 (∀ a∈arms,a.1.pos=0∧a.1.vars.length≤4∧(∀ v∈a.1.vars,Zdi 97 122 v)∧good a.2∧Zeo ds a.2 (N++a.1.vars)∧a.2.weight≤B) ∧
 s=⟨[(0,.sc (.ptr 0 0)),(1,ZaX ds),(2,Za3 N),(3,intV (d+1)),(8,.sc (.ptr 64 0)),(11,.sc (.ptr 3008 0)),(12,.sc (.ptr 3776 0)),(13,intV i)],
  [(0,some (Zbo L J)),(64,some zbox),(3008,some (.box (wc (ZaM dd)))),(3648,some (.arr 11 [wc x.row] 0)),
    (3776,some (.box [.c (.int .i64 8),zi,zs,zi,.arr 3648 1,.arr 3846 i,zi,zs,zi,zi,.nil])),(3846,some (.arr 14 (wr (Exp.armRows arms)) 0))]⟩
def VarT (L:List Int)(ds:List DataD)(N:List Str)(dd:DataD)(x:Exp)(arms:List (ArmH × Exp))(con:Str)(J d i j:Nat)(s:St):Prop:=∃ vars:List Str,vars.length=j∧(∀ v∈vars,v∈vnames) ∧
 s=⟨[(0,.sc (.ptr 0 0)),(1,ZaX ds),(2,Za3 N),(3,intV (d+1)),(8,.sc (.ptr 64 0)),(11,.sc (.ptr 3008 0)),(12,.sc (.ptr 3776 0)),(13,intV i),(14,.sc (.ptr 4736 0)),(15,intV j)],
  [(0,some (Zbo L J)),(64,some zbox),(3008,some (.box (wc (ZaM dd)))),(3648,some (.arr 11 [wc x.row] 0)),
    (3776,some (.box [.c (.int .i64 8),zi,zs,zi,.arr 3648 1,.arr 3846 i,zi,zs,zi,zi,.nil])),(3846,some (.arr 14 (wr (Exp.armRows arms)) 0)),
    (4736,some (.box [zi,.c (.str con),.arr 4803 j,zi,zi,zs,zi,.nil,.nil,zi,zs,zi,zi,.nil])),(4803,some (.arr 1 (wr (Zag vars)) 0))]⟩
def conC (s:Str):List W:=[.c (.int .i64 2),zi,.c (.str s),zi,.nil,.nil,zi,zs,zi,zi,.nil]
def HeadT (L:List Int)(ds:List DataD)(N:List Str)(d:Nat)(st:St):Prop:=∃ e cells J,good e∧ZrQ e∧Zeo ds e N∧e.weight=1∧J≤L.length∧(cells=wc e.row∨∃ c,e=ZhQ c∧cells=conC c) ∧
 (st=⟨[(0,.sc (.ptr 0 0)),(1,ZaX ds),(2,Za3 N),(3,intV d),(8,.sc (.ptr 64 0)),(16,.sc (.ptr 8448 0)),(138,Zah false)],[(0,some (Zbo L J)),(64,some zbox),(8448,some (.box cells))]⟩ ∨
   ∃ dd:DataD,st=⟨[(0,.sc (.ptr 0 0)),(1,ZaX ds),(2,Za3 N),(3,intV d),(8,.sc (.ptr 64 0)),(16,.sc (.ptr 8448 0))],[(0,some (Zbo L J)),(64,some zbox),(8448,some (.box cells)),(9536,some (.box (wc (ZaM dd))))]⟩)
def AppT (L:List Int)(ds:List DataD)(N:List Str)(B d n i:Nat)(s:St):Prop:=∃ e cells J,good e∧ZrQ e∧Zeo ds e N∧e.weight≤1+i*(1+B)∧J≤L.length∧(cells=wc e.row∨∃ c,e=ZhQ c∧cells=conC c) ∧
 s=⟨[(0,.sc (.ptr 0 0)),(1,ZaX ds),(2,Za3 N),(3,intV d),(8,.sc (.ptr 64 0)),(16,.sc (.ptr 8448 0)),(18,intV (n-i:Nat))],
  [(0,some (Zbo L J)),(64,some zbox),(8448,some (.box cells))]⟩
variable {A:Zac}
def MadeT (ds7:List DataD)(n:Nat)(r:V × List Obj):Prop:=∃ (ds:List DataD)(ctx:List EntD)(l:List Exp)(p:Nat),(∀ d∈ds,d∈ds7)∧ZhP ds∧ctx.length≤4∧(∀ s∈Zdm ctx,Zdi 97 122 s)∧l.length=n ∧
 (∀ e∈l,good e∧Zeo ds e (Zdm ctx)∧e.weight≤32768)∧(p=0∨p=ctx.length)∧r=(.tu [ZaX ds,.sc (.arr 0 ctx.length),.sc (.arr 1 n)],[.arr 7 (wr (Zbq ctx)) p,.arr 11 (wr (Exp.rows l)) 0])
theorem uniq.sub {ds ds7:List DataD}(h:uniq ds7)(hs:∀ d∈ds,d∈ds7):uniq ds:=fun d hd d' hd' c hc hc'=>h d (hs d hd) d' (hs d' hd') c hc hc'
theorem good.tyBd {e:Exp}:good e→tyBd e:=by
 induction e using Exp.ind with
 | h e ih =>
  intro g
  rw [ZdK]
  refine ⟨?_,fun x hx=>ih x hx (g.child hx)⟩
  rw [g.one.2.2.1]
  decide
variable {A:Zac}
theorem Znd {e x:Exp}{i:Nat}(h:e.kids[i]?=some x):e.children[i]?=some x:=by
 rw [Exp.children,List.getElem?_append_left (List.getElem?_eq_some_iff.1 h).1]
 exact h
theorem Zcp {e:Exp}{p:ArmH × Exp}{i:Nat}(h:e.arms[i]?=some p):e.children[e.kids.length+i]?=some p.2:=by
 rw [Exp.children,List.getElem?_append_right (by omega),Nat.add_sub_cancel_left,List.getElem?_map,h]
 rfl
theorem ZjZ {e x:Exp}{i:Nat}(h:e.children[i]?=some x):e.kids[i]?=some x∨∃ j p,i=e.kids.length+j∧e.arms[j]?=some p∧p.2=x:=by
 rcases Nat.lt_or_ge i e.kids.length with hi|hi
 ·left
  rwa [Exp.children,List.getElem?_append_left hi] at h
 ·right
  rw [Exp.children,List.getElem?_append_right hi,List.getElem?_map] at h
  obtain ⟨p,hp,hx⟩:=Option.map_eq_some_iff.1 h
  exact ⟨i-e.kids.length,p,by omega,hp,hx⟩
def sameF (a:Exp)(l:List (Exp→Prop))(b:Exp):Prop:=a.kind=b.kind∧a.name=b.name∧a.num=b.num∧a.ty=b.ty∧a.kids.length=b.kids.length∧a.arms.length=b.arms.length ∧
 (∀ (i:Nat) p q,a.arms[i]?=some p→b.arms[i]?=some q→p.1.con=q.1.con∧p.1.vars=q.1.vars)∧∀ (i:Nat) f y,l[i]?=some f→b.children[i]?=some y→f y
def sameP (a:Exp):Exp→Prop:=a.fold sameF
theorem ZbH (a b:Exp):sameP a b=(a.kind=b.kind∧a.name=b.name∧a.num=b.num∧a.ty=b.ty∧a.kids.length=b.kids.length∧a.arms.length=b.arms.length ∧
 (∀ (i:Nat) p q,a.arms[i]?=some p→b.arms[i]?=some q→p.1.con=q.1.con∧p.1.vars=q.1.vars)∧∀ (i:Nat) x y,a.children[i]?=some x→b.children[i]?=some y→sameP x y):=by
 unfold sameP
 rw [Exp.fold_eq]
 unfold sameF
 simp only [List.getElem?_map,Option.map_eq_some_iff]
 apply propext
 refine and_congr_right fun _=>and_congr_right fun _=>and_congr_right fun _=>and_congr_right fun _=>and_congr_right fun _=>and_congr_right fun _=>and_congr_right fun _=>forall_congr' fun i => ?_
 constructor
 ·exact fun h x y hx hy=>h _ y ⟨x,hx,rfl⟩ hy
 ·rintro h f y ⟨x,hx,rfl⟩ hy
  exact h x y hx hy
theorem ZfL (a:Exp):sameP a a:=by
 induction a using Exp.ind with
 | h a ih =>
  rw [ZbH]
  refine ⟨rfl,rfl,rfl,rfl,rfl,rfl,fun i p q hp hq => ?_,fun i x y hx hy => ?_⟩
  ·rw [hp] at hq
   cases hq
   exact ⟨rfl,rfl⟩
  ·rw [hx] at hy
   cases hy
   exact ih x (List.mem_of_getElem? hx)
abbrev armV (p:ArmH × Exp):V:=.ag (wc (Zao p))
abbrev armsV (l:List (ArmH × Exp)):V:=.sc (.c (.sl (Exp.armRows l)))
def allR {α:Type}(R:α→α→Prop)(l m:List α):Prop:=l.length=m.length∧∀ (i:Nat) x y,l[i]?=some x→m[i]?=some y→R x y
def sameA (p q:ArmH × Exp):Prop:=p.1.con=q.1.con∧p.1.vars=q.1.vars∧sameP p.2 q.2
end Go.Vs.Tryz
namespace Go.Vs
open Go
def Zoe (k s:Nat)(zs rows:List (List W)):Upd:=bif zs.isEmpty then [] else [(k,some (.arr s (zs++rows.drop zs.length) 0))]
def ZrD (k n s:Nat)(ys:Option (List (List W)))(o:Option Obj):Option (V × Upd):=match ys,o with
 | some ys,some (.arr s' rows p)=>bif Za0 s ys && (rows.length == n && s' == s && p == 0) then some (.sc (.c (.int .i64 (ys.take n).length)),Zoe k s (ys.take n) rows) else none
 | _,_=>none
@[simp] theorem copyK_some {k n s s' p:Nat} {ys rows:List (List W)}:ZrD k n s (some ys) (some (.arr s' rows p))=bif Za0 s ys && (rows.length == n && s' == s && p == 0) then some (.sc (.c (.int .i64 (ys.take n).length)),Zoe k s (ys.take n) rows) else none:=rfl
@[simp] theorem copy1_arr {L:Nat→Option Obj} {k n s:Nat} {y:V}:Zjf L s (.sc (.arr k n)) y=ZrD k n s (ZaW L y) (L k):=by
 unfold Zjf ZrD
 cases ZaW L y with
 | none=>rfl
 | some ys =>
  dsimp only
  unfold Za0 Zoe
  cases hL:L k with
  | none=>dsimp only;cases ys.all fun r=>r.length == s && r.all Zav<;>rfl
  | some o=>cases o with
   | box _=>dsimp only;cases ys.all fun r=>r.length == s && r.all Zav<;>rfl
   | arr s' rows p=>dsimp only;cases ys.all fun r=>r.length == s && r.all Zav<;>rfl
theorem Zjz {α:Type}{k:Nat}{a:α}:∀ {l:List (Nat × α)},get? l k=some a→put l k a=l
 | [],h=>by cases h
 | (j,b)::r,h=>by
  simp only [get?] at h
  simp only [put]
  cases hj:(j == k) with
  | true=>rw [hj] at h;simp only [cond_true,Option.some.injEq] at h ⊢;rw [h]
  | false=>rw [hj] at h;simp only [cond_false] at h ⊢;rw [Zjz h]
theorem Zkw {O:Objs}{k s:Nat}{zs rows:List (List W)}(h:get? O k=some (some (.arr s rows 0))):Zcw O (Zoe k s zs rows)=put O k (some (.arr s (zs++rows.drop zs.length) 0)):=by
 unfold Zoe
 cases zs with
 | nil =>
  simp only [List.isEmpty_nil,cond_true,putAll_nil,List.nil_append,List.length_nil,List.drop_zero]
  exact (Zjz h).symm
 | cons a r=>rfl
end Go.Vs
namespace Go.Vs.Tryz
open Go Go.Vs
variable {A:Zac}
theorem Zgn (e:Exp)(cs:List Exp)(h:cs.length=e.kids.length+e.arms.length)(hl:e.weight≤1073741824):(K A).call 146 [expV e,exsV cs] [] =
 some (.ag [.c (.int .i64 e.kind),.c (.int .i64 e.pos),.c (.str e.name),.c (.int .i64 e.num),.arr 0 e.kids.length,.arr 1 e.arms.length,.c (.int .i64 e.ty.kind),.c (.str e.ty.name),.c (.int .i64 e.ty.id),.c (.int .i64 e.ty.home),.c (.sl (Ty.rows e.ty.args))],
  [.arr 11 (wr (Exp.rows (cs.take e.kids.length))) 0,.arr 14 (wr (Exp.armRows (Za4 e.arms (cs.drop e.kids.length)))) 0]):=by
 refine Zan (vf:=v146) (by kernel_rfl) rfl (by simp) ?_
 have hle:=e.children_le
 rw [e.children_len] at hle
 have hrow:wc e.row=[.c (.int .i64 e.kind),.c (.int .i64 e.pos),.c (.str e.name),.c (.int .i64 e.num),.c (.sl (Exp.rows e.kids)),.c (.sl (Exp.armRows e.arms)),.c (.int .i64 e.ty.kind),.c (.str e.ty.name),.c (.int .i64 e.ty.id),.c (.int .i64 e.ty.home),.c (.sl (Ty.rows e.ty.args))]:=by rw [Exp.row_eq];rfl
 have hzl:(Za4 e.arms (cs.drop e.kids.length)).length=e.arms.length:=by rw [armsW_len,List.length_drop];omega
 have htk:(wr (Exp.rows cs)).take e.kids.length=wr (Exp.rows (cs.take e.kids.length)):=by simp [Exp.rows_map,wr,List.map_take]
 have hcl:(cs.take e.kids.length).length=e.kids.length:=by rw [List.length_take];omega
 have hta:(wr (Exp.armRows e.arms)).take e.arms.length=wr (Exp.armRows e.arms):=List.take_of_length_le (by simp)
 unfold v146
 simp (maxSteps:=4000000) (disch:=first|omega|(simp;done)|(simp;omega)) [h,hrow,htk,hta,hcl,Zkw,-getElem?_pos]
 refine Zaz (fun i=>⟨[(1,exsV cs),(2,.sc (.ptr 64 0)),(4,.sc (.ptr 128 0)),(5,intV e.kids.length),(6,.sc (.arr 1152 e.kids.length)),(7,.sc (.arr 1408 e.arms.length)),(35,intV e.arms.length),(36,intV i)],
  [(64,some (.box [.c (.int .i64 e.kind),.c (.int .i64 e.pos),.c (.str e.name),.c (.int .i64 e.num),.c (.sl (Exp.rows e.kids)),.c (.sl (Exp.armRows e.arms)),.c (.int .i64 e.ty.kind),.c (.str e.ty.name),.c (.int .i64 e.ty.id),.c (.int .i64 e.ty.home),.c (.sl (Ty.rows e.ty.args))])),
    (128,some Zej),(1152,some (.arr 11 (wr (Exp.rows (cs.take e.kids.length))) 0)),(1408,some (.arr 14 (wr (Exp.armRows ((Za4 e.arms (cs.drop e.kids.length)).take i++e.arms.drop i))) 0))]⟩) e.arms.length ?_ ?_ ?_
 ·simp
 ·intro i hi
  obtain ⟨a,ha⟩:=Zaa hi
  obtain ⟨c,hc⟩:=Zaa (l:=cs) (i:=e.kids.length+i) (by omega)
  have hz:(Za4 e.arms (cs.drop e.kids.length))[i]?=some (a.1,c):=by
   unfold Za4
   rw [List.getElem?_zipWith,ha,List.getElem?_drop,hc]
  have hg:=Zcz hzl hi
  rw [ha] at hg
  have hs:=Zcg hzl hz
  have hln:=ZcA (i:=i) hzl
  rw [←hs]
  generalize (Za4 e.arms (cs.drop e.kids.length)).take i++e.arms.drop i=zz at hg hln ⊢
  have hset:=Zdv zz i (a.1,c)
  have hsp:=ZhJ a c
  have hnb:Zal (intV ((e.kids.length:Int)+i)) cs.length=some (e.kids.length+i):=natBelow_cast (k:=.i64) (n:=e.kids.length+i) (by omega)
  unfold Zo8
  simp (maxSteps:=4000000) (disch:=first|omega|(simp;done)|(simp;omega)) [hi,hg,hln,hc,hnb,hsp,hset,Zbi,-getElem?_pos]
 ·have ht:(Za4 e.arms (cs.drop e.kids.length)).take e.arms.length++e.arms.drop e.arms.length=Za4 e.arms (cs.drop e.kids.length):=by
   rw [List.drop_length,List.append_nil,List.take_of_length_le (by omega)]
  rw [ht]
  unfold Zo8
  simp (maxSteps:=4000000) (disch:=first|omega|(simp;done)|(simp;omega)) [hzl,-getElem?_pos]
def ZrR (l:List (ArmH × Exp)):List (ArmH × Exp):=l.map fun a=>(⟨a.1.pos,a.1.con,List.replicate a.1.vars.length []⟩,a.2)
@[simp] theorem armsB_len (l:List (ArmH × Exp)):(ZrR l).length=l.length:=by simp [ZrR]
def bareM (e:Exp)(cs:List Exp):Exp:=.mk e.kind e.pos (if e.kind=2 then e.name else []) e.num (cs.take e.kids.length) (ZrR (Za4 e.arms (cs.drop e.kids.length))) e.ty
end Go.Vs.Tryz
