/- Comparing by the program: the closure compare, walked. -/
import Derived.Test.YtccmnfpbcmccpaaGreatDoorR1u
set_option linter.unusedSimpArgs false
set_option linter.unusedVariables false
set_option linter.deprecated false
set_option maxHeartbeats 4000000
set_option maxRecDepth 10000
namespace Go.Vs.Tryz
open Go Go.Vs
variable {A:Ab}
@[simp] theorem calleeOf_c1 {f:FuncId} {w:W}:Dc (.sc (.clo f [true] [[w]]))=some (f,[(true,.sc w)]):=rfl
@[simp] theorem calleeOf_c2 {f:FuncId} {w0 w1:W}:Dc (.sc (.clo f [true,true] [[w0],[w1]]))=some (f,[(true,.sc w0),(true,.sc w1)]):=rfl
@[simp] theorem calleeOf_c3 {f:FuncId} {w0 w1 w2:W}:Dc (.sc (.clo f [true,true,true] [[w0],[w1],[w2]]))=some (f,[(true,.sc w0),(true,.sc w1),(true,.sc w2)]):=rfl
variable {A:Ab}
def Ii (ds:List DataD):Prop:=∀d∈ds,∀c∈d.cons,nameOk 65 90 c.name
def ZdJ (L:List Int)(ds:List DataD)(N:List Str)(B:Nat)(r:V×List Obj):Prop:=∃e J,good e/\F7 ds e N/\e.weight<=B/\J<=L.length/\r=(expV e,[AC L J])
end Go.Vs.Tryz
namespace Go.Vs
open Go
section
variable {C:Ctx}
end
end Go.Vs
namespace Go.Vs.Tryz
open Go Go.Vs
variable {A:Ab}
def Zbz:List Str:=[[120],[116],[102],[118]]
abbrev zbox:Obj:=.box [zi,zi,zs,zi,.nil,.nil,zi,zs,zi,zi,.nil]
def ArmT (L:List Int)(ds:List DataD)(N:List Str)(dd:DataD)(x:Exp)(B d i:Nat)(s:St):Prop:=∃arms J,arms.length=i/\J<=L.length/\
 (arms.map fun a=>a.1.con)=(BE dd).take i/\(arms.map fun a=>a.1.vars.length)=(dd.cons.map fun c=>c.fields.length).take i/\
 (∀a∈arms,a.1.pos=0/\a.1.vars.length<=4/\(∀v∈a.1.vars,nameOk 97 122 v)/\good a.2/\F7 ds a.2 (N++a.1.vars)/\a.2.weight<=B)/\
 s=⟨[(0,.sc (.ptr 0 0)),(1,Bt ds),(2,A1 N),(3,intV (d+1)),(8,.sc (.ptr 64 0)),(11,.sc (.ptr 3008 0)),(12,.sc (.ptr 3776 0)),(13,intV i)],
  [(0,some (AC L J)),(64,some zbox),(3008,some (.box (wc (Ba dd)))),(3648,some (.arr 11 [wc x.row] 0)),
    (3776,some (.box [.c (.int .i64 8),zi,zs,zi,.arr 3648 1,.arr 3846 i,zi,zs,zi,zi,.nil])),(3846,some (.arr 14 (wr (Exp.armRows arms)) 0))]⟩
def VarT (L:List Int)(ds:List DataD)(N:List Str)(dd:DataD)(x:Exp)(arms:List (ArmH×Exp))(con:Str)(J d i j:Nat)(s:St):Prop:=∃vars:List Str,vars.length=j/\(∀v∈vars,v∈Zbz)/\
 s=⟨[(0,.sc (.ptr 0 0)),(1,Bt ds),(2,A1 N),(3,intV (d+1)),(8,.sc (.ptr 64 0)),(11,.sc (.ptr 3008 0)),(12,.sc (.ptr 3776 0)),(13,intV i),(14,.sc (.ptr 4736 0)),(15,intV j)],
  [(0,some (AC L J)),(64,some zbox),(3008,some (.box (wc (Ba dd)))),(3648,some (.arr 11 [wc x.row] 0)),
    (3776,some (.box [.c (.int .i64 8),zi,zs,zi,.arr 3648 1,.arr 3846 i,zi,zs,zi,zi,.nil])),(3846,some (.arr 14 (wr (Exp.armRows arms)) 0)),
    (4736,some (.box [zi,.c (.str con),.arr 4803 j,zi,zi,zs,zi,.nil,.nil,zi,zs,zi,zi,.nil])),(4803,some (.arr 1 (wr (Ao vars)) 0))]⟩
def conC (s:Str):List W:=[.c (.int .i64 2),zi,.c (.str s),zi,.nil,.nil,zi,zs,zi,zi,.nil]
def Zd0 (L:List Int)(ds:List DataD)(N:List Str)(d:Nat)(st:St):Prop:=∃e cells J,good e/\LB e/\F7 ds e N/\e.weight=1/\J<=L.length/\(cells=wc e.row\/∃c,e=Hh c/\cells=conC c)/\
 (st=⟨[(0,.sc (.ptr 0 0)),(1,Bt ds),(2,A1 N),(3,intV d),(8,.sc (.ptr 64 0)),(16,.sc (.ptr 8448 0)),(138,Aa false)],[(0,some (AC L J)),(64,some zbox),(8448,some (.box cells))]⟩\/
   ∃dd:DataD,st=⟨[(0,.sc (.ptr 0 0)),(1,Bt ds),(2,A1 N),(3,intV d),(8,.sc (.ptr 64 0)),(16,.sc (.ptr 8448 0))],[(0,some (AC L J)),(64,some zbox),(8448,some (.box cells)),(9536,some (.box (wc (Ba dd))))]⟩)
def AppT (L:List Int)(ds:List DataD)(N:List Str)(B d n i:Nat)(s:St):Prop:=∃e cells J,good e/\LB e/\F7 ds e N/\e.weight<=1+i*(1+B)/\J<=L.length/\(cells=wc e.row\/∃c,e=Hh c/\cells=conC c)/\
 s=⟨[(0,.sc (.ptr 0 0)),(1,Bt ds),(2,A1 N),(3,intV d),(8,.sc (.ptr 64 0)),(16,.sc (.ptr 8448 0)),(18,intV (n-i:Nat))],
  [(0,some (AC L J)),(64,some zbox),(8448,some (.box cells))]⟩
variable {A:Ab}
def Zds (ds7:List DataD)(n:Nat)(r:V×List Obj):Prop:=∃(ds:List DataD)(ctx:List EntD)(l:List Exp)(p:Nat),(∀d∈ds,d∈ds7)/\G4 ds/\ctx.length<=4/\(∀s∈Ck ctx,nameOk 97 122 s)/\l.length=n/\
 (∀e∈l,good e/\F7 ds e (Ck ctx)/\e.weight<=32768)/\(p=0\/p=ctx.length)/\r=(.tu [Bt ds,.sc (.arr 0 ctx.length),.sc (.arr 1 n)],[.arr 7 (wr (CI ctx)) p,.arr 11 (wr (Exp.rows l)) 0])
theorem uniq.sub {ds ds7:List DataD}(h:uniq ds7)(hs:∀d∈ds,d∈ds7):uniq ds:=fun d hd d' hd' c hc hc'=>h d (hs d hd) d' (hs d' hd') c hc hc'
theorem good.tyBd {e:Exp}:good e->tyBd e:=by
 induction e using Exp.ind with
 |h e ih=>
  intro g;rw[D8];refine⟨?_,fun x hx=>ih x hx (g.child hx)⟩;rw[g.one.2.2.1];decide
variable {A:Ab}
theorem PV {e x:Exp}{i:Nat}(h:e.kids[i]?=some x):e.children[i]?=some x:=by
 rw[Exp.children,qK (qf.1 h).1];exact h
theorem D3 {e:Exp}{p:ArmH×Exp}{i:Nat}(h:e.arms[i]?=some p):e.children[e.kids.length+i]?=some p.2:=by
 rw[Exp.children,qH (by omega),Nat.add_sub_cancel_left,qq,h];rfl
theorem Zbs {e x:Exp}{i:Nat}(h:e.children[i]?=some x):e.kids[i]?=some x\/∃j p,i=e.kids.length+j/\e.arms[j]?=some p/\p.2=x:=by
 rcases qbf i e.kids.length with hi|hi
 .left
  rwa[Exp.children,qK hi]at h
 .right
  rw[Exp.children,qH hi,qq]at h;obtain⟨p,hp,hx⟩:=qo.1 h;exact⟨i-e.kids.length,p,by omega,hp,hx⟩
def TC (a:Exp)(l:List (Exp->Prop))(b:Exp):Prop:=a.kind=b.kind/\a.name=b.name/\a.num=b.num/\a.ty=b.ty/\a.kids.length=b.kids.length/\a.arms.length=b.arms.length/\
 (∀(i:Nat) p q,a.arms[i]?=some p->b.arms[i]?=some q->p.1.con=q.1.con/\p.1.vars=q.1.vars)/\∀(i:Nat) f y,l[i]?=some f->b.children[i]?=some y->f y
def sameP (a:Exp):Exp->Prop:=a.fold TC
theorem DK (a b:Exp):sameP a b=(a.kind=b.kind/\a.name=b.name/\a.num=b.num/\a.ty=b.ty/\a.kids.length=b.kids.length/\a.arms.length=b.arms.length/\
 (∀(i:Nat) p q,a.arms[i]?=some p->b.arms[i]?=some q->p.1.con=q.1.con/\p.1.vars=q.1.vars)/\∀(i:Nat) x y,a.children[i]?=some x->b.children[i]?=some y->sameP x y):=by
 unfold sameP;rw[Exp.fold_eq];unfold TC;simp only[qq,qo];apply propext;refine and_congr_right fun _=>and_congr_right fun _=>and_congr_right fun _=>and_congr_right fun _=>and_congr_right fun _=>and_congr_right fun _=>and_congr_right fun _=>forall_congr' fun i=>?_;constructor
 .exact fun h x y hx hy=>h _ y ⟨x,hx,rfl⟩ hy
 .rintro h f y ⟨x,hx,rfl⟩ hy
  exact h x y hx hy
theorem HQ (a:Exp):sameP a a:=by
 induction a using Exp.ind with
 |h a ih=>
  rw[DK];refine⟨rfl,rfl,rfl,rfl,rfl,rfl,fun i p q hp hq=>?_,fun i x y hx hy=>?_⟩
  .rw [hp] at hq
   cases hq;exact⟨rfl,rfl⟩
  .rw [hx] at hy
   cases hy;exact ih x (qd hx)
abbrev armV (p:ArmH×Exp):V:=.ag (wc (AM p))
abbrev Rc (l:List (ArmH×Exp)):V:=.sc (.c (.sl (Exp.armRows l)))
def allR {α:Type}(R:α->α->Prop)(l m:List α):Prop:=l.length=m.length/\∀(i:Nat) x y,l[i]?=some x->m[i]?=some y->R x y
def Zd2 (p q:ArmH×Exp):Prop:=p.1.con=q.1.con/\p.1.vars=q.1.vars/\sameP p.2 q.2
end Go.Vs.Tryz
namespace Go.Vs
open Go
def H1 (k s:Nat)(zs rows:List (List W)):Upd:=bif zs.isEmpty then [] else [(k,some (.arr s (zs++rows.drop zs.length) 0))]
def Nc (k n s:Nat)(ys:Option (List (List W)))(o:Option Obj):Option (V×Upd):=match ys,o with
 |some ys,some (.arr s' rows p)=>bif AP s ys&&(rows.length==n&&s'==s&&p==0) then some (.sc (.c (.int .i64 (ys.take n).length)),H1 k s (ys.take n) rows) else none
 |_,_=>none
@[simp] theorem copyK_some {k n s s' p:Nat} {ys rows:List (List W)}:Nc k n s (some ys) (some (.arr s' rows p))=bif AP s ys&&(rows.length==n&&s'==s&&p==0) then some (.sc (.c (.int .i64 (ys.take n).length)),H1 k s (ys.take n) rows) else none:=rfl
@[simp] theorem copy1_arr {L:Nat->Option Obj} {k n s:Nat} {y:V}:FA L s (.sc (.arr k n)) y=Nc k n s (Bd L y) (L k):=by
 unfold FA Nc;cases Bd L y with
 |none=>rfl
 |some ys=>
  dsimp only;unfold AP H1;cases hL:L k with
  |none=>dsimp only;cases ys.all fun r=>r.length==s&&r.all Am<;>rfl
  |some o=>cases o with
   |box _=>dsimp only;cases ys.all fun r=>r.length==s&&r.all Am<;>rfl
   |arr s' rows p=>dsimp only;cases ys.all fun r=>r.length==s&&r.all Am<;>rfl
theorem TK {α:Type}{k:Nat}{a:α}:∀{l:List (Nat×α)},get? l k=some a->put l k a=l
 |[],h=>by cases h
 |(j,b)::r,h=>by
  simp only[get?]at h;simp only[put];cases hj:(j==k)with
  |true=>rw[hj]at h;simp only[cond_true,qc]at h |-;rw[h]
  |false=>rw[hj]at h;simp only[cond_false]at h |-;rw[TK h]
theorem ZQ {O:Objs}{k s:Nat}{zs rows:List (List W)}(h:get? O k=some (some (.arr s rows 0))):Cm O (H1 k s zs rows)=put O k (some (.arr s (zs++rows.drop zs.length) 0)):=by
 unfold H1;cases zs with
 |nil=>
  simp only[List.isEmpty_nil,cond_true,putAll_nil,qae,qR,List.drop_zero];exact(TK h).symm
 |cons a r=>rfl
end Go.Vs
namespace Go.Vs.Tryz
open Go Go.Vs
variable {A:Ab}
theorem Gg (e:Exp)(cs:List Exp)(h:cs.length=e.kids.length+e.arms.length)(hl:e.weight<=687194767360):(K A).call 102 [expV e,exsV cs] []=
 some (.ag [.c (.int .i64 e.kind),.c (.int .i64 e.pos),.c (.str e.name),.c (.int .i64 e.num),.arr 0 e.kids.length,.arr 1 e.arms.length,.c (.int .i64 e.ty.kind),.c (.str e.ty.name),.c (.int .i64 e.ty.id),.c (.int .i64 e.ty.home),.c (.sl (Ty.rows e.ty.args))],
  [.arr 11 (wr (Exp.rows (cs.take e.kids.length))) 0,.arr 14 (wr (Exp.armRows (AV e.arms (cs.drop e.kids.length)))) 0]):=by
 refine fnO v102 ?_;have hle:=e.children_le;rw[e.children_len]at hle;have hrow:wc e.row=[.c (.int .i64 e.kind),.c (.int .i64 e.pos),.c (.str e.name),.c (.int .i64 e.num),.c (.sl (Exp.rows e.kids)),.c (.sl (Exp.armRows e.arms)),.c (.int .i64 e.ty.kind),.c (.str e.ty.name),.c (.int .i64 e.ty.id),.c (.int .i64 e.ty.home),.c (.sl (Ty.rows e.ty.args))]:=by rw[Exp.row_eq];rfl
 have hzl:(AV e.arms (cs.drop e.kids.length)).length=e.arms.length:=by rw[armsW_len,qaa];omega
 have htk:(wr (Exp.rows cs)).take e.kids.length=wr (Exp.rows (cs.take e.kids.length)):=by simp[Exp.rows_map,wr,qaO]
 have hcl:(cs.take e.kids.length).length=e.kids.length:=by rw[qY];omega
 have hta:(wr (Exp.armRows e.arms)).take e.arms.length=wr (Exp.armRows e.arms):=qn (by simp);unfold v102;simp(maxSteps:=9^7) (disch:=try exact zd) [h,hrow,htk,hta,hcl,ZQ,-getElem?_pos];refine Aq (fun i=>⟨[(1,exsV cs),(2,.sc (.ptr 64 0)),(4,.sc (.ptr 128 0)),(5,intV e.kids.length),(6,.sc (.arr 1152 e.kids.length)),(7,.sc (.arr 1408 e.arms.length)),(35,intV e.arms.length),(36,intV i)],
  [(64,some (.box [.c (.int .i64 e.kind),.c (.int .i64 e.pos),.c (.str e.name),.c (.int .i64 e.num),.c (.sl (Exp.rows e.kids)),.c (.sl (Exp.armRows e.arms)),.c (.int .i64 e.ty.kind),.c (.str e.ty.name),.c (.int .i64 e.ty.id),.c (.int .i64 e.ty.home),.c (.sl (Ty.rows e.ty.args))])),
    (128,some BL),(1152,some (.arr 11 (wr (Exp.rows (cs.take e.kids.length))) 0)),(1408,some (.arr 14 (wr (Exp.armRows ((AV e.arms (cs.drop e.kids.length)).take i++e.arms.drop i))) 0))]⟩) e.arms.length ?_ ?_ ?_
 .simp
 .intro i hi
  obtain⟨a,ha⟩:=Ag hi;obtain⟨c,hc⟩:=Ag (l:=cs) (i:=e.kids.length+i) (by omega);have hz:(AV e.arms (cs.drop e.kids.length))[i]?=some (a.1,c):=by
   unfold AV;rw[qaT,ha,qac,hc]
  have hg:=EP hzl hi;rw[ha]at hg;have hs:=EJ hzl hz;have hln:=EN (i:=i) hzl;rw[<-hs];generalize (AV e.arms (cs.drop e.kids.length)).take i++e.arms.drop i=zz at hg hln |-;have hset:=Kk zz i (a.1,c);have hsp:=WI a c;have hnb:AE (intV ((e.kids.length:Int)+i)) cs.length=some (e.kids.length+i):=natBelow_cast (k:=.i64) (n:=e.kids.length+i) (by omega);unfold LO
  simp(maxSteps:=9^7) (disch:=try exact zd) [hi,hg,hln,hc,hnb,hsp,hset,BY,-getElem?_pos]
 .have ht:(AV e.arms (cs.drop e.kids.length)).take e.arms.length++e.arms.drop e.arms.length=AV e.arms (cs.drop e.kids.length):=by
   rw[qbg,qJ,qn (by omega)]
  rw[ht];unfold LO;simp(maxSteps:=9^7) (disch:=try exact zd) [hzl,-getElem?_pos]
def NE (l:List (ArmH×Exp)):List (ArmH×Exp):=l.map fun a=>(⟨a.1.pos,a.1.con,List.replicate a.1.vars.length []⟩,a.2)
@[simp] theorem armsB_len (l:List (ArmH×Exp)):(NE l).length=l.length:=by simp[NE]
def Zek (e:Exp)(cs:List Exp):Exp:=.mk e.kind e.pos (if e.kind=2 then e.name else []) e.num (cs.take e.kids.length) (NE (AV e.arms (cs.drop e.kids.length))) e.ty
end Go.Vs.Tryz
