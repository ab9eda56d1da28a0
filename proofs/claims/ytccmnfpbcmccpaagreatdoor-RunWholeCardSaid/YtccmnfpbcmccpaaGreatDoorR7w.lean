/- Comparing by the program: the closure compare, walked. -/
import Derived.Test.YtccmnfpbcmccpaaGreatDoorR6w
import Derived.Test.YtccmnfpbcmccpaaGreatDoorX0w
set_option linter.all false
set_option maxHeartbeats 4000000
set_option maxRecDepth 10000
namespace Go.Vs.Tryz
open Go Go.Vs
variable {A:Ag}
@[simp] theorem calleeOf_c1 {f:FuncId} {w:W}:DC (.sc (.clo f [true] [[w]]))=some (f,[(true,.sc w)]):=rfl
@[simp] theorem calleeOf_c2 {f:FuncId} {w0 w1:W}:DC (.sc (.clo f [true,true] [[w0],[w1]]))=some (f,[(true,.sc w0),(true,.sc w1)]):=rfl
@[simp] theorem calleeOf_c3 {f:FuncId} {w0 w1 w2:W}:DC (.sc (.clo f [true,true,true] [[w0],[w1],[w2]]))=some (f,[(true,.sc w0),(true,.sc w1),(true,.sc w2)]):=rfl
variable {A:Ag}
def ET (ds:List DataD):Prop:=∀d∈ds,∀c∈d.cons,nameOk 65 90 c.name
def ZiU (L:List Int)(ds:List DataD)(N:List Str)(B:Nat)(r:V×List Obj):Prop:=∃e J,good e/\Gk ds e N/\e.weight<=B/\J<=L.length/\r=(expV e,[Ao L J])
def Ik (lo hi:Nat)(s:Str):Bool:=decide (s.length<=12)&&(match s with
 |[]=>false
 |c::_=>decide (lo<=c.toNat)&&decide (c.toNat<=hi))&&s.all It&&keyWords.all fun k=>decide (s≠k)
theorem LX {lo hi:Nat}{s:Str}(h:Ik lo hi s=true):nameOk lo hi s:=by
 unfold Ik at h;simp only[qe,decide_eq_true_eq,qE]at h;obtain⟨⟨⟨h1,h2⟩,h3⟩,h4⟩:=h;refine⟨h1,?_,h3,fun hk=>h4 s hk rfl⟩;cases s with
 |nil=>cases h2
 |cons c r=>
  simp only[qe,decide_eq_true_eq]at h2;exact⟨c,rfl,h2.1,h2.2⟩
def conB (s:Str)(n:Nat):Bool:=(decide (s=[45,62])&&decide (n=2))||(decide (s=[73,110,116])&&decide (n=0))||(decide (s≠[45,62])&&decide (s≠[73,110,116])&&Ik 65 90 s&&decide (n<=4))
theorem U5 {s:Str}{n:Nat}(h:conB s n=true):C1 s n:=by
 unfold conB at h;simp only[qaw,qe,decide_eq_true_eq]at h;rcases h with (⟨h1,h2⟩|⟨h1,h2⟩)|⟨⟨⟨h1,h2⟩,h3⟩,h4⟩
 .exact .inl ⟨h1,h2⟩
 .exact .inr (.inl ⟨h1,h2⟩)
 .exact .inr (.inr ⟨h1,h2,LX h3,h4⟩)
def KD:Nat->Ty->Bool
 |0,_=>false
 |n+1,t=>((decide (t.kind=4)&&decide (t.id=0)&&decide (t.home=0)&&conB t.name t.args.length)||(decide (t.kind=5)&&decide (t.id=0)&&decide (t.home=0)&&t.args.isEmpty&&Ik 97 122 t.name))&&t.args.all (KD n)
theorem Q9:∀(n:Nat)(t:Ty),KD n t=true->tyS 0 t
 |0,_,h=>by cases h
 |n+1,t,h=>by
  unfold KD at h;simp only[qe,qaw,decide_eq_true_eq,qE,qa3]at h;obtain⟨h1,h2⟩:=h;refine GQ.2 ⟨?_,fun x hx=>Q9 n x (h2 x hx)⟩;rcases h1 with ⟨⟨⟨k,i⟩,ho⟩,hc⟩|⟨⟨⟨⟨k,i⟩,ho⟩,ha⟩,hn⟩
  .exact⟨fun q=>by omega,fun q=>by omega,fun q=>by omega,fun q=>by omega,fun _=>⟨i,ho,U5 hc⟩,fun q=>by omega,oz,oz⟩
  .exact⟨fun q=>by omega,fun q=>by omega,fun q=>by omega,fun q=>by omega,fun q=>by omega,fun _=>⟨i,ho,ha,LX hn⟩,oz,oz⟩
def datB (d:DataD):Bool:=(d.cons.all fun c=>(c.fields.all fun f=>KD 9 f&&decide (f.size<=20))&&decide (c.fields.length<=2)&&Ik 65 90 c.name)&&conB d.name d.params.length&&decide (d.cons.length<=2)
theorem dat7:ds7.all datB=true:=by kernel_rfl
theorem Zh1 {d:DataD}(h:datB d=true):(∀c∈d.cons,(∀f∈c.fields,tyS 0 f/\f.size<=20)/\c.fields.length<=2/\nameOk 65 90 c.name)/\C1 d.name d.params.length/\d.cons.length<=2:=by
 unfold datB at h;simp only[qe,decide_eq_true_eq,qE]at h;obtain⟨⟨h1,h2⟩,h3⟩:=h;exact⟨fun c hc=>⟨fun f hf=>⟨Q9 9 f ((h1 c hc).1.1 f hf).1,((h1 c hc).1.1 f hf).2⟩,(h1 c hc).1.2,LX (h1 c hc).2⟩,U5 h2,h3⟩
theorem at7 {d:DataD}(hd:d∈ds7):(∀c∈d.cons,(∀f∈c.fields,tyS 0 f/\f.size<=20)/\c.fields.length<=2/\nameOk 65 90 c.name)/\C1 d.name d.params.length/\d.cons.length<=2:=Zh1 (qE.1 dat7 d hd)
theorem fit7:∀d∈ds7,fitD d:=fun d hd=>⟨ZP d hd,fun c hc=>((at7 hd).1 c hc).1,(at7 hd).2.1,fun c hc=>((at7 hd).1 c hc).2.1⟩
theorem con7:ET ds7:=fun d hd c hc=>((at7 hd).1 c hc).2.2
variable {A:Ag}
def HZ (p:Str×Str):List Cell:=[.str p.1,.str p.2]
def Ec (l:List (Str×Str)):CC1:=l.map HZ
@[simp] theorem pairRow_len (p:Str×Str):(HZ p).length=2:=rfl
@[simp] theorem pairRows_len (l:List (Str×Str)):(Ec l).length=l.length:=by simp[Ec]
@[simp] theorem pairRows_get (l:List (Str×Str)) (i:Nat):(Ec l)[i]?=(l[i]?).map HZ:=by simp[Ec]
@[simp] theorem okRows_pair (l:List (Str×Str)):AZ 2 (wr (Ec l))=true:=Dc l pairRow_len
@[simp] theorem pairRows_snoc (l:List (Str×Str)) (x:Str×Str):wr (Ec l)++[[W.c (.str x.1),W.c (.str x.2)]]=wr (Ec (l++[x])):=by simp[Ec,wr,HZ]
@[simp] theorem fit_pair (l:List (Str×Str)):BK 2 (Ec l)=true:=F8 pairRow_len l
@[simp] theorem wc_pair (p:Str×Str):wc (HZ p)=[.c (.str p.1),.c (.str p.2)]:=rfl
abbrev YH (l:List (Str×Str)):V:=.sc (.c (.sl (Ec l)))
def one3 (x:Int):Prop:=-1<=x/\x<=1
variable {A:Ag}
def Zil (P:Prop)(r:V×List Obj):Prop:=∃n:Int,(n=0↔P)/\one3 n/\r=(intV n,[])
@[simp] theorem b_slss {a b:Str}:binV .lss 0 (.sc (.c (.str a))) (.sc (.c (.str b)))=some (.sc (.c (.bool (Op.bytesLess a b))),[]):=by simp[binV,binW,BI,Fi]
@[simp] theorem b_sgtr {a b:Str}:binV .gtr 0 (.sc (.c (.str a))) (.sc (.c (.str b)))=some (.sc (.c (.bool !(Op.bytesLess a b||a==b))),[]):=by simp[binV,binW,BI,Fi]
theorem good.wf {e:Exp}:good e->e.wf:=by
 induction e using Exp.ind with
 |h e ih=>
  intro g;rw[Exp.wf_eq];refine⟨?_,fun x hx=>ih x hx (g.child hx)⟩;rcases g.cases with ⟨k,_,h,h2⟩|⟨k,_,h,h2⟩|⟨k,_,⟨x,h,_⟩,h2⟩|⟨k,_,⟨f,x,h,_⟩,h2⟩|⟨k,_,⟨x,h,_⟩,_⟩
  all_goals refine⟨fun h8=>?_,fun h8=>?_,fun h1=>?_⟩<;>first | omega | assumption | (rw[h];rfl)
end Go.Vs.Tryz
namespace Go.Vs
open Go
section
variable {C:Ctx}
end
end Go.Vs
namespace Go.Vs.Tryz
open Go Go.Vs
variable {A:Ag}
def ZA:List Str:=[[120],[116],[102],[118]]
abbrev zbox:Obj:=.box [zi,zi,zs,zi,.nil,.nil,zi,zs,zi,zi,.nil]
def ArmT (L:List Int)(ds:List DataD)(N:List Str)(dd:DataD)(x:Exp)(B d i:Nat)(s:St):Prop:=∃arms J,arms.length=i/\J<=L.length/\
 (arms.map fun a=>a.1.con)=(BP dd).take i/\(arms.map fun a=>a.1.vars.length)=(dd.cons.map fun c=>c.fields.length).take i/\
 (∀a∈arms,a.1.pos=0/\a.1.vars.length<=4/\(∀v∈a.1.vars,nameOk 97 122 v)/\good a.2/\Gk ds a.2 (N++a.1.vars)/\a.2.weight<=B)/\
 s=⟨[(0,.sc (.ptr 0 0)),(1,Aw ds),(2,AA N),(3,intV (d+1)),(8,.sc (.ptr 64 0)),(11,.sc (.ptr 3008 0)),(12,.sc (.ptr 3776 0)),(13,intV i)],
  [(0,some (Ao L J)),(64,some zbox),(3008,some (.box (wc (A2 dd)))),(3648,some (.arr 11 [wc x.row] 0)),
    (3776,some (.box [.c (.int .i64 8),zi,zs,zi,.arr 3648 1,.arr 3846 i,zi,zs,zi,zi,.nil])),(3846,some (.arr 14 (wr (Exp.armRows arms)) 0))]⟩
def VarT (L:List Int)(ds:List DataD)(N:List Str)(dd:DataD)(x:Exp)(arms:List (ArmH×Exp))(con:Str)(J d i j:Nat)(s:St):Prop:=∃vars:List Str,vars.length=j/\(∀v∈vars,v∈ZA)/\
 s=⟨[(0,.sc (.ptr 0 0)),(1,Aw ds),(2,AA N),(3,intV (d+1)),(8,.sc (.ptr 64 0)),(11,.sc (.ptr 3008 0)),(12,.sc (.ptr 3776 0)),(13,intV i),(14,.sc (.ptr 4736 0)),(15,intV j)],
  [(0,some (Ao L J)),(64,some zbox),(3008,some (.box (wc (A2 dd)))),(3648,some (.arr 11 [wc x.row] 0)),
    (3776,some (.box [.c (.int .i64 8),zi,zs,zi,.arr 3648 1,.arr 3846 i,zi,zs,zi,zi,.nil])),(3846,some (.arr 14 (wr (Exp.armRows arms)) 0)),
    (4736,some (.box [zi,.c (.str con),.arr 4803 j,zi,zi,zs,zi,.nil,.nil,zi,zs,zi,zi,.nil])),(4803,some (.arr 1 (wr (Ak vars)) 0))]⟩
def conC (s:Str):List W:=[.c (.int .i64 2),zi,.c (.str s),zi,.nil,.nil,zi,zs,zi,zi,.nil]
def ZiQ (L:List Int)(ds:List DataD)(N:List Str)(d:Nat)(st:St):Prop:=∃e cells J,good e/\Mb e/\Gk ds e N/\e.weight=1/\J<=L.length/\(cells=wc e.row\/∃c,e=GI c/\cells=conC c)/\
 (st=⟨[(0,.sc (.ptr 0 0)),(1,Aw ds),(2,AA N),(3,intV d),(8,.sc (.ptr 64 0)),(16,.sc (.ptr 8448 0)),(138,Ac false)],[(0,some (Ao L J)),(64,some zbox),(8448,some (.box cells))]⟩\/
   ∃dd:DataD,st=⟨[(0,.sc (.ptr 0 0)),(1,Aw ds),(2,AA N),(3,intV d),(8,.sc (.ptr 64 0)),(16,.sc (.ptr 8448 0))],[(0,some (Ao L J)),(64,some zbox),(8448,some (.box cells)),(9536,some (.box (wc (A2 dd))))]⟩)
def AppT (L:List Int)(ds:List DataD)(N:List Str)(B d n i:Nat)(s:St):Prop:=∃e cells J,good e/\Mb e/\Gk ds e N/\e.weight<=1+i*(1+B)/\J<=L.length/\(cells=wc e.row\/∃c,e=GI c/\cells=conC c)/\
 s=⟨[(0,.sc (.ptr 0 0)),(1,Aw ds),(2,AA N),(3,intV d),(8,.sc (.ptr 64 0)),(16,.sc (.ptr 8448 0)),(18,intV (n-i:Nat))],
  [(0,some (Ao L J)),(64,some zbox),(8448,some (.box cells))]⟩
variable {A:Ag}
def ZiE (ds7:List DataD)(n:Nat)(r:V×List Obj):Prop:=∃(ds:List DataD)(ctx:List EntD)(l:List Exp)(p:Nat),(∀d∈ds,d∈ds7)/\Gx ds/\ctx.length<=4/\(∀s∈Bl ctx,nameOk 97 122 s)/\l.length=n/\
 (∀e∈l,good e/\Gk ds e (Bl ctx)/\e.weight<=32768)/\(p=0\/p=ctx.length)/\r=(.tu [Aw ds,.sc (.arr 0 ctx.length),.sc (.arr 1 n)],[.arr 7 (wr (BZ ctx)) p,.arr 11 (wr (Exp.rows l)) 0])
theorem uniq.sub {ds ds7:List DataD}(h:uniq ds7)(hs:∀d∈ds,d∈ds7):uniq ds:=fun d hd d' hd' c hc hc'=>h d (hs d hd) d' (hs d' hd') c hc hc'
theorem good.tyBd {e:Exp}:good e->tyBd e:=by
 induction e using Exp.ind with
 |h e ih=>
  intro g;rw[Ez];refine⟨?_,fun x hx=>ih x hx (g.child hx)⟩;rw[g.one.2.2.1];decide
variable {A:Ag}
theorem Qn {e x:Exp}{i:Nat}(h:e.kids[i]?=some x):e.children[i]?=some x:=by
 rw[Exp.children,qF (qf.1 h).1];exact h
theorem Ei {e:Exp}{p:ArmH×Exp}{i:Nat}(h:e.arms[i]?=some p):e.children[e.kids.length+i]?=some p.2:=by
 rw[Exp.children,qN oz,Nat.add_sub_cancel_left,qk,h];rfl
theorem Zg8 {e x:Exp}{i:Nat}(h:e.children[i]?=some x):e.kids[i]?=some x\/∃j p,i=e.kids.length+j/\e.arms[j]?=some p/\p.2=x:=by
 rcases qbo i e.kids.length with hi|hi
 .left
  rwa[Exp.children,qF hi]at h
 .right
  rw[Exp.children,qN hi,qk]at h;obtain⟨p,hp,hx⟩:=qu.1 h;exact⟨i-e.kids.length,p,oz,hp,hx⟩
def UB (a:Exp)(l:List (Exp->Prop))(b:Exp):Prop:=a.kind=b.kind/\a.name=b.name/\a.num=b.num/\a.ty=b.ty/\a.kids.length=b.kids.length/\a.arms.length=b.arms.length/\
 (∀(i:Nat) p q,a.arms[i]?=some p->b.arms[i]?=some q->p.1.con=q.1.con/\p.1.vars=q.1.vars)/\∀(i:Nat) f y,l[i]?=some f->b.children[i]?=some y->f y
def sameP (a:Exp):Exp->Prop:=a.fold UB
theorem DO (a b:Exp):sameP a b=(a.kind=b.kind/\a.name=b.name/\a.num=b.num/\a.ty=b.ty/\a.kids.length=b.kids.length/\a.arms.length=b.arms.length/\
 (∀(i:Nat) p q,a.arms[i]?=some p->b.arms[i]?=some q->p.1.con=q.1.con/\p.1.vars=q.1.vars)/\∀(i:Nat) x y,a.children[i]?=some x->b.children[i]?=some y->sameP x y):=by
 unfold sameP;rw[Exp.fold_eq];unfold UB;simp only[qk,qu];apply propext;refine and_congr_right fun _=>and_congr_right fun _=>and_congr_right fun _=>and_congr_right fun _=>and_congr_right fun _=>and_congr_right fun _=>and_congr_right fun _=>forall_congr' fun i=>?_;constructor
 .exact fun h x y hx hy=>h _ y ⟨x,hx,rfl⟩ hy
 .rintro h f y ⟨x,hx,rfl⟩ hy
  exact h x y hx hy
theorem B0 (a:Exp):sameP a a:=by
 induction a using Exp.ind with
 |h a ih=>
  rw[DO];refine⟨rfl,rfl,rfl,rfl,rfl,rfl,fun i p q hp hq=>?_,fun i x y hx hy=>?_⟩
  .rw [hp] at hq
   cases hq;exact⟨rfl,rfl⟩
  .rw [hx] at hy
   cases hy;exact ih x (qc hx)
abbrev armV (p:ArmH×Exp):V:=.ag (wc (Ax p))
abbrev SY (l:List (ArmH×Exp)):V:=.sc (.c (.sl (Exp.armRows l)))
def allR {α:Type}(R:α->α->Prop)(l m:List α):Prop:=l.length=m.length/\∀(i:Nat) x y,l[i]?=some x->m[i]?=some y->R x y
def Zip (p q:ArmH×Exp):Prop:=p.1.con=q.1.con/\p.1.vars=q.1.vars/\sameP p.2 q.2
end Go.Vs.Tryz
namespace Go.Vs
open Go
def Ip (k s:Nat)(zs rows:WW1):Upd:=bif zs.isEmpty then [] else [(k,some (.arr s (zs++rows.drop zs.length) 0))]
def OC (k n s:Nat)(ys:Option (WW1))(o:Option Obj):Option (V×Upd):=match ys,o with
 |some ys,some (.arr s' rows p)=>bif AZ s ys&&(rows.length==n&&s'==s&&p==0) then some (.sc (.c (.int .i64 (ys.take n).length)),Ip k s (ys.take n) rows) else none
 |_,_=>none
@[simp] theorem copyK_some {k n s s' p:Nat} {ys rows:WW1}:OC k n s (some ys) (some (.arr s' rows p))=bif AZ s ys&&(rows.length==n&&s'==s&&p==0) then some (.sc (.c (.int .i64 (ys.take n).length)),Ip k s (ys.take n) rows) else none:=rfl
@[simp] theorem copy1_arr {L:LO1} {k n s:Nat} {y:V}:FQ L s (.sc (.arr k n)) y=OC k n s (Bh L y) (L k):=by
 unfold FQ OC;cases Bh L y with
 |none=>rfl
 |some ys=>
  dsimp only;unfold AZ Ip;cases hL:L k with
  |none=>dsimp only;cases ys.all fun r=>r.length==s&&r.all Ap<;>rfl
  |some o=>cases o with
   |box _=>dsimp only;cases ys.all fun r=>r.length==s&&r.all Ap<;>rfl
   |arr s' rows p=>dsimp only;cases ys.all fun r=>r.length==s&&r.all Ap<;>rfl
theorem R2 {α:Type}{k:Nat}{a:α}:∀{l:List (Nat×α)},get? l k=some a->put l k a=l
 |[],h=>by cases h
 |(j,b)::r,h=>by
  simp only[get?]at h;simp only[put];cases hj:(j==k)with
  |true=>rw[hj]at h;simp only[cond_true,qd]at h |-;rw[h]
  |false=>rw[hj]at h;simp only[cond_false]at h |-;rw[R2 h]
theorem Xu {O:Objs}{k s:Nat}{zs rows:WW1}(h:get? O k=some (some (.arr s rows 0))):CL O (Ip k s zs rows)=put O k (some (.arr s (zs++rows.drop zs.length) 0)):=by
 unfold Ip;cases zs with
 |nil=>
  simp only[List.isEmpty_nil,cond_true,putAll_nil,qad,qZ,qbm];exact(R2 h).symm
 |cons a r=>rfl
end Go.Vs
namespace Go.Vs.Tryz
open Go Go.Vs
variable {A:Ag}
theorem Gn (e:Exp)(cs:List Exp)(h:cs.length=e.kids.length+e.arms.length)(hl:e.weight<=687194767360):(K A).call 102 [expV e,exsV cs] []=
 some (.ag [.c (.int .i64 e.kind),.c (.int .i64 e.pos),.c (.str e.name),.c (.int .i64 e.num),.arr 0 e.kids.length,.arr 1 e.arms.length,.c (.int .i64 e.ty.kind),.c (.str e.ty.name),.c (.int .i64 e.ty.id),.c (.int .i64 e.ty.home),.c (.sl (Ty.rows e.ty.args))],
  [.arr 11 (wr (Exp.rows (cs.take e.kids.length))) 0,.arr 14 (wr (Exp.armRows (Av e.arms (cs.drop e.kids.length)))) 0]):=by
 refine fnO v102 ?_;have hle:=e.children_le;rw[e.children_len]at hle;have hrow:wc e.row=[.c (.int .i64 e.kind),.c (.int .i64 e.pos),.c (.str e.name),.c (.int .i64 e.num),.c (.sl (Exp.rows e.kids)),.c (.sl (Exp.armRows e.arms)),.c (.int .i64 e.ty.kind),.c (.str e.ty.name),.c (.int .i64 e.ty.id),.c (.int .i64 e.ty.home),.c (.sl (Ty.rows e.ty.args))]:=by rw[Exp.row_eq];rfl
 have hzl:(Av e.arms (cs.drop e.kids.length)).length=e.arms.length:=by rw[armsW_len,qab];omega
 have htk:(wr (Exp.rows cs)).take e.kids.length=wr (Exp.rows (cs.take e.kids.length)):=by simp[Exp.rows_map,wr,qaC]
 have hcl:(cs.take e.kids.length).length=e.kids.length:=by rw[qR];omega
 have hta:(wr (Exp.armRows e.arms)).take e.arms.length=wr (Exp.armRows e.arms):=qh sy;unfold v102;simp(maxSteps:=9^7) (disch:=try exact zd) [h,hrow,htk,hta,hcl,Xu,-getElem?_pos];refine Am (fun i=>⟨[(1,exsV cs),(2,.sc (.ptr 64 0)),(4,.sc (.ptr 128 0)),(5,intV e.kids.length),(6,.sc (.arr 1152 e.kids.length)),(7,.sc (.arr 1408 e.arms.length)),(35,intV e.arms.length),(36,intV i)],
  [(64,some (.box [.c (.int .i64 e.kind),.c (.int .i64 e.pos),.c (.str e.name),.c (.int .i64 e.num),.c (.sl (Exp.rows e.kids)),.c (.sl (Exp.armRows e.arms)),.c (.int .i64 e.ty.kind),.c (.str e.ty.name),.c (.int .i64 e.ty.id),.c (.int .i64 e.ty.home),.c (.sl (Ty.rows e.ty.args))])),
    (128,some B4),(1152,some (.arr 11 (wr (Exp.rows (cs.take e.kids.length))) 0)),(1408,some (.arr 14 (wr (Exp.armRows ((Av e.arms (cs.drop e.kids.length)).take i++e.arms.drop i))) 0))]⟩) e.arms.length ?_ ?_ ?_
 .simp
 .intro i hi
  obtain⟨a,ha⟩:=Ab hi;obtain⟨c,hc⟩:=Ab (l:=cs) (i:=e.kids.length+i) oz;have hz:(Av e.arms (cs.drop e.kids.length))[i]?=some (a.1,c):=by
   unfold Av;rw[qaq,ha,qah,hc]
  have hg:=CR hzl hi;rw[ha]at hg;have hs:=CN hzl hz;have hln:=CV (i:=i) hzl;rw[<-hs];generalize (Av e.arms (cs.drop e.kids.length)).take i++e.arms.drop i=zz at hg hln |-;have hset:=Ft zz i (a.1,c);have hsp:=MY a c;have hnb:AH (intV ((e.kids.length:Int)+i)) cs.length=some (e.kids.length+i):=natBelow_cast (k:=.i64) (n:=e.kids.length+i) oz;unfold NO
  simp(maxSteps:=9^7) (disch:=try exact zd) [hi,hg,hln,hc,hnb,hsp,hset,Bz,-getElem?_pos]
 .have ht:(Av e.arms (cs.drop e.kids.length)).take e.arms.length++e.arms.drop e.arms.length=Av e.arms (cs.drop e.kids.length):=by
   rw[qax,qK,qh oz]
  rw[ht];unfold NO;simp(maxSteps:=9^7) (disch:=try exact zd) [hzl,-getElem?_pos]
def PD (l:List (ArmH×Exp)):List (ArmH×Exp):=l.map fun a=>(⟨a.1.pos,a.1.con,List.replicate a.1.vars.length []⟩,a.2)
@[simp] theorem armsB_len (l:List (ArmH×Exp)):(PD l).length=l.length:=by simp[PD]
def Ziz (e:Exp)(cs:List Exp):Exp:=.mk e.kind e.pos (if e.kind=2 then e.name else []) e.num (cs.take e.kids.length) (PD (Av e.arms (cs.drop e.kids.length))) e.ty
end Go.Vs.Tryz
