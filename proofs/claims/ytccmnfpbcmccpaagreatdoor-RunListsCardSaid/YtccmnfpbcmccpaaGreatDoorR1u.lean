/- Equal up to the names that are bound, by the reference, walked. -/
import Derived.Test.YtccmnfpbcmccpaaGreatDoorR0u
set_option linter.unusedSimpArgs false
set_option linter.unusedVariables false
set_option linter.deprecated false
namespace Go.Vs.Tryz
open Go Go.Vs
variable {A:Ab}
def tyBd (e:Exp):Prop:=e.fold fun e l=>e.ty.size<=687194767360/\∀p∈l,p
theorem D8 (e:Exp):tyBd e=(e.ty.size<=687194767360/\∀x∈e.children,tyBd x):=by
 have:=Exp.fold_eq (fun e (l:List Prop)=>e.ty.size<=687194767360/\∀p∈l,p) e;unfold tyBd;rw[this];simp only[qN]
theorem tyBd.one {e:Exp}(h:tyBd e):e.ty.size<=687194767360:=by rw[D8]at h;exact h.1
theorem tyBd.child {e x:Exp}(h:tyBd e)(hx:x∈e.children):tyBd x:=by rw[D8]at h;exact h.2 x hx
def M5 (e:Exp)(l:List (Exp×List Exp)):Exp×List Exp:=
 if e.kind=5 then match e.kids,l with
  |[_,x],r::_=>(r.1,r.2++[x])
  |_,_=>(e,[])
 else (e,[])
def spine (e:Exp):Exp×List Exp:=e.fold M5
theorem Ez {e f x:Exp}(h:e.kind=5)(hk:e.kids=[f,x]):spine e=((spine f).1,(spine f).2++[x]):=by
 unfold spine;rw[Exp.fold_eq];simp[M5,h,hk,Exp.children]
theorem DN {e:Exp}(h:e.kind≠5):spine e=(e,[]):=by
 unfold spine;rw[Exp.fold_eq];simp[M5,h]
def Po (e:Exp):Nat:=e.fold fun e l=>if e.kind=5 then l.sum else if e.kind=8 then 1+(l.drop 1).sum else 1+l.sum
def J6 (e:Exp):Prop:=e.pos=0/\e.num=0/\e.ty=tz/\
 ((e.kind=1/\nameOk 97 122 e.name/\e.kids=[]/\e.arms=[])\/(e.kind=2/\nameOk 65 90 e.name/\e.kids=[]/\e.arms=[]) \/
   (e.kind=4/\nameOk 97 122 e.name/\(∃x,e.kids=[x])/\e.arms=[])\/
   (e.kind=5/\e.name=[]/\(∃f x,e.kids=[f,x]/\(f.kind=1\/f.kind=2\/f.kind=5))/\e.arms=[])\/
   (e.kind=8/\e.name=[]/\(∃x,e.kids=[x]/\x.kind=1)/\e.arms≠[]/\∀a∈e.arms,a.1.pos=0/\nameOk 65 90 a.1.con/\a.1.vars.length<=4/\∀v∈a.1.vars,nameOk 97 122 v))
def good (e:Exp):Prop:=e.fold fun e l=>J6 e/\∀p∈l,p
theorem OC (e:Exp):good e=(J6 e/\∀x∈e.children,good x):=by
 have:=Exp.fold_eq (fun e (l:List Prop)=>J6 e/\∀p∈l,p) e;unfold good;rw[this];simp only[qN]
theorem good.one {e:Exp}(h:good e):J6 e:=by rw[OC]at h;exact h.1
theorem good.child {e x:Exp}(h:good e)(hx:x∈e.children):good x:=by rw[OC]at h;exact h.2 x hx
theorem good.cases {e:Exp}(h:good e):(e.kind=1/\nameOk 97 122 e.name/\e.kids=[]/\e.arms=[])\/(e.kind=2/\nameOk 65 90 e.name/\e.kids=[]/\e.arms=[])\/
 (e.kind=4/\nameOk 97 122 e.name/\(∃x,e.kids=[x]/\good x)/\e.arms=[])\/
 (e.kind=5/\e.name=[]/\(∃f x,e.kids=[f,x]/\(f.kind=1\/f.kind=2\/f.kind=5)/\good f/\good x)/\e.arms=[])\/
 (e.kind=8/\e.name=[]/\(∃x,e.kids=[x]/\x.kind=1/\good x)/\e.arms≠[]/\∀a∈e.arms,a.1.pos=0/\nameOk 65 90 a.1.con/\a.1.vars.length<=4/\(∀v∈a.1.vars,nameOk 97 122 v)/\good a.2):=by
 obtain⟨_,_,_,h1⟩:=h.one;rcases h1 with h1|h1|⟨a,b,⟨x,hx⟩,c⟩|⟨a,b,⟨f,x,hx,hf⟩,c⟩|⟨a,b,⟨x,hx,hk⟩,c,d⟩
 .exact .inl h1
 .exact .inr (.inl h1)
 .exact .inr (.inr (.inl ⟨a,b,⟨x,hx,h.child (by simp[Exp.children,hx])⟩,c⟩))
 .exact .inr (.inr (.inr (.inl ⟨a,b,⟨f,x,hx,hf,h.child (by simp[Exp.children,hx]),h.child (by simp[Exp.children,hx])⟩,c⟩)))
 .refine .inr (.inr (.inr (.inr ⟨a,b,⟨x,hx,hk,h.child (by simp [Exp.children,hx])⟩,c,fun y hy => ?_⟩)))
  obtain⟨p,q,r,s⟩:=d y hy;exact⟨p,q,r,s,h.child (by simp only[Exp.children,qz,qL];exact .inr ⟨y,hy,rfl⟩)⟩
theorem AO {e x:Exp}(h:x∈e.kids):x∈e.children:=List.mem_append_left _ h
theorem BB {e:Exp}{a:ArmH×Exp}(h:a∈e.arms):a.2∈e.children:=List.mem_append_right _ (qat h)
variable {A:Ab}
abbrev CA (l:List Exp):V:=.sc (.c (.sl (Exp.rows l)))
theorem US (l:List Exp)(h:l.length<=687194767360):(K A).call 80 [.sc (.arr 0 l.length)] [.arr 11 (wr (Exp.rows l)) 0]=some (.tu [],[.arr 11 (wr (Exp.rows l.reverse)) 0]):=by
 obtain⟨_,rfl,h2⟩:=YF (A:=A) l h;rw[Wh]at h2;exact h2
def Zd5 (e:Exp)(i:Nat)(s:St):Prop:=∃cur acc,good cur/\(cur.kind=1\/cur.kind=2\/cur.kind=5)/\acc.length=i/\spine e=((spine cur).1,(spine cur).2++acc.reverse)/\
 s=⟨[(1,.sc (.ptr 64 0)),(2,.sc (.ptr 128 0)),(4,.sc (.arr 257 i))],[(64,some (.box (wc cur.row))),(128,some (.box [zi,zi,zs,zi,.nil,.nil,zi,zs,zi,zi,.nil])),(257,some (.arr 11 (wr (Exp.rows acc)) 0))]⟩
def Hh (s:Str):Exp:=.mk 2 0 s 0 [] [] tz
def kid0 (e:Exp):Exp:=(e.kids[0]?).getD e
def con0 (e:Exp):Exp:=Hh (((e.arms[0]?).map fun a=>a.1.con).getD [])
def cmpF (rank:List Str->Exp->Int):Nat->List Str->List Str->Exp->Exp->Int
 |0,_,_,_,_=>0
 |n+1,l,m,a,b=>orI [cmpI (Po a) (Po b),cmpI (Q4 a) (Q4 b),
  if a.kind=4 then cmpF rank n (l++[a.name]) (m++[b.name]) (kid0 a) (kid0 b)
  else if a.kind=8 then orI (cmpI (rank l (kid0 a)) (rank m (kid0 b))::cmpI (rank l (con0 a)) (rank m (con0 b)) ::
   (List.zipWith (fun p q=>cmpF rank n (l++p.1.vars) (m++q.1.vars) p.2 q.2) a.arms b.arms++[cmpI a.arms.length b.arms.length]))
  else orI [cmpI (rank l (spine a).1) (rank m (spine b).1),cmpI (spine a).2.length (spine b).2.length,orI (List.zipWith (cmpF rank n l m) (spine a).2 (spine b).2)]]
variable (rk:List Str->Exp->Int)
def cmpR (n:Nat)(l m:List Str)(a b:Exp):Int:=
 if a.kind=4 then cmpF rk n (l++[a.name]) (m++[b.name]) (kid0 a) (kid0 b)
 else if a.kind=8 then orI (cmpI (rk l (kid0 a)) (rk m (kid0 b))::cmpI (rk l (con0 a)) (rk m (con0 b)) ::
  (List.zipWith (fun p q=>cmpF rk n (l++p.1.vars) (m++q.1.vars) p.2 q.2) a.arms b.arms++[cmpI a.arms.length b.arms.length]))
 else orI [cmpI (rk l (spine a).1) (rk m (spine b).1),cmpI (spine a).2.length (spine b).2.length,orI (List.zipWith (cmpF rk n l m) (spine a).2 (spine b).2)]
def Tri (x y z:Int):Prop:=(x=0->y=0->z=0)/\(x<=0->y<=0->(x<0\/y<0)->z<0)
def U6 (ds:List DataD)(e:Exp)(N:List Str):Prop:=(e.kind=1->e.name∈N)/\(e.kind=2->∃d∈ds,e.name∈BE d)/\
 (e.kind=8->∃d∈ds,(e.arms.map fun a=>a.1.con)=BE d/\(e.arms.map fun a=>a.1.vars.length)=d.cons.map fun c=>c.fields.length)
def Wx (ds:List DataD)(e:Exp)(l:List (List Str->Prop))(N:List Str):Prop:=U6 ds e N/\∀(i:Nat) p,l[i]?=some p->p (N++e.bound i)
def F7 (ds:List DataD)(e:Exp):List Str->Prop:=e.fold (Wx ds)
def uniq (ds:List DataD):Prop:=∀d∈ds,∀d'∈ds,∀c,c∈BE d->c∈BE d'->d=d'
theorem Ov {ds:List DataD}{i j:Nat}(h:i<=j):Ed ds i<=Ed ds j:=by
 unfold Ed;have:ds.take i=(ds.take j).take i:=by rw[List.take_take,qbb h]
 rw[this,qaO];exact HM
theorem X4 {ds:List DataD}{i j k k':Nat}{d d':DataD}(hi:ds[i]?=some d)(hj:ds[j]?=some d')(hk:k<d.cons.length)(hk':k'<d'.cons.length)(h:k+Ed ds i=k'+Ed ds j):i=j/\k=k':=by
 have h1:=QS hi;have h2:=QS hj;rcases Nat.lt_trichotomy i j with h3|h3|h3
 .have:=Ov (ds:=ds) (i:=i+1) (j:=j) h3
  omega
 .subst h3
  omega
 .have:=Ov (ds:=ds) (i:=j+1) (j:=i) h3
  omega
theorem SC {ds:List DataD}{S l:List Str}{e:Exp}(h:e.kind=2)(hd:∃d∈ds,e.name∈BE d):∃(i k:Nat)(d:DataD),ds[i]?=some d/\(BE d)[k]?=some e.name/\Fq ds S l e=S.length+l.length+k+Ed ds i:=by
 obtain⟨d0,h0,hc⟩:=hd;have hlt:EF ds e.name<ds.length:=by
  unfold EF;rw[List.findIdx_lt_length];exact⟨d0,h0,by simpa using hc⟩
 obtain⟨d,hd,hm⟩:=Zae hlt;refine⟨EF ds e.name,Be (BE d) e.name,d,hd,HL (GU.2 hm),?_⟩;unfold Fq;rw[if_neg (by omega),if_pos h];have hf:LM ds e.name=(((EF ds e.name:Nat):Int),((Be (BE d) e.name:Nat):Int),true):=by
  unfold LM;rw[hd]
 rw[hf];simp
section
variable {ds:List DataD}{S l m:List Str}{a b:Exp}
theorem V4 (hlm:l.length=m.length)(ha:a.kind=2)(hb:b.kind=2)(da:∃d∈ds,a.name∈BE d)(db:∃d∈ds,b.name∈BE d):Fq ds S l a=Fq ds S m b↔a.name=b.name:=by
 constructor
 .intro h
  obtain⟨i,k,d,h1,h2,h3⟩:=SC (S:=S) (l:=l) ha da;obtain⟨i',k',d',h1',h2',h3'⟩:=SC (S:=S) (l:=m) hb db;rw[h3,h3']at h;have hk:=(qf.1 h2).1;have hk':=(qf.1 h2').1;rw[cnames_len]at hk hk';obtain⟨rfl,rfl⟩:=X4 h1 h1' hk hk' (by omega);rw[h1]at h1';cases h1';rw[h2]at h2';exact qV h2'
 .intro h
  unfold Fq;rw[if_neg (by omega),if_pos ha,if_neg (by omega),if_pos hb,h,hlm]
end
variable {A:Ab}
def Ia (p:Str×Str):List Cell:=[.str p.1,.str p.2]
def Ee (l:List (Str×Str)):List (List Cell):=l.map Ia
@[simp] theorem pairRow_len (p:Str×Str):(Ia p).length=2:=rfl
@[simp] theorem pairRows_len (l:List (Str×Str)):(Ee l).length=l.length:=by simp[Ee]
@[simp] theorem pairRows_get (l:List (Str×Str)) (i:Nat):(Ee l)[i]?=(l[i]?).map Ia:=by simp[Ee]
@[simp] theorem okRows_pair (l:List (Str×Str)):AP 2 (wr (Ee l))=true:=Cu l pairRow_len
@[simp] theorem pairRows_snoc (l:List (Str×Str)) (x:Str×Str):wr (Ee l)++[[W.c (.str x.1),W.c (.str x.2)]]=wr (Ee (l++[x])):=by simp[Ee,wr,Ia]
@[simp] theorem fit_pair (l:List (Str×Str)):BT 2 (Ee l)=true:=JD pairRow_len l
@[simp] theorem wc_pair (p:Str×Str):wc (Ia p)=[.c (.str p.1),.c (.str p.2)]:=rfl
abbrev WM (l:List (Str×Str)):V:=.sc (.c (.sl (Ee l)))
def one3 (x:Int):Prop:=-1<=x/\x<=1
variable {A:Ab}
def Zdp (P:Prop)(r:V×List Obj):Prop:=∃n:Int,(n=0↔P)/\one3 n/\r=(intV n,[])
@[simp] theorem b_slss {a b:Str}:binV .lss 0 (.sc (.c (.str a))) (.sc (.c (.str b)))=some (.sc (.c (.bool (Op.bytesLess a b))),[]):=by simp[binV,binW,Bq,FN]
@[simp] theorem b_sgtr {a b:Str}:binV .gtr 0 (.sc (.c (.str a))) (.sc (.c (.str b)))=some (.sc (.c (.bool !(Op.bytesLess a b||a==b))),[]):=by simp[binV,binW,Bq,FN]
def LB (e:Exp):Prop:=e.kind=1\/e.kind=2\/e.kind=5
theorem good.app {e:Exp}(g:good e)(h:e.kind=5):∃f x,e.kids=[f,x]/\LB f/\good f/\good x/\e.arms=[]:=by
 rcases g.cases with h1|h1|h1|⟨_,_,⟨f,x,h2,h3,h4,h5⟩,h6⟩|h1
 .omega
 .omega
 .omega
 .exact⟨f,x,h2,h3,h4,h5,h6⟩
 .omega
theorem good.lam {e:Exp}(g:good e)(h:e.kind=4):∃x,e.kids=[x]/\good x/\e.arms=[]:=by
 rcases g.cases with h1|h1|⟨_,_,⟨x,h2,h3⟩,h4⟩|h1|h1
 .omega
 .omega
 .exact⟨x,h2,h3,h4⟩
 .omega
 .omega
theorem good.case {e:Exp}(g:good e)(h:e.kind=8):∃x,e.kids=[x]/\x.kind=1/\good x/\e.arms≠[]/\∀a∈e.arms,good a.2:=by
 rcases g.cases with h1|h1|h1|h1|⟨_,_,⟨x,h2,h3,h4⟩,h5,h6⟩
 .omega
 .omega
 .omega
 .omega
 .exact⟨x,h2,h3,h4,h5,fun a ha=>(h6 a ha).2.2.2.2⟩
structure CaseP (ds:List DataD)(N:List Str)(e x:Exp)(d:DataD):Prop where
 kids:e.kids=[x]
 kind:x.kind=1
 good:Go.Vs.Tryz.good x
 sc:F7 ds x N
 ne:e.arms≠[]
 mem:d∈ds
 cons:(e.arms.map fun a=>a.1.con)=BE d
 vars:(e.arms.map fun a=>a.1.vars.length)=d.cons.map fun c=>c.fields.length
 arms:∀(i:Nat) a,e.arms[i]?=some a->Go.Vs.Tryz.good a.2/\F7 ds a.2 (N++a.1.vars)/\a.2.weight<e.weight
theorem CaseP.con0 {ds:List DataD}{N:List Str}{e x:Exp}{d:DataD}(h:CaseP ds N e x d):∃s,(BE d)[0]?=some s/\Go.Vs.Tryz.con0 e=Hh s:=by
 cases ha:e.arms with
 |nil=>exact absurd ha h.ne
 |cons a r=>
  refine⟨a.1.con,?_,?_⟩
  .rw[<-h.cons,ha];rfl
  .unfold Go.Vs.Tryz.con0
   rw[ha];rfl
theorem CaseP.same {ds:List DataD}{S N l m:List Str}{a b x y:Exp}{d d':DataD}(hu:uniq ds)(hlm:l.length=m.length)(ha:CaseP ds (N++l) a x d)(hb:CaseP ds (N++m) b y d'):Fq ds S l (Go.Vs.Tryz.con0 a)=Fq ds S m (Go.Vs.Tryz.con0 b)↔d=d':=by
 obtain⟨s,h1,h2⟩:=ha.con0;obtain⟨t,h3,h4⟩:=hb.con0;have m1:s∈BE d:=qd h1;have m2:t∈BE d':=qd h3;rw[h2,h4,V4 (a:=Hh s) (b:=Hh t) hlm rfl rfl ⟨d,ha.mem,m1⟩ ⟨d',hb.mem,m2⟩];show s=t↔_;constructor
 .rintro rfl
  exact hu d ha.mem d' hb.mem s m1 m2
 .rintro rfl
  rw[h1]at h3;exact qV h3
theorem CaseP.len {ds:List DataD}{N:List Str}{e x:Exp}{d:DataD}(h:CaseP ds N e x d):e.arms.length=d.cons.length:=by
 have:=congrArg List.length h.vars;simpa using this
theorem good.wf {e:Exp}:good e->e.wf:=by
 induction e using Exp.ind with
 |h e ih=>
  intro g;rw[Exp.wf_eq];refine⟨?_,fun x hx=>ih x hx (g.child hx)⟩;rcases g.cases with ⟨k,_,h,h2⟩|⟨k,_,h,h2⟩|⟨k,_,⟨x,h,_⟩,h2⟩|⟨k,_,⟨f,x,h,_⟩,h2⟩|⟨k,_,⟨x,h,_⟩,_⟩
  all_goals refine⟨fun h8=>?_,fun h8=>?_,fun h1=>?_⟩<;>first | omega | assumption | (rw[h];rfl)
variable {A:Ab}
def ZdE (n m:Nat)(r:V×List Obj):Prop:=∃out:List Ty,n<=out.length/\out.length<=m/\(∀x∈out,x.size<=687194767360)/\r=(.sc (.arr 0 out.length),[.arr 5 (wr (Ty.rows out)) 0])
def Zdz (m:Nat)(r:V×List Obj):Prop:=∃ids:List Int,ids.length<=m/\r=(GY ids,[])
variable {A:Ab}
def TyP (r:V×List Obj):Prop:=∃t:Ty,r=(tyV t,[])
def Zdb (r:V×List Obj):Prop:=∃(c:Int)(t:Ty),r=(schV c t,[])
def ZdB (L:List Int)(m:Nat)(r:V×List Obj):Prop:=∃t J,t.size<=m/\J<=L.length/\r=(tyV t,[AC L J])
def Zeg (L:List Int)(ds:List DataD)(ls:List Ty)(dd:DataD)(d i:Nat)(s:St):Prop:=∃tys J,tys.length=i/\(∀x∈tys,x.size<=5 ^ d)/\J<=L.length/\
 s=⟨[(0,.sc (.ptr 0 0)),(1,Bt ds),(2,tysV ls),(3,intV (d+1)),(8,.sc (.ptr 64 0)),(10,.sc (.ptr 3392 0)),(11,.sc (.arr 3521 i)),(12,intV i)],
  [(0,some (AC L J)),(64,some (.box [zi,zs,zi,zi,.nil])),(3392,some (.box (wc (Ba dd)))),(3521,some (.arr 5 (wr (Ty.rows tys)) 0))]⟩
variable {A:Ab}
def UC:List Ty:=[.mk 3 [] 0 0 [],.mk 3 [] 1 3 []]
def ZdG:List Ty:=[.mk 1 [] 0 0 [],.mk 1 [] 1 0 []]
def ctxV (l:List EntD):V:=match l with
 |[]=>.sc .nil
 |l=>Fd l
def CtxP (L:List Int)(r:V×List Obj):Prop:=∃(l:List EntD)(t:Ty)(J:Nat),l.length<=3/\(∀x∈l,x.name∈C3)/\J<=L.length/\r=(.tu [Fd l,tyV t],[AC L J])
def CtxI (L:List Int)(ds:List DataD)(n i:Nat)(s:St):Prop:=∃(l:List EntD)(J p:Nat),l.length=i/\(∀x∈l,x.name∈C3)/\J<=L.length/\(p=0\/p=2)/\
 s=⟨[(0,.sc (.ptr 0 0)),(1,Bt ds),(5,.sc (.ptr 128 0)),(6,.sc (.arr 320 2)),(7,ctxV l),(8,intV n),(9,intV i)],
  [(0,some (AC L J)),(128,some (.box [zi,zs,zi,zi,.nil])),(320,some (.arr 5 (wr (Ty.rows UC)) p))]⟩
variable {A:Ab}
def Zde (s:Str):Exp:=.mk 1 0 s 0 [] [] tz
variable {A:Ab}
@[simp] theorem range_5:List.range 5=[0,1,2,3,4]:=rfl
abbrev rkM (ds:List DataD)(ctx:List EntD):=Fq ds (Vx ctx)
end Go.Vs.Tryz
