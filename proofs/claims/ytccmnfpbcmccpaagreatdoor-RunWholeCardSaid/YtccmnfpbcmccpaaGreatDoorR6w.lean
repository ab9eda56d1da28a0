/- Equal up to the names that are bound, by the reference, walked. -/
import Derived.Test.YtccmnfpbcmccpaaGreatDoorR5w
set_option linter.all false
namespace Go.Vs.Tryz
open Go Go.Vs
variable {A:Ag}
def tyBd (e:Exp):Prop:=e.fold fun e l=>e.ty.size<=687194767360/\∀p∈l,p
theorem Ez (e:Exp):tyBd e=(e.ty.size<=687194767360/\∀x∈e.children,tyBd x):=by
 have:=Exp.fold_eq (fun e (l:List Prop)=>e.ty.size<=687194767360/\∀p∈l,p) e;unfold tyBd;rw[this];simp only[qU]
theorem tyBd.one {e:Exp}(h:tyBd e):e.ty.size<=687194767360:=by rw[Ez]at h;exact h.1
theorem tyBd.child {e x:Exp}(h:tyBd e)(hx:x∈e.children):tyBd x:=by rw[Ez]at h;exact h.2 x hx
variable {A:Ag}
@[simp] theorem tz_size:tz.size<=46656:=by decide
def cOk (ds:List DataD)(s:Str):Prop:=s=[71,111,110,101]\/∃d∈ds,∃c∈d.cons,s=c.name
def rawS (ds:List DataD)(e:Exp):Prop:=
 (e.kind=1/\e.name∈Cd/\e.kids=[]/\e.arms=[])\/(e.kind=2/\cOk ds e.name/\e.kids=[]/\e.arms=[])\/((e.kind=3\/e.kind=10)/\e.name=[]/\e.kids=[]/\e.arms=[])\/
 (e.kind=4/\e.name∈Cd/\(∃x,e.kids=[x])/\e.arms=[])\/(e.kind=5/\e.name=[]/\(∃x y,e.kids=[x,y])/\e.arms=[])\/((e.kind=6\/e.kind=7)/\e.name∈Cd/\(∃x y,e.kids=[x,y])/\e.arms=[])\/
 ((e.kind=9\/e.kind=11)/\e.name=[]/\(∃x,e.kids=[x])/\e.arms=[])\/(e.kind=8/\e.name=[]/\∃x,e.kids=[x])
def armE (ds:List DataD)(a:ArmH×Exp):Prop:=a.1.pos=0/\cOk ds a.1.con/\a.1.vars.length<=4/\∀v∈a.1.vars,v∈Cd
def rawE1 (ds:List DataD)(e:Exp):Prop:=e.pos=0/\(∀a∈e.arms,armE ds a)/\e.ty.size<=46656/\(e.kind≠9->e.ty=tz)/\(e.kind≠3->e.num=0)/\rawS ds e
def rawE (ds:List DataD)(e:Exp):Prop:=e.fold fun e l=>rawE1 ds e/\∀p∈l,p
theorem Tn (ds:List DataD)(e:Exp):rawE ds e=(rawE1 ds e/\∀x∈e.children,rawE ds x):=by
 have:=Exp.fold_eq (fun e (l:List Prop)=>rawE1 ds e/\∀p∈l,p) e;unfold rawE;rw[this];simp only[qU]
theorem rawE.one {ds:List DataD}{e:Exp}(h:rawE ds e):rawE1 ds e:=by grind[Tn]
theorem rawE.child {ds:List DataD}{e x:Exp}(h:rawE ds e)(hx:x∈e.children):rawE ds x:=by grind[Tn]
theorem rawE1.wf1 {ds:List DataD}{e:Exp}(h:rawE1 ds e):e.wf1:=by
 obtain⟨_,_,_,_,_,h⟩:=h;unfold Exp.wf1;rcases h with ⟨k,_,hk,ha⟩|⟨k,_,hk,ha⟩|⟨k,_,hk,ha⟩|⟨k,_,⟨x,hk⟩,ha⟩|⟨k,_,⟨x,y,hk⟩,ha⟩|⟨k,_,⟨x,y,hk⟩,ha⟩|⟨k,_,⟨x,hk⟩,ha⟩|⟨k,_,x,hk⟩<;>grind
theorem rawE.wf {ds:List DataD}{e:Exp}:rawE ds e->e.wf:=by
 induction e using Exp.ind with
 |h e ih=>
  intro h;rw[Exp.wf_eq];exact⟨h.one.wf1,fun x hx=>ih x hx (h.child hx)⟩
theorem rawE.tyBd {ds:List DataD}{e:Exp}:rawE ds e->tyBd e:=by
 induction e using Exp.ind with
 |h e ih=>
  intro h;rw[Ez];exact⟨qr h.one.2.2.1 (by decide),fun x hx=>ih x hx (h.child hx)⟩
def wB (d:Nat):Nat:=32*8 ^ d
def RawQ (L:List Int)(ds:List DataD)(B:Nat)(r:V×List Obj):Prop:=∃e J,rawE ds e/\e.weight<=B/\J<=L.length/\r=(expV e,[Ao L J])
def ArmQ (L:List Int)(ds:List DataD)(dd:DataD)(x:Exp)(B d i:Nat)(s:St):Prop:=∃arms J,arms.length=i/\J<=L.length/\(∀a∈arms,armE ds a/\rawE ds a.2/\a.2.weight<=B)/\
 s=⟨[(0,.sc (.ptr 0 0)),(1,Aw ds),(2,intV (d+1)),(6,.sc (.ptr 64 0)),(13,.sc (.ptr 10176 0)),(14,.sc (.ptr 10752 0)),(15,intV i)],
  [(0,some (Ao L J)),(64,some (.box [zi,zi,zs,zi,.nil,.nil,zi,zs,zi,zi,.nil])),(10176,some (.box (wc (A2 dd)))),(10624,some (.arr 11 [wc x.row] 0)),
    (10752,some (.box [.c (.int .i64 8),zi,zs,zi,.arr 10624 1,.arr 10822 i,zi,zs,zi,zi,.nil])),(10822,some (.arr 14 (wr (Exp.armRows arms)) 0))]⟩
def VarQ (L:List Int)(ds:List DataD)(dd:DataD)(x:Exp)(arms:List (ArmH×Exp))(con:Str)(d i j:Nat)(s:St):Prop:=∃vars J,vars.length=j/\(∀v∈vars,v∈Cd)/\J<=L.length/\
 s=⟨[(0,.sc (.ptr 0 0)),(1,Aw ds),(2,intV (d+1)),(6,.sc (.ptr 64 0)),(13,.sc (.ptr 10176 0)),(14,.sc (.ptr 10752 0)),(15,intV i),(16,.sc (.ptr 11712 0)),(17,intV j)],
  [(0,some (Ao L J)),(64,some (.box [zi,zi,zs,zi,.nil,.nil,zi,zs,zi,zi,.nil])),(10176,some (.box (wc (A2 dd)))),(10624,some (.arr 11 [wc x.row] 0)),
    (10752,some (.box [.c (.int .i64 8),zi,zs,zi,.arr 10624 1,.arr 10822 i,zi,zs,zi,zi,.nil])),(10822,some (.arr 14 (wr (Exp.armRows arms)) 0)),
    (11712,some (.box [zi,.c (.str con),.arr 11779 j,zi,zi,zs,zi,.nil,.nil,zi,zs,zi,zi,.nil])),(11779,some (.arr 1 (wr (Ak vars)) 0))]⟩
def Zit (ds7:List DataD)(L:List Int)(r:V×List Obj):Prop:=∃a b J ds,(∀d∈ds,d∈ds7)/\Gx ds/\rawE ds a/\a.weight<=wB 4/\rawE ds b/\b.weight<=wB 3/\J<=L.length/\r=(.tu [expV a,expV b,.sc (.ptr 0 0)],[Ao L J])
variable {A:Ag}
def ZiT (ds:List DataD):Prop:=∀d∈ds,d.cons.length<=2/\∀c∈d.cons,c.fields.length<=2
def wS:Nat->Nat
 |0=>1
 |d+1=>3*wS d+5
def RawS (L:List Int)(ds:List DataD)(B:Nat)(r:V×List Obj):Prop:=∃e J,rawE ds e/\e.weight<=B/\J<=L.length/\r=(expV e,[Ao L J])
def ArmS (L:List Int)(ds:List DataD)(dd:DataD)(x:Exp)(B d i:Nat)(s:St):Prop:=∃arms J,arms.length=i/\J<=L.length/\(∀a∈arms,armE ds a/\rawE ds a.2/\a.2.weight<=B/\a.1.vars.length<=2)/\
 s=⟨[(0,.sc (.ptr 0 0)),(1,Aw ds),(2,intV (d+1)),(6,.sc (.ptr 64 0)),(13,.sc (.ptr 10176 0)),(14,.sc (.ptr 10752 0)),(15,intV i)],
  [(0,some (Ao L J)),(64,some (.box [zi,zi,zs,zi,.nil,.nil,zi,zs,zi,zi,.nil])),(10176,some (.box (wc (A2 dd)))),(10624,some (.arr 11 [wc x.row] 0)),
    (10752,some (.box [.c (.int .i64 8),zi,zs,zi,.arr 10624 1,.arr 10822 i,zi,zs,zi,zi,.nil])),(10822,some (.arr 14 (wr (Exp.armRows arms)) 0))]⟩
def ZiH (ds7:List DataD)(L:List Int)(r:V×List Obj):Prop:=∃a b J ds,(∀d∈ds,d∈ds7)/\Gx ds/\rawE ds a/\a.weight<=wS 4/\rawE ds b/\b.weight<=wS 3/\J<=L.length/\r=(.tu [expV a,expV b,.sc (.ptr 0 0)],[Ao L J])
variable {A:Ag}
def ZeA:List Ty:=[.mk 3 [] 0 0 [],.mk 3 [] 1 3 []]
def Zin:List Ty:=[.mk 1 [] 0 0 [],.mk 1 [] 1 0 []]
def ctxV (l:List EntD):V:=match l with
 |[]=>.sc .nil
 |l=>Be l
def CtxP (L:List Int)(r:V×List Obj):Prop:=∃(l:List EntD)(t:Ty)(J:Nat),l.length<=3/\(∀x∈l,x.name∈Cd)/\J<=L.length/\r=(.tu [Be l,tyV t],[Ao L J])
def CtxI (L:List Int)(ds:List DataD)(n i:Nat)(s:St):Prop:=∃(l:List EntD)(J p:Nat),l.length=i/\(∀x∈l,x.name∈Cd)/\J<=L.length/\(p=0\/p=2)/\
 s=⟨[(0,.sc (.ptr 0 0)),(1,Aw ds),(5,.sc (.ptr 128 0)),(6,.sc (.arr 320 2)),(7,ctxV l),(8,intV n),(9,intV i)],
  [(0,some (Ao L J)),(128,some (.box [zi,zs,zi,zi,.nil])),(320,some (.arr 5 (wr (Ty.rows ZeA)) p))]⟩
variable {A:Ag}
def Ziq (s:Str):Exp:=.mk 1 0 s 0 [] [] tz
def O7 (e:Exp)(l:List (Exp×List Exp)):Exp×List Exp:=
 if e.kind=5 then match e.kids,l with
  |[_,x],r::_=>(r.1,r.2++[x])
  |_,_=>(e,[])
 else (e,[])
def spine (e:Exp):Exp×List Exp:=e.fold O7
theorem GA {e f x:Exp}(h:e.kind=5)(hk:e.kids=[f,x]):spine e=((spine f).1,(spine f).2++[x]):=by
 unfold spine;rw[Exp.fold_eq];simp[O7,h,hk,Exp.children]
theorem E8 {e:Exp}(h:e.kind≠5):spine e=(e,[]):=by
 unfold spine;rw[Exp.fold_eq];simp[O7,h]
def Tb (e:Exp):Nat:=e.fold fun e l=>if e.kind=5 then l.sum else if e.kind=8 then 1+(l.drop 1).sum else 1+l.sum
def JU (e:Exp):Prop:=e.pos=0/\e.num=0/\e.ty=tz/\
 ((e.kind=1/\nameOk 97 122 e.name/\e.kids=[]/\e.arms=[])\/(e.kind=2/\nameOk 65 90 e.name/\e.kids=[]/\e.arms=[]) \/
   (e.kind=4/\nameOk 97 122 e.name/\(∃x,e.kids=[x])/\e.arms=[])\/
   (e.kind=5/\e.name=[]/\(∃f x,e.kids=[f,x]/\(f.kind=1\/f.kind=2\/f.kind=5))/\e.arms=[])\/
   (e.kind=8/\e.name=[]/\(∃x,e.kids=[x]/\x.kind=1)/\e.arms≠[]/\∀a∈e.arms,a.1.pos=0/\nameOk 65 90 a.1.con/\a.1.vars.length<=4/\∀v∈a.1.vars,nameOk 97 122 v))
def good (e:Exp):Prop:=e.fold fun e l=>JU e/\∀p∈l,p
theorem Ww (e:Exp):good e=(JU e/\∀x∈e.children,good x):=by
 have:=Exp.fold_eq (fun e (l:List Prop)=>JU e/\∀p∈l,p) e;unfold good;rw[this];simp only[qU]
theorem good.one {e:Exp}(h:good e):JU e:=by rw[Ww]at h;exact h.1
theorem good.child {e x:Exp}(h:good e)(hx:x∈e.children):good x:=by rw[Ww]at h;exact h.2 x hx
theorem good.cases {e:Exp}(h:good e):(e.kind=1/\nameOk 97 122 e.name/\e.kids=[]/\e.arms=[])\/(e.kind=2/\nameOk 65 90 e.name/\e.kids=[]/\e.arms=[])\/
 (e.kind=4/\nameOk 97 122 e.name/\(∃x,e.kids=[x]/\good x)/\e.arms=[])\/
 (e.kind=5/\e.name=[]/\(∃f x,e.kids=[f,x]/\(f.kind=1\/f.kind=2\/f.kind=5)/\good f/\good x)/\e.arms=[])\/
 (e.kind=8/\e.name=[]/\(∃x,e.kids=[x]/\x.kind=1/\good x)/\e.arms≠[]/\∀a∈e.arms,a.1.pos=0/\nameOk 65 90 a.1.con/\a.1.vars.length<=4/\(∀v∈a.1.vars,nameOk 97 122 v)/\good a.2):=by
 obtain⟨_,_,_,h1⟩:=h.one;rcases h1 with h1|h1|⟨a,b,⟨x,hx⟩,c⟩|⟨a,b,⟨f,x,hx,hf⟩,c⟩|⟨a,b,⟨x,hx,hk⟩,c,d⟩
 .exact .inl h1
 .exact .inr (.inl h1)
 .exact .inr (.inr (.inl ⟨a,b,⟨x,hx,h.child (by simp[Exp.children,hx])⟩,c⟩))
 .exact .inr (.inr (.inr (.inl ⟨a,b,⟨f,x,hx,hf,h.child (by simp[Exp.children,hx]),h.child (by simp[Exp.children,hx])⟩,c⟩)))
 .refine .inr (.inr (.inr (.inr ⟨a,b,⟨x,hx,hk,h.child (by simp [Exp.children,hx])⟩,c,fun y hy => ?_⟩)))
  obtain⟨p,q,r,s⟩:=d y hy;exact⟨p,q,r,s,h.child (by simp only[Exp.children,qp,qJ];exact .inr ⟨y,hy,rfl⟩)⟩
theorem AE {e x:Exp}(h:x∈e.kids):x∈e.children:=List.mem_append_left _ h
theorem Bp {e:Exp}{a:ArmH×Exp}(h:a∈e.arms):a.2∈e.children:=List.mem_append_right _ (qaz h)
variable {A:Ag}
abbrev BX (l:List Exp):V:=.sc (.c (.sl (Exp.rows l)))
theorem XL (l:List Exp)(h:l.length<=687194767360):(K A).call 80 [.sc (.arr 0 l.length)] [.arr 11 (wr (Exp.rows l)) 0]=some (.tu [],[.arr 11 (wr (Exp.rows l.reverse)) 0]):=by
 obtain⟨_,rfl,h2⟩:=Zd8 (A:=A) l h;rw[Zcp]at h2;exact h2
def Ziv (e:Exp)(i:Nat)(s:St):Prop:=∃cur acc,good cur/\(cur.kind=1\/cur.kind=2\/cur.kind=5)/\acc.length=i/\spine e=((spine cur).1,(spine cur).2++acc.reverse)/\
 s=⟨[(1,.sc (.ptr 64 0)),(2,.sc (.ptr 128 0)),(4,.sc (.arr 257 i))],[(64,some (.box (wc cur.row))),(128,some (.box [zi,zi,zs,zi,.nil,.nil,zi,zs,zi,zi,.nil])),(257,some (.arr 11 (wr (Exp.rows acc)) 0))]⟩
def GI (s:Str):Exp:=.mk 2 0 s 0 [] [] tz
def kid0 (e:Exp):Exp:=(e.kids[0]?).getD e
def con0 (e:Exp):Exp:=GI (((e.arms[0]?).map fun a=>a.1.con).getD [])
def cmpF (rank:List Str->Exp->Int):Nat->List Str->List Str->Exp->Exp->Int
 |0,_,_,_,_=>0
 |n+1,l,m,a,b=>orI [cmpI (Tb a) (Tb b),cmpI (Uz a) (Uz b),
  if a.kind=4 then cmpF rank n (l++[a.name]) (m++[b.name]) (kid0 a) (kid0 b)
  else if a.kind=8 then orI (cmpI (rank l (kid0 a)) (rank m (kid0 b))::cmpI (rank l (con0 a)) (rank m (con0 b)) ::
   (List.zipWith (fun p q=>cmpF rank n (l++p.1.vars) (m++q.1.vars) p.2 q.2) a.arms b.arms++[cmpI a.arms.length b.arms.length]))
  else orI [cmpI (rank l (spine a).1) (rank m (spine b).1),cmpI (spine a).2.length (spine b).2.length,orI (List.zipWith (cmpF rank n l m) (spine a).2 (spine b).2)]]
variable (rk:List Str->Exp->Int)
def cmpR (n:Nat)(l m:List Str)(a b:Exp):Int:=
 if a.kind=4 then cmpF rk n (l++[a.name]) (m++[b.name]) (kid0 a) (kid0 b)
 else if a.kind=8 then orI (cmpI (rk l (kid0 a)) (rk m (kid0 b))::cmpI (rk l (con0 a)) (rk m (con0 b)) ::
  (List.zipWith (fun p q=>cmpF rk n (l++p.1.vars) (m++q.1.vars) p.2 q.2) a.arms b.arms++[cmpI a.arms.length b.arms.length]))
 else orI [cmpI (rk l (spine a).1) (rk m (spine b).1),cmpI (spine a).2.length (spine b).2.length,orI (List.zipWith (cmpF rk n l m) (spine a).2 (spine b).2)]
def Tri (x y z:Int):Prop:=(x=0->y=0->z=0)/\(x<=0->y<=0->(x<0\/y<0)->z<0)
def ZbA (ds:List DataD)(e:Exp)(N:List Str):Prop:=(e.kind=1->e.name∈N)/\(e.kind=2->∃d∈ds,e.name∈BP d)/\
 (e.kind=8->∃d∈ds,(e.arms.map fun a=>a.1.con)=BP d/\(e.arms.map fun a=>a.1.vars.length)=d.cons.map fun c=>c.fields.length)
def Ze9 (ds:List DataD)(e:Exp)(l:List (List Str->Prop))(N:List Str):Prop:=ZbA ds e N/\∀(i:Nat) p,l[i]?=some p->p (N++e.bound i)
def Gk (ds:List DataD)(e:Exp):List Str->Prop:=e.fold (Ze9 ds)
def uniq (ds:List DataD):Prop:=∀d∈ds,∀d'∈ds,∀c,c∈BP d->c∈BP d'->d=d'
theorem UY {ds:List DataD}{i j:Nat}(h:i<=j):Et ds i<=Et ds j:=by
 unfold Et;have:ds.take i=(ds.take j).take i:=by rw[List.take_take,qbj h]
 rw[this,qaC];exact DS
theorem WL {ds:List DataD}{i j k k':Nat}{d d':DataD}(hi:ds[i]?=some d)(hj:ds[j]?=some d')(hk:k<d.cons.length)(hk':k'<d'.cons.length)(h:k+Et ds i=k'+Et ds j):i=j/\k=k':=by
 have h1:=SP hi;have h2:=SP hj;rcases Nat.lt_trichotomy i j with h3|h3|h3
 .have:=UY (ds:=ds) (i:=i+1) (j:=j) h3
  omega
 .subst h3
  omega
 .have:=UY (ds:=ds) (i:=j+1) (j:=i) h3
  omega
theorem QX {ds:List DataD}{S l:List Str}{e:Exp}(h:e.kind=2)(hd:∃d∈ds,e.name∈BP d):∃(i k:Nat)(d:DataD),ds[i]?=some d/\(BP d)[k]?=some e.name/\Fh ds S l e=S.length+l.length+k+Et ds i:=by
 obtain⟨d0,h0,hc⟩:=hd;have hlt:EC ds e.name<ds.length:=by
  unfold EC;rw[List.findIdx_lt_length];exact⟨d0,h0,by simpa using hc⟩
 obtain⟨d,hd,hm⟩:=Zb7 hlt;refine⟨EC ds e.name,A5 (BP d) e.name,d,hd,Gm (Ev.2 hm),?_⟩;unfold Fh;rw[if_neg oz,if_pos h];have hf:Mr ds e.name=(((EC ds e.name:Nat):Int),((A5 (BP d) e.name:Nat):Int),true):=by
  unfold Mr;rw[hd]
 rw[hf];simp
section
variable {ds:List DataD}{S l m:List Str}{a b:Exp}
theorem ZdK (hlm:l.length=m.length)(ha:a.kind=2)(hb:b.kind=2)(da:∃d∈ds,a.name∈BP d)(db:∃d∈ds,b.name∈BP d):Fh ds S l a=Fh ds S m b↔a.name=b.name:=by
 constructor
 .intro h
  obtain⟨i,k,d,h1,h2,h3⟩:=QX (S:=S) (l:=l) ha da;obtain⟨i',k',d',h1',h2',h3'⟩:=QX (S:=S) (l:=m) hb db;rw[h3,h3']at h;have hk:=(qf.1 h2).1;have hk':=(qf.1 h2').1;rw[cnames_len]at hk hk';obtain⟨rfl,rfl⟩:=WL h1 h1' hk hk' oz;rw[h1]at h1';cases h1';rw[h2]at h2';exact qaW h2'
 .intro h
  unfold Fh;rw[if_neg oz,if_pos ha,if_neg oz,if_pos hb,h,hlm]
end
def Mb (e:Exp):Prop:=e.kind=1\/e.kind=2\/e.kind=5
theorem good.app {e:Exp}(g:good e)(h:e.kind=5):∃f x,e.kids=[f,x]/\Mb f/\good f/\good x/\e.arms=[]:=by
 rcases g.cases with h1|h1|h1|⟨_,_,⟨f,x,h2,h3,h4,h5⟩,h6⟩|h1
 .omega
 .omega
 .omega
 .exact⟨f,x,h2,h3,h4,h5,h6⟩
 .omega
theorem good.case {e:Exp}(g:good e)(h:e.kind=8):∃x,e.kids=[x]/\x.kind=1/\good x/\e.arms≠[]/\∀a∈e.arms,good a.2:=by
 rcases g.cases with h1|h1|h1|h1|⟨_,_,⟨x,h2,h3,h4⟩,h5,h6⟩
 .omega
 .omega
 .omega
 .omega
 .exact⟨x,h2,h3,h4,h5,fun a ha=>(h6 a ha).2.2.2.2⟩
structure CaseP (ds:List DataD)(N:List Str)(e x:Exp)(d:DataD):Prop where
 kids:e.kids=[x]
 kind:x.kind=1
 good:Go.Vs.Tryz.good x
 sc:Gk ds x N
 ne:e.arms≠[]
 mem:d∈ds
 cons:(e.arms.map fun a=>a.1.con)=BP d
 vars:(e.arms.map fun a=>a.1.vars.length)=d.cons.map fun c=>c.fields.length
 arms:∀(i:Nat) a,e.arms[i]?=some a->Go.Vs.Tryz.good a.2/\Gk ds a.2 (N++a.1.vars)/\a.2.weight<e.weight
theorem CaseP.con0 {ds:List DataD}{N:List Str}{e x:Exp}{d:DataD}(h:CaseP ds N e x d):∃s,(BP d)[0]?=some s/\Go.Vs.Tryz.con0 e=GI s:=by
 cases ha:e.arms with
 |nil=>exact absurd ha h.ne
 |cons a r=>
  refine⟨a.1.con,?_,?_⟩
  .rw[<-h.cons,ha];rfl
  .unfold Go.Vs.Tryz.con0
   rw[ha];rfl
theorem CaseP.same {ds:List DataD}{S N l m:List Str}{a b x y:Exp}{d d':DataD}(hu:uniq ds)(hlm:l.length=m.length)(ha:CaseP ds (N++l) a x d)(hb:CaseP ds (N++m) b y d'):Fh ds S l (Go.Vs.Tryz.con0 a)=Fh ds S m (Go.Vs.Tryz.con0 b)↔d=d':=by
 obtain⟨s,h1,h2⟩:=ha.con0;obtain⟨t,h3,h4⟩:=hb.con0;have m1:s∈BP d:=qc h1;have m2:t∈BP d':=qc h3;rw[h2,h4,ZdK (a:=GI s) (b:=GI t) hlm rfl rfl ⟨d,ha.mem,m1⟩ ⟨d',hb.mem,m2⟩];show s=t↔_;constructor
 .rintro rfl
  exact hu d ha.mem d' hb.mem s m1 m2
 .rintro rfl
  rw[h1]at h3;exact qaW h3
theorem CaseP.len {ds:List DataD}{N:List Str}{e x:Exp}{d:DataD}(h:CaseP ds N e x d):e.arms.length=d.cons.length:=by
 have:=congrArg List.length h.vars;simpa using this
variable {A:Ag}
@[simp] theorem range_5:List.range 5=[0,1,2,3,4]:=rfl
abbrev rkM (ds:List DataD)(ctx:List EntD):=Fh ds (WD ctx)
end Go.Vs.Tryz
