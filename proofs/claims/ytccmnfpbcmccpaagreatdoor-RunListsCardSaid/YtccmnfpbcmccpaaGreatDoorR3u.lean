/- Alpha equality by the program, walked. -/
import Derived.Test.YtccmnfpbcmccpaaGreatDoorR2u
import Derived.Sort.AssemblyPlain
set_option linter.unusedSimpArgs false
set_option linter.unusedVariables false
set_option linter.deprecated false
set_option maxHeartbeats 8000000
set_option maxRecDepth 10000
namespace Go.Vs
open Go
@[simp] theorem ownV_arr {oid k n:Nat} {own:List (Nat×Nat)} {L:Nat->Option Obj} {u:Upd}:ownV oid own L (.sc (.arr k n),u)=some (.sc (.arr k n),u):=by
 cases own with
 |nil=>rfl
 |cons p own=>simp[ownV]
end Go.Vs
namespace Go.Vs.Tryz
open Go Go.Vs
variable {A:Ab}
def CO (k:Int):Nat:=if k=5\/k=6\/k=7 then 2 else if k=4\/k=8\/k=9\/k=11 then 1 else 0
def shp1 (e:Exp):Prop:=e.wf1/\(e.kind=1->e.num=0/\e.ty=tz)/\e.kids.length=CO e.kind
def shp (e:Exp):Prop:=e.fold fun e l=>shp1 e/\∀p∈l,p
theorem B1 (e:Exp):shp e=(shp1 e/\∀x∈e.children,shp x):=by
 have:=Exp.fold_eq (fun e (l:List Prop)=>shp1 e/\∀p∈l,p) e;unfold shp;rw[this];simp only[qN]
theorem shp.one {e:Exp}(h:shp e):shp1 e:=by rw[B1]at h;exact h.1
theorem shp.child {e x:Exp}(h:shp e)(hx:x∈e.children):shp x:=by rw[B1]at h;exact h.2 x hx
theorem shp.wf {e:Exp}:shp e->e.wf:=by
 induction e using Exp.ind with
 |h e ih=>
  intro h;rw[Exp.wf_eq];exact⟨h.one.1,fun x hx=>ih x hx (h.child hx)⟩
def ZK:Exp:=.mk 0 0 [] 0 [] [] tz
def MM (e:Exp):List Exp:=List.replicate e.children.length ZK
@[simp] theorem zerosM_len (e:Exp):(MM e).length=e.kids.length+e.arms.length:=by rw[MM,List.length_replicate,e.children_len]
def ZdC (e:Exp)(i:Nat):List Exp:=(MM e).take i++e.children.drop i
variable {A:Ab}
@[simp] theorem tz_size:tz.size<=46656:=by decide
def cOk (ds:List DataD)(s:Str):Prop:=s=[71,111,110,101]\/∃d∈ds,∃c∈d.cons,s=c.name
def rawS (ds:List DataD)(e:Exp):Prop:=
 (e.kind=1/\e.name∈C3/\e.kids=[]/\e.arms=[])\/(e.kind=2/\cOk ds e.name/\e.kids=[]/\e.arms=[])\/((e.kind=3\/e.kind=10)/\e.name=[]/\e.kids=[]/\e.arms=[])\/
 (e.kind=4/\e.name∈C3/\(∃x,e.kids=[x])/\e.arms=[])\/(e.kind=5/\e.name=[]/\(∃x y,e.kids=[x,y])/\e.arms=[])\/((e.kind=6\/e.kind=7)/\e.name∈C3/\(∃x y,e.kids=[x,y])/\e.arms=[])\/
 ((e.kind=9\/e.kind=11)/\e.name=[]/\(∃x,e.kids=[x])/\e.arms=[])\/(e.kind=8/\e.name=[]/\∃x,e.kids=[x])
def armE (ds:List DataD)(a:ArmH×Exp):Prop:=a.1.pos=0/\cOk ds a.1.con/\a.1.vars.length<=4/\∀v∈a.1.vars,v∈C3
def rawE1 (ds:List DataD)(e:Exp):Prop:=e.pos=0/\(∀a∈e.arms,armE ds a)/\e.ty.size<=46656/\(e.kind≠9->e.ty=tz)/\(e.kind≠3->e.num=0)/\rawS ds e
def rawE (ds:List DataD)(e:Exp):Prop:=e.fold fun e l=>rawE1 ds e/\∀p∈l,p
theorem RA (ds:List DataD)(e:Exp):rawE ds e=(rawE1 ds e/\∀x∈e.children,rawE ds x):=by
 have:=Exp.fold_eq (fun e (l:List Prop)=>rawE1 ds e/\∀p∈l,p) e;unfold rawE;rw[this];simp only[qN]
theorem rawE.one {ds:List DataD}{e:Exp}(h:rawE ds e):rawE1 ds e:=by grind[RA]
theorem rawE.child {ds:List DataD}{e x:Exp}(h:rawE ds e)(hx:x∈e.children):rawE ds x:=by grind[RA]
theorem rawE1.wf1 {ds:List DataD}{e:Exp}(h:rawE1 ds e):e.wf1:=by
 obtain⟨_,_,_,_,_,h⟩:=h;unfold Exp.wf1;rcases h with ⟨k,_,hk,ha⟩|⟨k,_,hk,ha⟩|⟨k,_,hk,ha⟩|⟨k,_,⟨x,hk⟩,ha⟩|⟨k,_,⟨x,y,hk⟩,ha⟩|⟨k,_,⟨x,y,hk⟩,ha⟩|⟨k,_,⟨x,hk⟩,ha⟩|⟨k,_,x,hk⟩<;>grind
theorem rawE.wf {ds:List DataD}{e:Exp}:rawE ds e->e.wf:=by
 induction e using Exp.ind with
 |h e ih=>
  intro h;rw[Exp.wf_eq];exact⟨h.one.wf1,fun x hx=>ih x hx (h.child hx)⟩
theorem rawE.tyBd {ds:List DataD}{e:Exp}:rawE ds e->tyBd e:=by
 induction e using Exp.ind with
 |h e ih=>
  intro h;rw[D8];exact⟨qr h.one.2.2.1 (by decide),fun x hx=>ih x hx (h.child hx)⟩
def wB (d:Nat):Nat:=32*8 ^ d
def RawQ (L:List Int)(ds:List DataD)(B:Nat)(r:V×List Obj):Prop:=∃e J,rawE ds e/\e.weight<=B/\J<=L.length/\r=(expV e,[AC L J])
def ArmQ (L:List Int)(ds:List DataD)(dd:DataD)(x:Exp)(B d i:Nat)(s:St):Prop:=∃arms J,arms.length=i/\J<=L.length/\(∀a∈arms,armE ds a/\rawE ds a.2/\a.2.weight<=B)/\
 s=⟨[(0,.sc (.ptr 0 0)),(1,Bt ds),(2,intV (d+1)),(6,.sc (.ptr 64 0)),(13,.sc (.ptr 10176 0)),(14,.sc (.ptr 10752 0)),(15,intV i)],
  [(0,some (AC L J)),(64,some (.box [zi,zi,zs,zi,.nil,.nil,zi,zs,zi,zi,.nil])),(10176,some (.box (wc (Ba dd)))),(10624,some (.arr 11 [wc x.row] 0)),
    (10752,some (.box [.c (.int .i64 8),zi,zs,zi,.arr 10624 1,.arr 10822 i,zi,zs,zi,zi,.nil])),(10822,some (.arr 14 (wr (Exp.armRows arms)) 0))]⟩
def VarQ (L:List Int)(ds:List DataD)(dd:DataD)(x:Exp)(arms:List (ArmH×Exp))(con:Str)(d i j:Nat)(s:St):Prop:=∃vars J,vars.length=j/\(∀v∈vars,v∈C3)/\J<=L.length/\
 s=⟨[(0,.sc (.ptr 0 0)),(1,Bt ds),(2,intV (d+1)),(6,.sc (.ptr 64 0)),(13,.sc (.ptr 10176 0)),(14,.sc (.ptr 10752 0)),(15,intV i),(16,.sc (.ptr 11712 0)),(17,intV j)],
  [(0,some (AC L J)),(64,some (.box [zi,zi,zs,zi,.nil,.nil,zi,zs,zi,zi,.nil])),(10176,some (.box (wc (Ba dd)))),(10624,some (.arr 11 [wc x.row] 0)),
    (10752,some (.box [.c (.int .i64 8),zi,zs,zi,.arr 10624 1,.arr 10822 i,zi,zs,zi,zi,.nil])),(10822,some (.arr 14 (wr (Exp.armRows arms)) 0)),
    (11712,some (.box [zi,.c (.str con),.arr 11779 j,zi,zi,zs,zi,.nil,.nil,zi,zs,zi,zi,.nil])),(11779,some (.arr 1 (wr (Ao vars)) 0))]⟩
def Zeo (ds7:List DataD)(L:List Int)(r:V×List Obj):Prop:=∃a b J ds,(∀d∈ds,d∈ds7)/\G4 ds/\rawE ds a/\a.weight<=wB 4/\rawE ds b/\b.weight<=wB 3/\J<=L.length/\r=(.tu [expV a,expV b,.sc (.ptr 0 0)],[AC L J])
variable {A:Ab}
theorem rawE1.shp1 {ds:List DataD}{e:Exp}(h:rawE1 ds e):shp1 e:=by
 refine⟨h.wf1,?_,?_⟩
 .intro hk
  exact⟨h.2.2.2.2.1 (by omega),h.2.2.2.1 (by omega)⟩
 .obtain ⟨_,_,_,_,_,h⟩:=h
  unfold CO;rcases h with ⟨k,_,hk,ha⟩|⟨k,_,hk,ha⟩|⟨k,_,hk,ha⟩|⟨k,_,⟨x,hk⟩,ha⟩|⟨k,_,⟨x,y,hk⟩,ha⟩|⟨k,_,⟨x,y,hk⟩,ha⟩|⟨k,_,⟨x,hk⟩,ha⟩|⟨k,_,x,hk⟩
  .rw[hk,if_neg (by omega),if_neg (by omega)];rfl
  .rw[hk,if_neg (by omega),if_neg (by omega)];rfl
  .rw[hk,if_neg (by omega),if_neg (by omega)];rfl
  .rw[hk,if_neg (by omega),if_pos (by omega)];rfl
  .rw[hk,if_pos (by omega)];rfl
  .rw[hk,if_pos (by omega)];rfl
  .rw[hk,if_neg (by omega),if_pos (by omega)];rfl
  .rw[hk,if_neg (by omega),if_pos (by omega)];rfl
theorem rawE.shp {ds:List DataD}{e:Exp}:rawE ds e->shp e:=by
 induction e using Exp.ind with
 |h e ih=>
  intro h;rw[B1];exact⟨h.one.shp1,fun x hx=>ih x hx (h.child hx)⟩
theorem headEq.shp1 {e c:Exp}(h:headEq e c)(hk:e.kind≠1)(hs:shp1 e):shp1 c:=by
 obtain⟨h1,h2,h3,h4,h5⟩:=h;obtain⟨⟨w1,w2,w3⟩,_,w5⟩:=hs;refine⟨⟨fun h8=>?_,fun h8=>?_,fun h8=>absurd (h1.trans h8) hk⟩,fun h8=>absurd (h1.trans h8) hk,?_⟩
 .rw[<-h4];exact w1 (h1.trans h8)
 .have:=w2 (by rw [h1];exact h8)
  rw[this]at h5;exact qS.1 h5.symm
 .rw[<-h4,w5,h1]
theorem IffB.get {P:Prop}{r:V×List Obj}(h:IffB P r)(hp:P):r=(Aa true,[]):=by
 obtain⟨v,hv,rfl⟩:=h;rw[hv.2 hp]
variable {A:Ab}
abbrev u64V (n:Nat):V:=.sc (.c (.int .u64 n))
def F8 (n:Nat):List Cell:=[.int .u64 n]
def BV (d:List Nat):List (List Cell):=d.map F8
@[simp] theorem u64Row_len (n:Nat):(F8 n).length=1:=rfl
@[simp] theorem u64Rows_len (d:List Nat):(BV d).length=d.length:=by simp[BV]
@[simp] theorem u64Rows_get (d:List Nat) (i:Nat):(BV d)[i]?=(d[i]?).map F8:=by simp[BV]
@[simp] theorem okRows_u64 (d:List Nat):AP 1 (wr (BV d))=true:=Cu d u64Row_len
@[simp] theorem wc_u64 (n:Nat):wc (F8 n)=[.c (.int .u64 n)]:=rfl
@[simp] theorem u64Rows_snoc (d:List Nat) (x:Nat):wr (BV d)++[[W.c (.int .u64 x)]]=wr (BV (d++[x])):=by simp[BV,wr,F8]
@[simp] theorem u64_set (d:List Nat) (i x:Nat):setRow (wr (BV d)) i [W.c (.int .u64 x)]=wr (BV (d.set i x)):=by
 rw[setRow_set];simp[BV,wr,List.map_set,F8]
abbrev arrU (d:List Nat):Obj:=.arr 1 (wr (BV d)) 0
def Mn (a b:Nat)(d:List Nat):Prop:=∀(p q x y:Nat),a<=p->p<q->q<b->d[p]?=some x->d[q]?=some y->x<=y
def SortR (a b:Nat)(d e:List Nat):Prop:=e.Perm d/\(∀k,k<a\/b<=k->e[k]?=d[k]?)/\Mn a b e
def Zdk (a i j:Nat)(d:List Nat):Prop:=∀(p q x y:Nat),a<=p->p<q->q<=i->q≠j->d[p]?=some x->d[q]?=some y->x<=y
theorem Cp (a b:Nat):(K A).call 276 [u64V a,u64V b] []=some (Aa (decide (a<b)),[]):=by
 refine fnO v276 ?_;have h:∀n:Nat,(K A).call 296 [u64V n] []=some (Aa false,[]):=fun n=>by
  refine fnO v296 ?_;unfold v296;simp
 unfold v276;simp[h]
def retV:V:=.tu []
def Bc (d:List Nat):Nat->List Nat
 |0=>[]
 |m+1=>match d[m]? with
  |none=>Bc d m
  |some x=>if 0<m/\d[m-1]?=some x then Bc d m else Bc d m++[x]
theorem JE {d:List Nat}{m x:Nat}(h:d[m]?=some x)(hn:¬(0<m/\d[m-1]?=some x)):Bc d (m+1)=Bc d m++[x]:=by
 grind[Bc]
theorem Js {d:List Nat}{m x:Nat}(h:d[m]?=some x)(hm:0<m)(hn:d[m-1]?=some x):Bc d (m+1)=Bc d m:=by
 grind[Bc]
theorem QB (d:List Nat):∀m,(Bc d m).length<=m
 |0=>by simp[Bc]
 |m+1=>by
  have:=QB d m;grind[Bc]
theorem L0 {d:List Nat}{x:Nat}:∀{m:Nat},x∈Bc d m↔∃k,k<m/\d[k]?=some x
 |0=>by simp[Bc]
 |m+1=>by
  have ih:=@L0 d x m;cases h:d[m]? with
  |none=>
   grind[Bc]
  |some y=>
   by_cases hn:0<m/\d[m-1]?=some y;grind[Js]
   .rw [JE h hn,qz,ih]
    grind
def Ht (l:List Nat):Prop:=∀(p q x y:Nat),p<q->l[p]?=some x->l[q]?=some y->x<y
theorem Ye {l:List Nat}{x:Nat}(h:Ht l)(hx:∀y∈l,y<x):Ht (l++[x]):=by
 intro p q u v hpq hu hv;have hq:=(qf.1 hv).1;simp only[qI,List.length_singleton]at hq;rw[qK (by omega)]at hu;rcases qbf q l.length with h1|h1
 .rw [qK h1] at hv
  exact h p q u v hpq hu hv
 .rw [qH h1,show q-l.length=0 by omega] at hv
  cases hv;exact hx u (qd hu)
theorem OH {d:List Nat}(hs:Mn 0 d.length d):∀m,Ht (Bc d m)
 |0=>fun p q x y _ hx=>by simp[Bc]at hx
 |m+1=>by
  have ih:=OH hs m;cases h:d[m]? with
  |none=>grind[Bc]
  |some y=>
   by_cases hn:0<m/\d[m-1]?=some y;grind[Js]
   .rw [JE h hn]
    refine Ye ih fun u hu=>?_;obtain⟨k,hk,hx⟩:=L0.1 hu;have hm:=(qf.1 h).1;have h1:=hs k m u y (qai _) hk hm hx h;rcases Nat.lt_or_eq_of_le h1 with h2|h2
    omega
    .exfalso
     obtain⟨z,hz⟩:=Ag (l:=d) (i:=m-1) (by omega);have h3:z=y:=by
      have h4:=hs (m-1) m z y (qai _) (by omega) hm hz h;rcases qbf k (m-1)with h5|h5
      .have h6:=hs k (m-1) u z (qai _) h5 (by omega) hx hz
       omega
      grind
     grind
def bump (k i:Nat):Nat:=if i<=k then k+1 else k
def DP (l:List Nat)(k:Nat):Nat:=(l.filter fun j=>decide (j<k)).length
theorem PH:∀{l:List Nat}{k:Nat},l.Nodup->DP l (k+1)=DP l k+if k∈l then 1 else 0
 |[],k,_=>by rfl
 |a::l,k,h=>by
  have ih:=@PH l k (qbk.1 h).2;grind[DP]
theorem ZaX:∀{l:List Nat},Ht l->l.Nodup:=by
 intro l h;rw[List.nodup_iff_pairwise_ne];rw[List.pairwise_iff_getElem];intro i j hi hj hij heq;have:=h i j l[i] l[j] hij (qm hi) (qm hj);omega
theorem T9 {l:List Nat}(hl:Ht l)(n:Nat):∀t,t<=l.length->(((l.take t).foldl bump (n+1))=n+1+DP (l.take t) ((l.take t).foldl bump (n+1)))/\(l.take t).foldl bump (n+1)∉l.take t
 |0,_=>by simp[DP]
 |t+1,ht=>by
  obtain⟨h1,h2⟩:=T9 hl n t (by omega);obtain⟨c,hc⟩:=Ag (l:=l) (i:=t) (by omega);rw[Bn hc,qav,qaU,List.foldl_nil];generalize hk:(l.take t).foldl bump (n+1)=k at h1 h2;have hlt:∀x∈l.take t,x<c:=by
   intro x hx;obtain⟨i,hi⟩:=qj.1 hx;rw[qX]at hi;split at hi
   .rename_i hit
    exact hl i t x c hit hi hc
   grind
  unfold bump;by_cases hck:c<=k;grind[DP,List.filter_congr];grind[DP]
def Ct (taken:List Str)(a b:Nat):Nat:=((List.range b).filter fun j=>decide (a<=j/\AG j∉taken)).length
theorem FU (taken:List Str)(a b:Nat)(h:a<=b):Ct taken a (b+1)=Ct taken a b+if AG b∉taken then 1 else 0:=by
 grind[Ct,List.range_succ]
theorem Mc (taken:List Str)(a:Nat):Ct taken a a=0:=by
 grind[Ct,List.filter_eq_nil_iff]
theorem Nz (taken:List Str)(a:Nat):∀b,a<b->Ct taken a b=(if AG a∉taken then 1 else 0)+Ct taken (a+1) b
 |0,h=>by omega
 |b+1,h=>by
  rcases qbf a b with h1|h1
  .rw [FU _ _ _ (by omega),FU _ _ _ (by omega),Nz taken a b h1]
   omega
  grind[FU,Mc]
theorem Kw (taken:List Str):∀f k n,n+Di taken k<f->Ct taken k (Dx taken f k n)=n
 |0,k,n,h=>by omega
 |f+1,k,n,h=>by
  simp only[Dx];split
  .rename_i hm
   have h1:=Kw taken f (k+1) n (by grind[T3]);grind[GX,Nz]
  .rename_i hm
   split;grind[Mc]
   .have h1:=Kw taken f (k+1) (n-1) (by grind [Lc])
    grind[GX,Nz]
theorem QE (taken:List Str)(a:Nat):∀{b c},a<=b->b<=c->Ct taken a b<=Ct taken a c:=by
 intro b c hab hbc
 induction c<;>grind[FU]
theorem RK {taken:List Str}{n k:Nat}(h1:1<=k)(hk:AG k∉taken)(hc:Ct taken 1 k=n):Bo n taken=k:=by
 have hn:=F2 n taken;have hm:Ct taken 1 (Bo n taken)=n:=Kw taken _ _ _ (by grind[LH]);have h2:1<=Bo n taken:=GX taken _ 1 n;have hr:AG (Bo n taken)∉taken:=hn;generalize Bo n taken=r at hr hm h2 |-;rcases Nat.lt_trichotomy r k with h|h|h
 .have h3:=QE taken 1 (b:=r+1) (c:=k) (by omega) (by omega)
  grind[FU]
 omega
 .have h3:=QE taken 1 (b:=k+1) (c:=r) (by omega) (by omega)
  grind[FU]
theorem OO {e:Exp}{s:Str}:∀n,s∈outP e n->n<=e.children.length->∃(i:Nat)(x:Exp),e.children[i]?=some x/\s∈Ac x/\s∉e.bound i
 |0,h,_=>by simp[outP]at h
 |n+1,h,hn=>by
  obtain⟨x,hx⟩:=Ag (l:=e.children) (i:=n) (by omega);rw[Mu hx,Nl]at h;rcases h with h|h
  .exact OO n h (by omega)
  .exact⟨n,x,hx,h.1,h.2⟩
theorem BD {e:Exp}{s:Str}(hk:e.kind≠1):s∈Ac e↔∃(i:Nat)(x:Exp),e.children[i]?=some x/\s∈Ac x/\s∉e.bound i:=by
 constructor
 .intro h
  rw[FM,if_neg hk,<-MN]at h;exact OO _ h (qg _)
 .rintro ⟨i,x,hx,hs,hb⟩
  exact(X5 hk hx hs).resolve_left hb
theorem Cd {e:Exp}{s:Str}(hk:e.kind=1):s∈Ac e↔s=e.name:=by rw[FM,if_pos hk,qy]
theorem Iz {e:Exp}(h:e.wf1)(hk:e.kind=1):e.kids=[]/\e.arms=[]/\e.children=[]:=by
 have h1:=h.2.2 hk;have h2:=h.2.1 (by rw[hk];decide);exact⟨h1,h2,by simp[Exp.children,h1,h2]⟩
theorem G9 {a b:Exp}(h:sameP a b)(i:Nat):a.bound i=b.bound i:=by
 rw[DK]at h;obtain⟨h1,h2,_,_,_,h6,h7,_⟩:=h;rw[Bk,Bk,h1,h2];cases hp:a.arms[i-1]? with
 |none=>
  have:b.arms[i-1]?=none:=by rw[List.getElem?_eq_none_iff]at hp |-;omega
  rw[this]
 |some p=>
  obtain⟨q,hq⟩:=Ag (l:=b.arms) (i:=i-1) (by have:=(qf.1 hp).1;omega);rw[hq];simp only[qp,Option.getD_some,(h7 _ p q hp hq).2]
theorem Lp (a:Exp):∀b,sameP a b->sameP b a:=by
 induction a using Exp.ind with
 |h a ih=>
  intro b h;rw[DK]at h |-;obtain⟨h1,h2,h3,h4,h5,h6,h7,h8⟩:=h;exact⟨h1.symm,h2.symm,h3.symm,h4.symm,h5.symm,h6.symm,fun i p q hp hq=>⟨(h7 i q p hq hp).1.symm,(h7 i q p hq hp).2.symm⟩,fun i x y hx hy=>ih y (qd hy) x (h8 i y x hy hx)⟩
def nmN1 (e:Exp):Prop:=e.kind=1\/e.kind=2\/e.kind=4\/e.kind=6\/e.kind=7\/e.name=[]
def nmN (e:Exp):Prop:=e.fold fun e l=>nmN1 e/\∀p∈l,p
theorem Nf (e:Exp):nmN e=(nmN1 e/\∀x∈e.children,nmN x):=by
 have:=Exp.fold_eq (fun e (l:List Prop)=>nmN1 e/\∀p∈l,p) e;unfold nmN;rw[this];simp only[qN]
theorem nmN.one {e:Exp}(h:nmN e):nmN1 e:=by rw[Nf]at h;exact h.1
theorem nmN.child {e x:Exp}(h:nmN e)(hx:x∈e.children):nmN x:=by rw[Nf]at h;exact h.2 x hx
theorem rawE.nmN {ds:List DataD}{e:Exp}:rawE ds e->nmN e:=by
 induction e using Exp.ind with
 |h e ih=>
  intro h;rw[Nf];refine⟨?_,fun x hx=>ih x hx (h.child hx)⟩;obtain⟨_,_,_,_,_,h⟩:=h.one;unfold nmN1;rcases h with ⟨k,_⟩|⟨k,_⟩|⟨_,n,_⟩|⟨k,_⟩|⟨_,n,_⟩|⟨k,_⟩|⟨_,n,_⟩|⟨_,n,_⟩
  .exact .inl k
  .exact .inr (.inl k)
  .exact .inr (.inr (.inr (.inr (.inr n))))
  .exact .inr (.inr (.inl k))
  .exact .inr (.inr (.inr (.inr (.inr n))))
  .rcases k with k|k
   .exact .inr (.inr (.inr (.inl k)))
   .exact .inr (.inr (.inr (.inr (.inl k))))
  .exact .inr (.inr (.inr (.inr (.inr n))))
  .exact .inr (.inr (.inr (.inr (.inr n))))
abbrev Rep:=Str->Exp->Prop
def isVar (s:Str)(c:Exp):Prop:=c.kind=1/\c.name=s/\c.num=0/\c.ty=tz/\c.kids=[]/\c.arms=[]
def Rep.ext (V:Rep)(bs cs:List Str):Rep:=fun s c=>(s∈bs/\∃t,t∈cs/\rlast bs s=rlast cs t/\isVar t c)\/(s∉bs/\V s c/\∀u∈Ac c,u∉cs)
def Ud (a:Exp)(l:List (Exp->Rep->Prop))(c:Exp)(V:Rep):Prop:=
 (a.kind=1->V a.name c)/\(a.kind≠1->headEq a c/\(a.kind=2->a.name=c.name)/\GA a c/\∀(i:Nat) f y,l[i]?=some f->c.children[i]?=some y->f y (V.ext (a.bound i) (c.bound i)))
def instR (a:Exp):Exp->Rep->Prop:=a.fold Ud
theorem Kz (a c:Exp)(V:Rep):instR a c V=((a.kind=1->V a.name c)/\(a.kind≠1->headEq a c/\(a.kind=2->a.name=c.name)/\GA a c/\
 ∀(i:Nat) x y,a.children[i]?=some x->c.children[i]?=some y->instR x y (V.ext (a.bound i) (c.bound i)))):=by
 unfold instR;rw[Exp.fold_eq];unfold Ud;simp only[qq,qo];apply propext;refine and_congr_right fun _=>forall_congr' fun _=>and_congr_right fun _=>and_congr_right fun _=>and_congr_right fun _=>forall_congr' fun i=>?_;constructor;simp_all
 .rintro h f y ⟨x,hx,rfl⟩ hy
  grind
theorem instR.var {a c:Exp}{V:Rep}(h:instR a c V)(hk:a.kind=1):V a.name c:=by grind[Kz]
theorem instR.node {a c:Exp}{V:Rep}(h:instR a c V)(hk:a.kind≠1):headEq a c/\(a.kind=2->a.name=c.name)/\GA a c/\
 ∀(i:Nat) x y,a.children[i]?=some x->c.children[i]?=some y->instR x y (V.ext (a.bound i) (c.bound i)):=by grind[Kz]
theorem instR.mkVar {a c:Exp}{V:Rep}(hk:a.kind=1)(h:V a.name c):instR a c V:=by grind[Kz]
theorem instR.mk {a c:Exp}{V:Rep}(hk:a.kind≠1)(h:headEq a c/\(a.kind=2->a.name=c.name)/\GA a c/\
 ∀(i:Nat) x y,a.children[i]?=some x->c.children[i]?=some y->instR x y (V.ext (a.bound i) (c.bound i))):instR a c V:=by grind[Kz]
theorem isVar.free {s:Str}{c:Exp}(h:isVar s c):Ac c=[s]:=by rw[FM,if_pos h.1,h.2.1]
theorem isVar.inst {s:Str}{c d:Exp}{V:Rep}(h:isVar s c):instR c d V↔V s d:=
 ⟨fun hi=>h.2.1▸hi.var h.1,fun hv=>.mkVar h.1 (h.2.1.symm▸hv)⟩
theorem instR.mono (a:Exp):∀(c:Exp)(V W:Rep),instR a c V->(∀s∈Ac a,∀d,V s d->W s d)->instR a c W:=by
 induction a using Exp.ind with
 |h a ih=>
  intro c V W h hm;by_cases hk:a.kind=1
  .exact .mkVar hk (hm _ ((Cd hk).2 rfl) _ (h.var hk))
  .obtain ⟨h1,h2,h3,h4⟩:=h.node hk
   refine .mk hk ⟨h1,h2,h3,fun i x y hx hy=>ih x (qd hx) y _ _ (h4 i x y hx hy) fun s hs d hd=>?_⟩;rcases hd with hd|⟨q1,q2,q3⟩
   .exact .inl hd
   .exact .inr ⟨q1,hm s ((BD hk).2 ⟨i,x,hx,hs,q1⟩) d q2,q3⟩
theorem instR.free_from (a:Exp):∀(c:Exp)(V:Rep),shp1 a->(∀x∈a.children,shp x)->instR a c V->∀u∈Ac c,∃s∈Ac a,∃d,V s d/\u∈Ac d:=by
 induction a using Exp.ind with
 |h a ih=>
  intro c V hs1 hs h u hu;by_cases hk:a.kind=1
  .exact⟨a.name,(Cd hk).2 rfl,c,h.var hk,hu⟩
  .obtain ⟨h1,h2,h3,h4⟩:=h.node hk
   obtain⟨i,y,hy,huy,hub⟩:=(BD (h1.1▸hk)).1 hu;obtain⟨x,hx⟩:=Ag (l:=a.children) (i:=i) (by rw[h1.children];grind);have hmx:=qd hx;obtain⟨s,hs',d,hd,hud⟩:=ih x hmx y _ (hs x hmx).one (fun z hz=>(hs x hmx).child hz) (h4 i x y hx hy) u huy;rcases hd with ⟨_,t,ht,_,hv⟩|⟨q1,q2,_⟩
   .rw [hv.free,qy] at hud
    grind
   grind[BD]
theorem instR.free_to (a:Exp):∀(c:Exp)(V:Rep),instR a c V->∀s∈Ac a,∃d,V s d/\∀u∈Ac d,u∈Ac c:=by
 induction a using Exp.ind with
 |h a ih=>
  intro c V h s hs;by_cases hk:a.kind=1
  .rw [Cd hk] at hs
   subst hs;exact⟨c,h.var hk,fun u hu=>hu⟩
  .obtain ⟨h1,h2,h3,h4⟩:=h.node hk
   obtain⟨i,x,hx,hsx,hsb⟩:=(BD hk).1 hs;obtain⟨y,hy⟩:=Ag (l:=c.children) (i:=i) (by rw[<-h1.children];grind);obtain⟨d,hd,hf⟩:=ih x (qd hx) y _ (h4 i x y hx hy) s hsx;rcases hd with ⟨q,_⟩|⟨_,q2,q3⟩
   grind
   .exact⟨d,q2,fun u hu=>(BD (h1.1▸hk)).2 ⟨i,y,hy,hf u hu,q3 u hu⟩⟩
def Rep.comp (V W:Rep):Rep:=fun s d=>∃c,V s c/\shp c/\instR c d W
theorem Uq {V W:Rep}{bs cs ds:List Str}{s:Str}{c d:Exp}(h1:V.ext bs cs s c)(hc:shp c)(h2:instR c d (W.ext cs ds)):(V.comp W).ext bs ds s d:=by
 rcases h1 with ⟨hs,t,ht,hr,hv⟩|⟨hs,hv,hf⟩
 .rw [hv.inst] at h2
  rcases h2 with ⟨_,u,hu,hru,hvu⟩|⟨q,_⟩
  .exact .inl ⟨hs,u,hu,hr.trans hru,hvu⟩
  grind
 .have hm:instR c d W:=h2.mono _ _ _ _ fun u hu e he=>by
   rcases he with ⟨q,_⟩|⟨_,q,_⟩<;>grind
  refine .inr ⟨hs,⟨c,hv,hc,hm⟩,fun u hu hud=>?_⟩;obtain⟨t,ht,e,he,hue⟩:=instR.free_from c d _ hc.one (fun x hx=>hc.child hx) h2 u hu;rcases he with ⟨q,_⟩|⟨_,_,q⟩<;>grind
def Rep.ok (V:Rep):Prop:=∀s c,V s c->shp c
theorem isVar.shp {s:Str}{c:Exp}(h:isVar s c):shp c:=by
 obtain⟨k,_,n,t,ks,am⟩:=h;rw[B1];refine⟨⟨⟨fun h8=>by omega,fun _=>am,fun _=>ks⟩,fun _=>⟨n,t⟩,?_⟩,fun x hx=>?_⟩
 .rw [ks,k]
  rfl
 grind[Exp.children]
theorem Rep.ok.ext {V:Rep}(h:V.ok)(bs cs:List Str):(V.ext bs cs).ok:=by
 rintro s c (⟨_,t,_,_,hv⟩|⟨_,hv,_⟩)
 .exact hv.shp
 .exact h s c hv
theorem instR.comp (a:Exp):∀(c d:Exp)(V W:Rep),V.ok->instR a c V->instR c d W->instR a d (V.comp W):=by
 induction a using Exp.ind with
 |h a ih=>
  intro c d V W ho h h';by_cases hk:a.kind=1
  .exact .mkVar hk ⟨c,h.var hk,ho _ _ (h.var hk),h'⟩
  .obtain ⟨h1,h2,h3,h4⟩:=h.node hk
   have hkc:c.kind≠1:=h1.1▸hk;obtain⟨g1,g2,g3,g4⟩:=h'.node hkc;refine .mk hk ⟨⟨h1.1.trans g1.1,h1.2.1.trans g1.2.1,h1.2.2.1.trans g1.2.2.1,h1.2.2.2.1.trans g1.2.2.2.1,h1.2.2.2.2.trans g1.2.2.2.2⟩,fun k=>(h2 k).trans (g2 (h1.1▸k)),fun i p q hp hq=>?_,fun i x z hx hz=>?_⟩
   .obtain ⟨u,hu⟩:=Ag (l:=c.arms) (i:=i) (by have:=h1.2.2.2.2;grind)
    exact⟨(h3 i p u hp hu).1.trans (g3 i u q hu hq).1,(h3 i p u hp hu).2.trans (g3 i u q hu hq).2⟩
   .obtain ⟨y,hy⟩:=Ag (l:=c.children) (i:=i) (by rw [<-h1.children];grind)
    refine(ih x (qd hx) y z _ _ (ho.ext _ _) (h4 i x y hx hy) (g4 i y z hy hz)).mono _ _ _ _ fun s _ e he=>?_;obtain⟨b,hb,hsb,hbe⟩:=he;grind[Uq]
def ofR (R:Str->Str->Prop):Rep:=fun s c=>∃t,R s t/\isVar t c
def idV:Rep:=ofR fun s t=>s=t
theorem instR.refl (a:Exp):∀V:Rep,shp a->(∀s∈Ac a,∀c,isVar s c->V s c)->instR a a V:=by
 induction a using Exp.ind with
 |h a ih=>
  intro V hs h;by_cases hk:a.kind=1
  .obtain ⟨a1,a2,a3⟩:=Iz hs.one.1 hk
   obtain⟨n,t⟩:=hs.one.2.1 hk;exact .mkVar hk (h a.name ((Cd hk).2 rfl) a ⟨hk,rfl,n,t,a1,a2⟩)
  .refine .mk hk ⟨⟨rfl,rfl,rfl,rfl,rfl⟩,fun _=>rfl,fun i p q hp hq => ?_,fun i x y hx hy => ?_⟩
   grind
   .rw [hx] at hy
    cases hy;refine ih x (qd hx) _ (hs.child (qd hx)) fun s hsx c hc=>?_;by_cases hb:s∈a.bound i
    .exact .inl ⟨hb,s,hb,rfl,hc⟩
    .refine .inr ⟨hb,h s ((BD hk).2 ⟨i,x,hx,hsx,hb⟩) c hc,fun u hu => ?_⟩
     rw[hc.free,qy]at hu;grind
variable {A:Ab}
theorem Oj (e:Exp):e.wf->e.weight<=687194767360->(K A).call 49 [expV e] []=some (expV (Ai e),[]):=by
 induction e using Exp.ind with
 |h e ih=>
 intro hwf hl;refine fnO v49 ?_;have hle:=e.children_le;rw[e.children_len]at hle;have hml:(e.children.map Ai).length=e.children.length:=by simp
 have hw:=Gg (A:=A) e (e.children.map Ai) (by rw[hml,e.children_len]) hl;have hal:(AV e.arms ((e.children.map Ai).drop e.kids.length)).length=e.arms.length:=by rw[armsW_len,qaa,hml,e.children_len];omega
 rw[YQ]at hw;have hks:(Ai e).kids.length=e.kids.length:=(Gi e).2.2.2.2.1;have has:(Ai e).arms.length=e.arms.length:=(Gi e).2.2.2.2.2.1;have hsa:=UA e;generalize AV e.arms ((e.children.map Ai).drop e.kids.length)=ws at *
 have hpl:(CE ws).length=ws.length:=armsP_len ws;by_cases hkids:e.kids=[]
 .have harms:e.arms=[]:=qP fun h=>by
   have h8:e.kind=8:=qP fun h8=>h (hwf.one.2.1 h8);have:=hwf.one.1 h8;rw[hkids]at this;simp at this
  have hc:=DS (A:=A) e hkids harms;have hch:e.children=[]:=by simp[Exp.children,hkids,harms]
  rw[hch]at hw;simp only[qaf,exsV,rows0]at hw;unfold v49;simp(maxSteps:=9^7) (disch:=try exact zd) [hc,-getElem?_pos];refine Aq (fun i=>⟨[(1,.sc (.ptr 64 0)),(2,.sc (.ptr 128 0)),(3,.sc (.full [])),(9,.sc (.full [])),(10,intV 0),(11,intV i)],[(64,some (.box (wc e.row))),(128,some BL)]⟩) 0 (by simp) (fun i hi=>by omega) ?_;unfold HT;simp(maxSteps:=9^7) (disch:=try exact zd) [hw,hal,-getElem?_pos]
  refine Aq (fun i=>⟨[(1,.sc (.ptr 64 0)),(2,.sc (.ptr 128 0)),(28,intV e.arms.length),(29,intV i)],
   [(64,some (.box [.c (.int .i64 e.kind),zi,.c (.str e.name),.c (.int .i64 e.num),.arr 1696 e.kids.length,.arr 1697 e.arms.length,.c (.int .i64 e.ty.kind),.c (.str e.ty.name),.c (.int .i64 e.ty.id),.c (.int .i64 e.ty.home),.c (.sl (Ty.rows e.ty.args))])),(128,some BL),(1696,some (.arr 11 (wr (Exp.rows (Ai e).kids)) 0)),(1697,some (.arr 14 (wr (Exp.armRows ((CE ws).take i++ws.drop i))) 0))]⟩) e.arms.length ?_ ?_ ?_
  .simp
  .intro i hi
   obtain⟨a,ha⟩:=Ag (l:=ws) (i:=i) (by omega);have hz:(CE ws)[i]?=some ((⟨0,a.1.con,a.1.vars⟩:ArmH),a.2):=by
    unfold CE;rw[qq,ha];rfl
   have hg:=EP (i:=i) hpl (by omega);rw[ha]at hg;have hs:=EJ hpl hz;have hln:=EN (i:=i) hpl;rw[<-hs];generalize (CE ws).take i++ws.drop i=zz at hg hln |-;have hset:=Kk zz i ((⟨0,a.1.con,a.1.vars⟩:ArmH),a.2);have hsp:=SA a;have hln2:zz.length=e.arms.length:=(by omega);unfold IR;simp(maxSteps:=9^7) (disch:=try exact zd) [hi,hg,hln2,hsp,hset,BY,-getElem?_pos]
  .have ht:(CE ws).take e.arms.length++ws.drop e.arms.length=(Ai e).arms:=by
    rw[<-hal,qbg,qJ,qn (by omega),hsa]
   rw[ht];have hsr:=PU e;unfold IR;simp(maxSteps:=9^7) (disch:=try exact zd) [hsr,hks,has,-getElem?_pos]
 .have hc:=BQ (A:=A) e hkids hl
  rw[e.children_len]at hc;unfold v49;simp(maxSteps:=9^7) (disch:=try exact zd) [hc,-getElem?_pos];refine Aq (fun i=>⟨[(1,.sc (.ptr 64 0)),(2,.sc (.ptr 128 0)),(3,.sc (.arr 288 (e.kids.length+e.arms.length))),(9,.sc (.arr 288 (e.kids.length+e.arms.length))),(10,intV ((e.kids.length:Int)+e.arms.length)),(11,intV i)],
   [(64,some (.box (wc e.row))),(128,some BL),(288,some (.arr 11 (wr (Exp.rows ((e.children.map Ai).take i++e.children.drop i))) 0))]⟩) (e.kids.length+e.arms.length) ?_ ?_ ?_
  .simp
  .intro i hi
   obtain⟨x,hx⟩:=Ag (l:=e.children) (i:=i) (by rw[e.children_len];exact hi);have hmem:=qd hx;have hrec:=ih x hmem (hwf.child hmem) (by have:=Exp.child_lt hmem;omega);have hz:(e.children.map Ai)[i]?=some (Ai x):=(by simp[hx]);have hg:=EP (i:=i) hml (by rw[e.children_len];exact hi);rw[hx]at hg;have hs:=EJ hml hz;have hln:=EN (i:=i) hml;rw[<-hs]
   generalize (e.children.map Ai).take i++e.children.drop i=zz at hg hln |-;have hset:=Fu zz i (Ai x);have hi':(i:Int)<(e.kids.length:Int)+e.arms.length:=(by omega);rw[e.children_len]at hln;unfold HT;simp(maxSteps:=9^7) (disch:=try exact zd) [hi,hi',hg,hln,hrec,hset,BY,-getElem?_pos]
  .have ht:(e.children.map Ai).take (e.kids.length+e.arms.length)++e.children.drop (e.kids.length+e.arms.length)=e.children.map Ai:=by
    rw[qag (by simp),qJ,qn (by simp)]
   rw[ht];unfold HT;simp(maxSteps:=9^7) (disch:=try exact zd) [hw,hml,hal,-getElem?_pos];refine Aq (fun i=>⟨[(1,.sc (.ptr 64 0)),(2,.sc (.ptr 128 0)),(28,intV e.arms.length),(29,intV i)],
    [(64,some (.box [.c (.int .i64 e.kind),zi,.c (.str e.name),.c (.int .i64 e.num),.arr 1696 e.kids.length,.arr 1697 e.arms.length,.c (.int .i64 e.ty.kind),.c (.str e.ty.name),.c (.int .i64 e.ty.id),.c (.int .i64 e.ty.home),.c (.sl (Ty.rows e.ty.args))])),(128,some BL),(288,some (.arr 11 (wr (Exp.rows (e.children.map Ai))) (e.kids.length+e.arms.length))),(1696,some (.arr 11 (wr (Exp.rows (Ai e).kids)) 0)),(1697,some (.arr 14 (wr (Exp.armRows ((CE ws).take i++ws.drop i))) 0))]⟩) e.arms.length ?_ ?_ ?_
   .simp
   .intro i hi
    obtain⟨a,ha⟩:=Ag (l:=ws) (i:=i) (by omega);have hz:(CE ws)[i]?=some ((⟨0,a.1.con,a.1.vars⟩:ArmH),a.2):=by
     unfold CE;rw[qq,ha];rfl
    have hg:=EP (i:=i) hpl (by omega);rw[ha]at hg;have hs:=EJ hpl hz;have hln:=EN (i:=i) hpl;rw[<-hs];generalize (CE ws).take i++ws.drop i=zz at hg hln |-;have hset:=Kk zz i ((⟨0,a.1.con,a.1.vars⟩:ArmH),a.2);have hsp:=SA a;have hln2:zz.length=e.arms.length:=(by omega);unfold IR;simp(maxSteps:=9^7) (disch:=try exact zd) [hi,hg,hln2,hsp,hset,BY,-getElem?_pos]
   .have ht:(CE ws).take e.arms.length++ws.drop e.arms.length=(Ai e).arms:=by
     rw[<-hal,qbg,qJ,qn (by omega),hsa]
    rw[ht];have hsr:=PU e;unfold IR;simp(maxSteps:=9^7) (disch:=try exact zd) [hsr,hks,has,-getElem?_pos]
variable {A:Ab}
def ltN (x y:Nat):Bool:=decide (x<y)
theorem swoN:Sort.SWO ltN:=⟨fun x=>by simp[ltN],fun x y z h1 h2=>by simp only[ltN,decide_eq_true_eq]at *;omega,fun x y z h1 h2=>by simp only[ltN,decide_eq_false_iff_not]at *;omega⟩
theorem E8 (x y:Nat):ltN x y=decide (x<y):=rfl
abbrev arrA (d:Array Nat):Obj:=arrU d.toList
def Is (e:Array Nat)(l:List Nat):Prop:=e.toList=l
theorem AD {e:Array Nat}{l:List Nat}(h:Is e l){i:Nat}(hi:i<e.size):l[i]?=some e[i]! :=by
 cases h;rw[qah];simp[hi]
theorem Cb {e:Array Nat}{l:List Nat}(h:Is e l)(i j:Nat):Is (Sort.swp e i j) ((l.set i e[j]!).set j e[i]!):=by
 cases h;unfold Is;simp[Sort.swp]
theorem AH {e:Array Nat}{l:List Nat}(h:Is e l):l.length=e.size:=by cases h;simp
theorem isEq {e:Array Nat}{l:List Nat}(h:Is e l):e.toList=l:=h
@[simp] theorem swp_size (d:Array Nat) (i j:Nat):(Sort.swp d i j).size=d.size:=by simp[Sort.swp]
theorem Zca {a j:Nat}(e:Array Nat)(h:a<j):Sort.insInner ltN a j e=if e[j]! < e[j-1]! then Sort.insInner ltN a (j-1) (Sort.swp e j (j-1)) else e:=by
 obtain⟨k,rfl⟩:∃k,j=k+1:=⟨j-1,by omega⟩;rw[Sort.insInner];simp only[qa7,ltN,h,decide_true,Bool.true_and,decide_eq_true_eq,gt_iff_lt]
theorem WN {a:Nat}(e:Array Nat):Sort.insInner ltN a a e=e:=by
 cases a with
 |zero=>rw[Sort.insInner]
 |succ a=>rw[Sort.insInner];simp
theorem Zcz (d:Array Nat)(a b:Nat)(hab:a<=b)(hb:b<=d.size)(hl:d.size<=687194767360):
 (K A).call 270 [.sc (.arr 0 d.size),intV a,intV b] [arrA d]=some (retV,[arrA (Sort.insertionSort ltN d a b)]):=by
 generalize hR:Sort.insertionSort ltN d a b=R;unfold Sort.insertionSort at hR;have hd:Is d d.toList:=rfl;generalize hn:d.size=n at *
 refine fnO v270 ?_;unfold v270;by_cases h0:a=b
 .subst h0
  rw[Sort.insOuter,if_neg (by omega)]at hR;subst hR;have h1:¬(a:Int)+1<a:=by omega
  simp(disch:=try exact zd);refine AW (fun i s=>s=⟨[(0,.sc (.arr 0 n)),(1,intV a),(2,intV a),(6,intV ((a:Int)+1))],[(0,some (arrU d.toList))]⟩) 0 (by simp) (fun i s hi=>by omega) ?_;rintro s rfl;unfold Kx;simp(disch:=try exact zd) [h1,retV]
 .simp (disch:=try exact zd)
  refine AW (fun i s=>∃(e:Array Nat) (l:List Nat),Is e l/\e.size=n/\Sort.insOuter ltN a b (a+1+i) e=R/\s=⟨[(0,.sc (.arr 0 n)),(1,intV a),(2,intV b),(6,intV ((a+1+i:Nat):Int))],[(0,some (arrU l))]⟩) (b-(a+1))
   ⟨d,d.toList,hd,hn,hR,by simp⟩ ?_ ?_
  .rintro i s hi ⟨e,l,hel,he,hR,rfl⟩
   generalize hi0:a+1+i=i0 at *
   have hi1:(a:Int)+1+(i+1)=(i0:Int)+1:=(by omega);have hib:(i0:Int)<b:=(by omega);have hll:=AH hel;rw[Sort.insOuter,if_pos (by omega)]at hR;unfold Kx;simp(disch:=try exact zd) [hib];refine AW (fun r s=>∃(e2:Array Nat) (l2:List Nat),Is e2 l2/\e2.size=n/\Sort.insOuter ltN a b (i0+1) (Sort.insInner ltN a (i0-r) e2)=R/\
    s=⟨[(0,.sc (.arr 0 n)),(1,intV a),(2,intV b),(6,intV i0),(7,intV ((i0-r:Nat):Int))],[(0,some (arrU l2))]⟩) (i0-a)
    ⟨e,l,hel,he,hR,by simp⟩ ?_ ?_
   .rintro r s hr ⟨e2,l2,hel2,he2,hR2,rfl⟩
    generalize hj:i0-r=j at *
    have hx:=AD hel2 (i:=j) (by omega);have hy:=AD hel2 (i:=j-1) (by omega);have hsw:=Cb hel2 j (j-1);rw[Zca e2 (by omega)]at hR2;have hl2:=AH hel2;generalize e2[j]! = x at *
    generalize e2[j-1]! = y at *
    have hja:(a:Int)<j:=(by omega);have hj1:(j:Int)-1=((j-1:Nat):Int):=(by omega);have hless:=Cp (A:=A) x y;have hjl:j<l2.length:=(by omega);have hjl2:j-1<l2.length:=(by omega);unfold KM;by_cases hxy:x<y
    .rw [if_pos hxy] at hR2
     simp(maxSteps:=9^7) (disch:=try exact zd) [hja,hj1,hx,hy,hl2,he2,hless,hxy,-getElem?_pos];have e1:i0-(r+1)=j-1:=(by omega);exact⟨_,_,hsw,by simp[he2],by rw[e1];exact hR2,by simp[e1]⟩
    .rw [if_neg hxy] at hR2
     simp(maxSteps:=9^7) (disch:=try exact zd) [hja,hj1,hx,hy,hl2,he2,hless,hxy,-getElem?_pos];refine⟨e2,l2,hel2,he2,?_,?_⟩
     .rw [show a+1+(i+1)=i0+1 by omega]
      exact hR2
     .simp[hi1]
   .rintro s ⟨e2,l2,hel2,he2,hR2,rfl⟩
    have hja:i0-(i0-a)=a:=(by omega);rw[hja,WN]at hR2;rw[hja];unfold KM;simp(maxSteps:=9^7) (disch:=try exact zd) [-getElem?_pos];refine⟨e2,l2,hel2,he2,?_,?_⟩
    .rw [show a+1+(i+1)=i0+1 by omega]
     exact hR2
    .simp[hi1]
  .rintro s ⟨e,l,hel,he,hR,rfl⟩
   have hbe:a+1+(b-(a+1))=b:=(by omega);rw[hbe,Sort.insOuter,if_neg (by omega)]at hR;subst hR;rw[hbe];unfold Kx;simp(disch:=try exact zd) [retV,isEq hel]
theorem Kd {hi first root:Nat}(d:Array Nat)(h:2*root+1>=hi):Sort.siftDown ltN hi first root d=d:=by
 rw[Sort.siftDown,dif_pos h]
theorem Rk {hi first root:Nat}(d:Array Nat)(h:2*root+2<hi)(hlt:d[first+(2*root+1)]! < d[first+(2*root+2)]!):
 Sort.siftDown ltN hi first root d=if d[first+root]! < d[first+(2*root+2)]! then Sort.siftDown ltN hi first (2*root+2) (Sort.swp d (first+root) (first+(2*root+2))) else d:=by
 rw[Sort.siftDown,dif_neg (by omega),show 2*root+1+1=2*root+2 by omega,show first+(2*root+1)+1=first+(2*root+2) by omega];simp only[ltN,h,hlt,decide_true,Bool.and_self,if_true,dite_true];by_cases h2:d[first+root]! < d[first+(2*root+2)]!
 .simp[h2]
 .simp[h2]
theorem TY {hi first root:Nat}(d:Array Nat)(h:2*root+1<hi)(hlt:¬(2*root+2<hi/\d[first+(2*root+1)]! < d[first+(2*root+2)]!)):
 Sort.siftDown ltN hi first root d=if d[first+root]! < d[first+(2*root+1)]! then Sort.siftDown ltN hi first (2*root+1) (Sort.swp d (first+root) (first+(2*root+1))) else d:=by
 rw[Sort.siftDown,dif_neg (by omega),show 2*root+1+1=2*root+2 by omega,show first+(2*root+1)+1=first+(2*root+2) by omega];have hc:(decide (2*root+2<hi)&&ltN d[first+(2*root+1)]! d[first+(2*root+2)]!)=false:=by
  rw[ltN,<-Bool.decide_and,decide_eq_false_iff_not];exact hlt
 rw[hc];simp only[qu,if_false,ltN];by_cases h2:d[first+root]! < d[first+(2*root+1)]!
 .simp[h2]
 .simp[h2]
theorem W9 (d:Array Nat)(lo hi first:Nat)(hh:first+hi<=d.size)(hlo:lo<=687194767360)(hl:d.size<=687194767360):
 (K A).call 291 [.sc (.arr 0 d.size),intV lo,intV hi,intV first] [arrA d]=some (retV,[arrA (Sort.siftDown ltN hi first lo d)]):=by
 generalize hR:Sort.siftDown ltN hi first lo d=R
 have hd:Is d d.toList:=rfl;generalize hn:d.size=n at *
 refine fnO v291 ?_;unfold v291;simp(disch:=try exact zd);refine AW (fun r s=>∃(root:Nat) (e:Array Nat) (l:List Nat),Is e l/\e.size=n/\Sort.siftDown ltN hi first root e=R/\r<=root/\root<=687194767360/\
  s=⟨[(0,.sc (.arr 0 n)),(2,intV hi),(3,intV first),(8,intV root)],[(0,some (arrU l))]⟩) hi
  ⟨lo,d,d.toList,hd,hn,hR,qai _,hlo,by simp⟩ ?_ ?_
 .rintro r s hr ⟨root,e,l,hel,he,hR,hrr,hrl,rfl⟩
  have hll:=AH hel;unfold NP;by_cases hstop:hi<=2*root+1
  .rw [Kd e hstop] at hR
   subst hR;have hs:(hi:Int)<=2*root+1:=(by omega);simp(maxSteps:=9^7) (disch:=try exact zd) [hs,retV,isEq hel,hll,he,-getElem?_pos]
  .have hs:¬(hi:Int)<=2*root+1:=by omega
   have hz:=AD hel (i:=first+root) (by omega);have hx:=AD hel (i:=first+(2*root+1)) (by omega);generalize hc:2*root+1=c at *
   have hcI:2*(root:Int)+1=c:=(by omega);have hsN:¬hi<=c:=(by omega);generalize hp0:first+root=p0 at *
   generalize hp:first+c=p at *
   have hp0I:(first:Int)+root=p0:=(by omega);have hpI:(first:Int)+c=p:=(by omega);have hp0l:p0<l.length:=(by omega);have hpl:p<l.length:=(by omega);by_cases hr2:c+1<hi/\e[p]! < e[p+1]!
   .obtain ⟨h1,h2⟩:=hr2
    have hy:=AD hel (i:=p+1) (by omega);have hsw:=Cb hel p0 (p+1);have hR2:=Rk (first:=first) (root:=root) e (by omega:2*root+2<hi) (by rw[show 2*root+2=c+1 by omega,show 2*root+1=c by omega,hp,show first+(c+1)=p+1 by omega];exact h2);rw[hR,hp0,show 2*root+2=c+1 by omega,show first+(c+1)=p+1 by omega]at hR2;have hless:=Cp (A:=A) e[p]! e[p+1]!;have hless2:=Cp (A:=A) e[p0]! e[p+1]!
    generalize e[p0]! = z at *
    generalize e[p]! = x at *
    generalize e[p+1]! = y at *
    have h1I:(c:Int)+1<hi:=(by omega);have hpI2:(first:Int)+(c+1)=((p+1:Nat):Int):=(by omega);have hpI3:(p:Int)+1=((p+1:Nat):Int):=(by omega);generalize hq:p+1=q at *
    have hql:q<l.length:=(by omega);by_cases hzy:z<y
    .rw [if_pos hzy] at hR2
     simp(maxSteps:=9^7) (disch:=try exact zd) [hs,hsN,hcI,hp0I,hpI,hpI2,hpI3,h1I,h2,hx,hy,hz,hll,he,hless,hless2,hzy,-getElem?_pos];exact⟨c+1,_,_,hsw,by simp[he],hR2.symm,by omega,by omega,by simp⟩
    .rw [if_neg hzy] at hR2
     subst hR2;simp(maxSteps:=9^7) (disch:=try exact zd) [hs,hsN,hcI,hp0I,hpI,hpI2,hpI3,h1I,h2,hx,hy,hz,hll,he,hless,hless2,hzy,retV,isEq hel,-getElem?_pos]
   .have hsw:=Cb hel p0 p
    have hR2:=TY (first:=first) (root:=root) e (by omega:2*root+1<hi) (by rw[show 2*root+2=c+1 by omega,show 2*root+1=c by omega,hp,show first+(c+1)=p+1 by omega];exact hr2);rw[hR,hp0,show 2*root+1=c by omega,hp]at hR2;have hless2:=Cp (A:=A) e[p0]! e[p]!;by_cases h1:c+1<hi
    .have h2:¬e[p]! < e[p+1]! := fun h=>hr2 ⟨h1,h⟩
     have hy:=AD hel (i:=p+1) (by omega);have hless:=Cp (A:=A) e[p]! e[p+1]!;clear hr2;generalize e[p0]! = z at *
     generalize e[p]! = x at *
     generalize e[p+1]! = y at *
     have h1I:(c:Int)+1<hi:=(by omega);have hpI2:(first:Int)+(c+1)=((p+1:Nat):Int):=(by omega);have hpI3:(p:Int)+1=((p+1:Nat):Int):=(by omega);generalize hq:p+1=q at *
     have hql:q<l.length:=(by omega);by_cases hzy:z<x
     .rw [if_pos hzy] at hR2
      simp(maxSteps:=9^7) (disch:=try exact zd) [hs,hsN,hcI,hp0I,hpI,hpI2,hpI3,h1I,h2,hx,hy,hz,hll,he,hless,hless2,hzy,-getElem?_pos];exact⟨c,_,_,hsw,by simp[he],hR2.symm,by omega,by omega,by simp⟩
     .rw [if_neg hzy] at hR2
      subst hR2;simp(maxSteps:=9^7) (disch:=try exact zd) [hs,hsN,hcI,hp0I,hpI,hpI2,hpI3,h1I,h2,hx,hy,hz,hll,he,hless,hless2,hzy,retV,isEq hel,-getElem?_pos]
    .clear hr2
     generalize e[p0]! = z at *
     generalize e[p]! = x at *
     have h1I:¬(c:Int)+1<hi:=(by omega);by_cases hzy:z<x
     .rw [if_pos hzy] at hR2
      simp(maxSteps:=9^7) (disch:=try exact zd) [hs,hsN,hcI,hp0I,hpI,h1I,hx,hz,hll,he,hless2,hzy,-getElem?_pos];exact⟨c,_,_,hsw,by simp[he],hR2.symm,by omega,by omega,by simp⟩
     .rw [if_neg hzy] at hR2
      subst hR2;simp(maxSteps:=9^7) (disch:=try exact zd) [hs,hsN,hcI,hp0I,hpI,h1I,hx,hz,hll,he,hless2,hzy,retV,isEq hel,-getElem?_pos]
 .rintro s ⟨root,e,l,hel,he,hR,hrr,hrl,rfl⟩
  have hll:=AH hel;rw[Kd e (by omega)]at hR;subst hR;have hs:(hi:Int)<=2*root+1:=by omega
  unfold NP;simp(maxSteps:=9^7) (disch:=try exact zd) [hs,retV,isEq hel,hll,he,-getElem?_pos]
variable {A:Ab}
theorem Lg (hi first:Nat):∀(k root:Nat)(d:Array Nat),hi-root<=k->(Sort.siftDown ltN hi first root d).size=d.size
 |0,root,d,h=>by rw[Kd d (by omega)]
 |k+1,root,d,h=>by
  by_cases h1:2*root+1>=hi
  .rw[Kd d h1]
  .by_cases h2:2*root+2<hi/\d[first+(2*root+1)]! < d[first+(2*root+2)]!
   .rw [Rk d h2.1 h2.2]
    split
    .rw[Lg hi first k _ _ (by omega),swp_size]
    .rfl
   .rw [TY d (by omega) h2]
    split
    .rw[Lg hi first k _ _ (by omega),swp_size]
    .rfl
@[simp] theorem siftDown_size (hi first root:Nat) (d:Array Nat):(Sort.siftDown ltN hi first root d).size=d.size:=Lg hi first _ root d (qg _)
theorem R0 {e:Array Nat}{l:List Nat}(h:Is e l){n:Nat}(hn:e.size=n)(lo hi first:Nat)(hh:first+hi<=n)(hlo:lo<=687194767360)(hl:n<=687194767360):
 (K A).call 291 [.sc (.arr 0 n),intV lo,intV hi,intV first] [arrU l]=some (retV,[arrU (Sort.siftDown ltN hi first lo e).toList]):=by
 cases h;subst hn;exact W9 e lo hi first hh hlo hl
theorem ZbV (d:Array Nat)(a b:Nat)(hab:a<b)(hb:b<=d.size)(hl:d.size<=687194767360):
 (K A).call 271 [.sc (.arr 0 d.size),intV a,intV b] [arrA d]=some (retV,[arrA (Sort.heapSort ltN d a b)]):=by
 generalize hR:Sort.heapSort ltN d a b=R;unfold Sort.heapSort at hR;have hd:Is d d.toList:=rfl;generalize hn:d.size=n at *
 refine fnO v271 ?_;unfold v271;generalize hh:b-a=hi at *
 have hhI:(b:Int)-a=hi:=by omega
 have hm1:(hi:Int)-1=((hi-1:Nat):Int):=by omega
 have hq:Int.tdiv ((hi-1:Nat):Int) 2=(((hi-1) / 2:Nat):Int):=by
  rw[qaR (by omega)];omega
 generalize hk:(hi-1) / 2=k0 at *
 simp(disch:=try exact zd) [hhI,hm1,hq];refine AW (fun r s=>∃(e:Array Nat) (l:List Nat),Is e l/\e.size=n/\Sort.heapPop ltN a hi (Sort.heapBuild ltN hi a (k0+1-r) e)=R/\
  s=⟨[(0,.sc (.arr 0 n)),(6,intV a),(7,intV 0),(8,intV hi),(9,intV ((k0:Int)-r))],[(0,some (arrU l))]⟩) (k0+1)
  ⟨d,d.toList,hd,hn,by rw[<-hR,Nat.sub_zero],by simp⟩ ?_ ?_
 .rintro r s hr ⟨e,l,hel,he,hR,rfl⟩
  obtain⟨i,hi1⟩:∃i,k0+1-r=i+1:=⟨k0-r,by omega⟩;rw[hi1,Sort.heapBuild]at hR;have hiI:(k0:Int)-r=(i:Int):=by omega
  have hs:=R0 (A:=A) hel he i hi a (by omega) (by omega) (by omega);have hsz:(Sort.siftDown ltN hi a i e).size=n:=by simp[he]
  rw[hiI];generalize hg:Sort.siftDown ltN hi a i e=g at *
  have hgl:g.toList.length=n:=by simp[hsz]
  unfold Kt;simp(disch:=try exact zd) [hs,AH hel,he,hsz,retV,V.ren];refine⟨g,g.toList,rfl,hsz,?_,?_⟩
  .rw [show k0-r=i by omega]
   exact hR
  .simp
   omega
 .rintro s ⟨e,l,hel,he,hR,rfl⟩
  rw[show k0+1-(k0+1)=0 by omega,Sort.heapBuild]at hR;have hneg:¬(0:Int)<=(k0:Int)-((k0+1:Nat):Int):=by omega
  have hneg2:(k0:Int)-((k0:Int)+1)=-1:=by omega
  unfold Kt;simp(disch:=try exact zd) [hneg,hneg2,hm1];refine AW (fun r s=>∃(e:Array Nat) (l:List Nat),Is e l/\e.size=n/\Sort.heapPop ltN a (hi-r) e=R/\
   s=⟨[(0,.sc (.arr 0 n)),(6,intV a),(7,intV 0),(10,intV ((hi:Int)-1-r))],[(0,some (arrU l))]⟩) hi
   ⟨e,l,hel,he,hR,by simp;omega⟩ ?_ ?_
  .rintro r s hr ⟨e,l,hel,he,hR,rfl⟩
   obtain⟨i,hi1⟩:∃i,hi-r=i+1:=⟨hi-r-1,by omega⟩;rw[hi1,Sort.heapPop]at hR;have hiI:(hi:Int)-1-r=(i:Int):=(by omega);rw[hiI];have hx:=AD hel (i:=a) (by omega);have hy:=AD hel (i:=a+i) (by omega);have hsw:=Cb hel a (a+i);have hpI:(a:Int)+i=((a+i:Nat):Int):=(by omega);have hs:=R0 (A:=A) hsw (by simp[he]) 0 i a (by omega) (by omega) (by omega:n<=_)
   have hsz:(Sort.siftDown ltN i a 0 (Sort.swp e a (a+i))).size=n:=(by simp[he]);have h00:((0:Nat):Int)=0:=rfl;rw[h00]at hs;generalize hp:a+i=p at *
   generalize e[a]! = x at *
   generalize e[p]! = y at *
   have hpl:p<l.length:=(by rw[AH hel];omega);have hal:a<l.length:=(by rw[AH hel];omega);generalize hg:Sort.siftDown ltN i a 0 (Sort.swp e a p)=g at *
   have hgl:g.toList.length=n:=(by simp[hsz]);obtain⟨v,hv⟩:=Ag (l:=l.set a y) (i:=p) (by simp;omega);unfold Ln;simp(maxSteps:=9^7) (disch:=try exact zd) [hv,hx,hy,hpI,hs,AH hel,he,hsz,retV,V.ren,-getElem?_pos];refine⟨g,g.toList,rfl,hsz,?_,?_⟩
   .rw [show hi-(r+1)=i by omega]
    exact hR
   .simp
    omega
  .rintro s ⟨e,l,hel,he,hR,rfl⟩
   rw[qaN,Sort.heapPop]at hR;subst hR;have hneg:¬(0:Int)<=(hi:Int)-1-hi:=(by omega);have hneg3:(hi:Int)-1-hi=-1:=(by omega);unfold Ln;simp(maxSteps:=9^7) (disch:=try exact zd) [hneg,hneg3,retV,isEq hel]
theorem Zcp (d:Array Nat)(a b:Nat)(hab:a<b)(hb:b<=d.size)(hl:d.size<=687194767360):
 (K A).call 274 [.sc (.arr 0 d.size),intV a,intV b] [arrA d]=some (retV,[arrA (Sort.reverseRange d a b)]):=by
 generalize hR:Sort.reverseRange d a b=R;unfold Sort.reverseRange at hR;have hd:Is d d.toList:=rfl;generalize hn:d.size=n at *
 refine fnO v274 ?_;unfold v274;have hb1:(b:Int)-1=((b-1:Nat):Int):=by omega
 simp(disch:=try exact zd) [hb1];refine AW (fun r s=>∃(i j:Nat) (e:Array Nat) (l:List Nat),Is e l/\e.size=n/\Sort.reverseLoop i j e=R/\j+r<=b-1/\i<=b/\
  s=⟨[(0,.sc (.arr 0 n)),(6,intV i),(7,intV j)],[(0,some (arrU l))]⟩) b
  ⟨a,b-1,d,d.toList,hd,hn,hR,by omega,by omega,by simp⟩ ?_ ?_
 .rintro r s hr ⟨i,j,e,l,hel,he,hR,hj,hib,rfl⟩
  rw[Sort.reverseLoop]at hR;unfold Ue;by_cases hij:i<j
  .rw [if_pos hij] at hR
   have hx:=AD hel (i:=i) (by omega);have hy:=AD hel (i:=j) (by omega);have hsw:=Cb hel i j;generalize e[i]! = x at *
   generalize e[j]! = y at *
   have hil:i<l.length:=(by rw[AH hel];omega);have hjl:j<l.length:=(by rw[AH hel];omega);have hj1:(j:Int)-1=((j-1:Nat):Int):=(by omega);simp(maxSteps:=9^7) (disch:=try exact zd) [hij,hx,hy,hj1,AH hel,he,-getElem?_pos];exact⟨i+1,j-1,_,_,hsw,by simp[he],hR,by omega,by omega,by simp⟩
  .rw [if_neg hij] at hR
   subst hR;simp(maxSteps:=9^7) (disch:=try exact zd) [hij,retV,isEq hel]
 .rintro s ⟨i,j,e,l,hel,he,hR,hj,hib,rfl⟩
  omega
end Go.Vs.Tryz
namespace Go.Vs
open Go
def shlI (k:IntKind)(a b:Int):Int:=k.wrap (a*2 ^ (min b.toNat k.bits))
def xorI (k:IntKind)(a b:Int):Int:=k.wrap (BitVec.ofInt k.bits a ^^^ BitVec.ofInt k.bits b).toNat
@[simp] theorem b_shl {k k':IntKind} {a b:Int} (h:0<=b):binV .shl 0 (.sc (.c (.int k a))) (.sc (.c (.int k' b)))=some (.sc (.c (.int k (shlI k a b))),[]):=by
 simp[binV,binW,Bq,GM,Int.not_lt.2 h,shlI]
@[simp] theorem b_xor {k:IntKind} {a b:Int}:binV .xor 0 (.sc (.c (.int k a))) (.sc (.c (.int k b)))=some (.sc (.c (.int k (xorI k a b))),[]):=by simp[binV,binW,Bq,B7,xorI]
theorem Dl (n:Nat)(h:n<18446744073709551616):IntKind.u64.wrap (n:Int)=n:=by
 unfold IntKind.wrap;simp[IntKind.bits,IntKind.signed];omega
theorem SU (x:UInt64)(k:Nat)(hk:k<64)(y:UInt64)(hy:y.toNat=k):shlI .u64 x.toNat (k:Int)=((x <<< y).toNat:Int):=by
 unfold shlI;rw[UInt64.toNat_shiftLeft,hy,qal hk,Nat.shiftLeft_eq,qau,show min k IntKind.u64.bits=k from qbb (qbh hk)];unfold IntKind.wrap;simp[IntKind.bits,IntKind.signed]
theorem Zai (x:UInt64)(k:Nat)(hk:k<64)(y:UInt64)(hy:y.toNat=k):shrI .u64 x.toNat (k:Int)=((x >>> y).toNat:Int):=by
 unfold shrI;rw[UInt64.toNat_shiftRight,hy,qal hk,Nat.shiftRight_eq_div_pow,qau,show min k IntKind.u64.bits=k from qbb (qbh hk)];rw[Int.fdiv_eq_ediv_of_nonneg _ (Int.le_of_lt (Int.pow_pos (by decide)))];simp
theorem ZcO (x y:UInt64):xorI .u64 x.toNat y.toNat=((x ^^^ y).toNat:Int):=by
 unfold xorI;have e:∀z:UInt64,BitVec.ofInt IntKind.u64.bits (z.toNat:Int)=z.toBitVec:=fun z=>by
  rw[BitVec.ofInt_natCast];apply BitVec.eq_of_toNat_eq;rw[BitVec.toNat_ofNat];exact qal z.toNat_lt
 rw[e,e];exact Dl _ (x ^^^ y).toNat_lt
theorem Zbv (a b:Nat)(ha:a<18446744073709551616)(hb:b<18446744073709551616):andI .u64 a b=((a &&& b:Nat):Int):=by
 unfold andI;rw[BitVec.ofInt_natCast,BitVec.ofInt_natCast,BitVec.toNat_and,BitVec.toNat_ofNat,BitVec.toNat_ofNat];rw[show 2 ^ IntKind.u64.bits=18446744073709551616 from rfl,qal ha,qal hb];exact Dl _ (Nat.lt_of_le_of_lt Nat.and_le_left ha)
end Go.Vs
namespace Go.Vs.Tryz
open Go Go.Vs
variable {A:Ab}
abbrev boxI (s:Nat):Obj:=.box [.c (.int .i64 (s:Int))]
theorem NF {e:Array Nat}{l:List Nat}(h:Is e l){n:Nat}(hn:e.size=n)(a b s:Nat)(ha:a<n)(hb:b<n)(hs:s<=1000)(hl:n<=687194767360):
 (K A).call 301 [.sc (.arr 0 n),intV a,intV b,.sc (.ptr 1 0)] [arrU l,boxI s]=
   some (.tu [intV (Sort.order2 ltN e a b s).1,intV (Sort.order2 ltN e a b s).2.1],[arrU l,boxI (Sort.order2 ltN e a b s).2.2]):=by
 have hx:=AD h (i:=a) (by omega);have hy:=AD h (i:=b) (by omega);have hll:=AH h;have hless:=Cp (A:=A) e[b]! e[a]!;unfold Sort.order2;generalize e[a]! = x at *
 generalize e[b]! = y at *
 rw[E8];have hal:a<l.length:=by omega
 have hbl:b<l.length:=by omega
 refine fnO v301 ?_;unfold v301;by_cases hlt:y<x
 .simp only [hlt,decide_true,if_true]
  simp(maxSteps:=9^7) (disch:=try exact zd) [hx,hy,hll,hn,hless,hlt,-getElem?_pos]
 .simp only [hlt,decide_false,qu,if_false]
  simp(maxSteps:=9^7) (disch:=try exact zd) [hx,hy,hll,hn,hless,hlt,-getElem?_pos]
theorem Mb (e:Array Nat){a b s n:Nat}(ha:a<n)(hb:b<n):(Sort.order2 ltN e a b s).1<n/\(Sort.order2 ltN e a b s).2.1<n/\(Sort.order2 ltN e a b s).2.2<=s+1:=by
 unfold Sort.order2;split
 .exact⟨hb,ha,qg _⟩
 .exact⟨ha,hb,Nat.le_succ _⟩
theorem MQ {e:Array Nat}{l:List Nat}(h:Is e l){n:Nat}(hn:e.size=n)(a b c s:Nat)(ha:a<n)(hb:b<n)(hc:c<n)(hs:s<=900)(hl:n<=687194767360):
 (K A).call 295 [.sc (.arr 0 n),intV a,intV b,intV c,.sc (.ptr 1 0)] [arrU l,boxI s]=some (intV (Sort.median ltN e a b c s).1,[arrU l,boxI (Sort.median ltN e a b c s).2])/\
   (Sort.median ltN e a b c s).1<n/\(Sort.median ltN e a b c s).2<=s+3:=by
 unfold Sort.median;have h1:=NF (A:=A) h hn a b s ha hb (by omega) hl;obtain⟨p1,p2,p3⟩:=Mb (s:=s) e ha hb;generalize Sort.order2 ltN e a b s=r1 at *
 obtain⟨a1,b1,s1⟩:=r1;simp only at *
 have h2:=NF (A:=A) h hn b1 c s1 p2 hc (by omega) hl;obtain⟨q1,q2,q3⟩:=Mb (s:=s1) e p2 hc;generalize Sort.order2 ltN e b1 c s1=r2 at *
 obtain⟨b2,c2,s2⟩:=r2;simp only at *
 have h3:=NF (A:=A) h hn a1 b2 s2 p1 q1 (by omega) hl;obtain⟨t1,t2,t3⟩:=Mb (s:=s2) e p1 q1;generalize Sort.order2 ltN e a1 b2 s2=r3 at *
 obtain⟨a3,b3,s3⟩:=r3;simp only at *
 have hll:=AH h;refine⟨?_,t2,by omega⟩;refine fnO v295 ?_;unfold v295;simp(maxSteps:=9^7) (disch:=try exact zd) [h1,h2,h3,hll,hn,V.ren,-getElem?_pos]
theorem L9 {e:Array Nat}{l:List Nat}(h:Is e l){n:Nat}(hn:e.size=n)(a s:Nat)(ha1:1<=a)(ha:a+1<n)(hs:s<=900)(hl:n<=687194767360):
 (K A).call 294 [.sc (.arr 0 n),intV a,.sc (.ptr 1 0)] [arrU l,boxI s]=some (intV (Sort.medianAdjacent ltN e a s).1,[arrU l,boxI (Sort.medianAdjacent ltN e a s).2])/\
   (Sort.medianAdjacent ltN e a s).1<n/\(Sort.medianAdjacent ltN e a s).2<=s+3:=by
 unfold Sort.medianAdjacent;obtain⟨h1,h2,h3⟩:=MQ (A:=A) h hn (a-1) a (a+1) s (by omega) (by omega) ha hs hl;refine⟨?_,h2,h3⟩;have e1:(a:Int)-1=((a-1:Nat):Int):=by omega
 have e2:(a:Int)+1=((a+1:Nat):Int):=by omega
 generalize hp:a-1=p at *
 generalize hq:a+1=q at *
 generalize Sort.median ltN e p a q s=r at *
 have hll:=AH h;refine fnO v294 ?_;unfold v294;simp(maxSteps:=9^7) (disch:=try exact zd) [h1,e1,e2,hll,hn,V.ren,-getElem?_pos]
def Dh:Sort.Hint->Nat
 |.unknown=>0
 |.increasing=>1
 |.decreasing=>2
def pivR (e:Array Nat)(a b:Nat):Nat×Nat:=
 if b-a>=8 then
  if b-a>=50 then
   Sort.median ltN e (Sort.medianAdjacent ltN e (a+(b-a) / 4*1) 0).1 (Sort.medianAdjacent ltN e (a+(b-a) / 4*2) (Sort.medianAdjacent ltN e (a+(b-a) / 4*1) 0).2).1
    (Sort.medianAdjacent ltN e (a+(b-a) / 4*3) (Sort.medianAdjacent ltN e (a+(b-a) / 4*2) (Sort.medianAdjacent ltN e (a+(b-a) / 4*1) 0).2).2).1
    (Sort.medianAdjacent ltN e (a+(b-a) / 4*3) (Sort.medianAdjacent ltN e (a+(b-a) / 4*2) (Sort.medianAdjacent ltN e (a+(b-a) / 4*1) 0).2).2).2
  else Sort.median ltN e (a+(b-a) / 4*1) (a+(b-a) / 4*2) (a+(b-a) / 4*3) 0
 else (a+(b-a) / 4*2,0)
def Mr (s:Nat):Sort.Hint:=if s=0 then .increasing else if s=12 then .decreasing else .unknown
theorem Zcn (e:Array Nat)(a b:Nat):Sort.choosePivot ltN e a b=((pivR e a b).1,Mr (pivR e a b).2):=rfl
theorem ZR (s:Nat):Dh (Mr s)=if s=0 then 1 else if s=12 then 2 else 0:=by
 unfold Mr;split
 .rfl
 .split<;>rfl
theorem Zbl {e:Array Nat}{l:List Nat}(h:Is e l){n:Nat}(hn:e.size=n)(a b:Nat)(hab:a<b)(hb:b<=n)(hl:n<=687194767360):
 (K A).call 273 [.sc (.arr 0 n),intV a,intV b] [arrU l]=some (.tu [intV (Sort.choosePivot ltN e a b).1,intV (Dh (Sort.choosePivot ltN e a b).2)],[arrU l]):=by
 rw[Zcn,ZR];generalize hr:pivR e a b=r;unfold pivR at hr;generalize hL:b-a=L at *
 have hLI:(b:Int)-a=L:=by omega
 have hq:Int.tdiv (L:Int) 4=((L / 4:Nat):Int):=by
  rw[qaR (by omega)];omega
 generalize hQ:L / 4=Q at *
 generalize hi:a+Q*1=i at *
 generalize hj:a+Q*2=j at *
 generalize hk:a+Q*3=k at *
 have hiI:(a:Int)+Q=i:=by omega
 have hjI:(a:Int)+Q*2=j:=by omega
 have hkI:(a:Int)+Q*3=k:=by omega
 have hll:=AH h;have h00:((0:Nat):Int)=0:=rfl;refine fnO v273 ?_;unfold v273;by_cases h8:L>=8
 .have h8I:(8:Int)<=L:=by omega
  by_cases h50:L>=50
  .have h50I:(50:Int)<=L:=by omega
   rw[if_pos h8,if_pos h50]at hr;obtain⟨u1,u2,u3⟩:=L9 (A:=A) h hn i 0 (by omega) (by omega) (by omega) hl;generalize Sort.medianAdjacent ltN e i 0=ri at *
   obtain⟨v1,v2,v3⟩:=L9 (A:=A) h hn j ri.2 (by omega) (by omega) (by omega) hl;generalize Sort.medianAdjacent ltN e j ri.2=rj at *
   obtain⟨w1,w2,w3⟩:=L9 (A:=A) h hn k rj.2 (by omega) (by omega) (by omega) hl;generalize Sort.medianAdjacent ltN e k rj.2=rk at *
   obtain⟨x1,x2,x3⟩:=MQ (A:=A) h hn ri.1 rj.1 rk.1 rk.2 u2 v2 w2 (by omega) hl;rw[hr]at x1 x2 x3;rw[boxI,h00]at u1;by_cases z0:r.2=0
   .simp(maxSteps:=9^7) (disch:=try exact zd) [u1,v1,w1,x1,hLI,hq,hiI,hjI,hkI,h8I,h50I,hll,hn,V.ren,z0,-getElem?_pos]
   .by_cases z12:r.2=12
    .simp(maxSteps:=9^7) (disch:=try exact zd) [u1,v1,w1,x1,hLI,hq,hiI,hjI,hkI,h8I,h50I,hll,hn,V.ren,z12,-getElem?_pos]
    .have z0I:¬(r.2:Int)=0:=by omega
     have z12I:¬(r.2:Int)=12:=(by omega);simp(maxSteps:=9^7) (disch:=try exact zd) [u1,v1,w1,x1,hLI,hq,hiI,hjI,hkI,h8I,h50I,hll,hn,V.ren,z0,z12,z0I,z12I,-getElem?_pos]
  .have h50I:¬(50:Int)<=L:=by omega
   rw[if_pos h8,if_neg h50]at hr;obtain⟨x1,x2,x3⟩:=MQ (A:=A) h hn i j k 0 (by omega) (by omega) (by omega) (by omega) hl;rw[hr]at x1 x2 x3;rw[boxI,h00]at x1;by_cases z0:r.2=0
   .simp(maxSteps:=9^7) (disch:=try exact zd) [x1,hLI,hq,hiI,hjI,hkI,h8I,h50I,hll,hn,V.ren,z0,-getElem?_pos]
   .have z0I:¬(r.2:Int)=0:=by omega
    have z12:¬r.2=12:=(by omega);have z12I:¬(r.2:Int)=12:=(by omega);simp(maxSteps:=9^7) (disch:=try exact zd) [x1,hLI,hq,hiI,hjI,hkI,h8I,h50I,hll,hn,V.ren,z0,z12,z0I,z12I,-getElem?_pos]
 .have h8I:¬(8:Int)<=L:=by omega
  rw[if_neg h8]at hr;subst hr;simp(maxSteps:=9^7) (disch:=try exact zd) [hLI,hq,hiI,hjI,hkI,h8I,hll,hn,-getElem?_pos]
theorem Za4 (r:UInt64):(K A).call 293 [.sc (.ptr 0 0)] [.box [.c (.int .u64 r.toNat)]]=some (.sc (.c (.int .u64 (Sort.xorNext r).toNat)),[.box [.c (.int .u64 (Sort.xorNext r).toNat)]]):=by
 refine fnO v293 ?_;have h1:∀x:UInt64,shlI .u64 x.toNat 13=((x <<< 13).toNat:Int):=fun x=>SU x 13 (by omega) 13 rfl;have h2:∀x:UInt64,shrI .u64 x.toNat 7=((x >>> 7).toNat:Int):=fun x=>Zai x 7 (by omega) 7 rfl;have h3:∀x:UInt64,shlI .u64 x.toNat 17=((x <<< 17).toNat:Int):=fun x=>SU x 17 (by omega) 17 rfl;unfold v293 Sort.xorNext
 simp(maxSteps:=9^7) (disch:=try exact zd) [h1,h2,h3,ZcO,-UInt64.toNat_xor,-UInt64.toNat_shiftLeft,-UInt64.toNat_shiftRight]
theorem YC {n:Nat}(h:n≠0):Sort.bitsLen n=Sort.bitsLen (n / 2)+1:=by
 unfold Sort.bitsLen;rw[if_neg h,Nat.log2_def];by_cases h2:n>=2
 .rw[if_pos h2,if_neg (by omega)]
 .rw[if_neg h2,if_pos (by omega)]
theorem IY:∀(k n:Nat),n / 2 ^ k≠0->Sort.bitsLen n=Sort.bitsLen (n / 2 ^ k)+k
 |0,n,_=>by simp
 |k+1,n,h=>by
  have h1:n / 2 ^ k / 2=n / 2 ^ (k+1):=by rw[Nat.div_div_eq_div_mul,qa8]
  have h2:n / 2 ^ k≠0:=fun h0=>h (by rw[<-h1,h0]);rw[IY k n h2,YC h2,h1];omega
theorem UG {n:Nat}(h:1<=n):2 ^ Sort.bitsLen n<=2*n:=by
 unfold Sort.bitsLen;rw[if_neg (by omega),qa8];have:=Nat.log2_self_le (show n≠0 by omega);omega
theorem GB {n k:Nat}(h:n<2 ^ k):Sort.bitsLen n<=k:=by
 unfold Sort.bitsLen;split
 .omega
 .rename_i h0
  have:=(Nat.log2_lt h0).2 h;omega
variable {A:Ab}
def Zen (r:Option (V×List Obj)):Bool:=match r with
 |some (.sc (.c (.int .i64 _)),[])=>true
 |_=>false
def LE (s:Str)(r:Option (V×List Obj)):Bool:=match r with
 |some (.sc (.c (.str t)),[])=>decide (t=s)
 |_=>false
theorem V7 {s:Str}{r:Option (V×List Obj)}(h:LE s r=true):r=some (strV s,[]):=by
 unfold LE at h;split at h
 .rw[of_decide_eq_true h]
 .cases h
theorem HP {f:Nat->Bool}{n:Nat}(h:(List.range n).all f=true){k:Nat}(hk:k<n):f k=true:=qx.1 h k (qaB.2 hk)
theorem SortR.len {a b:Nat}{d e:List Nat}(h:SortR a b d e):e.length=d.length:=h.1.length_eq
def dig2 (k:Nat):Str:=if k<10 then [UInt8.ofNat (48+k)] else [UInt8.ofNat (48+k / 10),UInt8.ofNat (48+k % 10)]
theorem Xb {k:Nat}(h:k<100):dig2 k=numS k:=by
 unfold dig2;split
 .rename_i h1
  rw[Cn h1]
 .rename_i h1
  rw[Dp h1,Cn (by omega)];rfl
theorem VO (k:Nat)(h:k<100):(K A).call 227 [u64V k,intV 10] []=some (strV (numS k),[]):=by
 have h1:(List.range 100).all (fun k=>LE (dig2 k) (BA T2 (X2 A) gl0 10 227 [u64V k,intV 10] []))=true:=by kernel_rfl
 have h2:=V7 (HP h1 h);rw[Xb h]at h2;exact A8 h2
end Go.Vs.Tryz
namespace Go.Vs
open Go
def hC (k:Nat):VCode->Bool
 |.seq a _=>hC k a
 |.region _ (o::_) _ _=>o.dst==some k
 |_=>false
def fdC (k:Nat):VCode->VCode
 |.seq a b=>if hC k a then .seq a b else match fdC k a with
  |.bad=>fdC k b
  |c=>c
 |.cond _ x y=>match fdC k x with
  |.bad=>fdC k y
  |c=>c
 |.block _ b=>fdC k b
 |.region d l c e=>if hC k (.region d l c e) then .region d l c e else .bad
 |_=>.bad
def rpC (k:Nat)(a:VCode):VCode->VCode
 |.seq x y=>if hC k x then a else .seq (rpC k a x) (rpC k a y)
 |.cond c x y=>.cond c (rpC k a x) (rpC k a y)
 |.block i b=>.block i (rpC k a b)
 |c=>if hC k c then a else c
def rtO (a:List UInt8)(o:VOper):VOper:=match o.op with
 |.idxS (.k (.sc (.c (.str _)))) i=>⟨o.dst,.idxS (.k (.sc (.c (.str a)))) i,o.guard,o.oid,o.own⟩
 |_=>o
def rtL (a:List UInt8):List VOper->List VOper
 |[]=>[]
 |o::r=>rtO a o::rtL a r
def rtC (a:List UInt8):VCode->VCode
 |.seq x y=>.seq (rtC a x) (rtC a y)
 |.cond c x y=>.cond c (rtC a x) (rtC a y)
 |.block i b=>.block i (rtC a b)
 |.region d l c e=>.region d (rtL a l) c e
 |c=>c
@[simp] theorem wrap_u32 (x:Int) (h:0<=x/\x<4294967296):IntKind.u32.wrap x=x:=by
 unfold IntKind.wrap;simp[IntKind.bits,IntKind.signed];omega
@[simp] theorem wrap_u8 (x:Int) (h:0<=x/\x<256):IntKind.u8.wrap x=x:=by
 unfold IntKind.wrap;simp[IntKind.bits,IntKind.signed];omega
end Go.Vs
namespace Go.Vs.Tryz
open Go Go.Vs
variable {A:Ab}
def tab8:List UInt8:=(List.range 256).map fun i=>UInt8.ofNat (Sort.bitsLen i)
theorem Xt {T:List UInt8}(hT:tab8=T):T.length=256/\∀i,i<256->T[i]?=some (UInt8.ofNat (Sort.bitsLen i)):=by
 subst hT;exact⟨by simp[tab8],fun i hi=>by simp[tab8,hi]⟩
theorem bl8 {i:Nat}(h:i<256):((UInt8.ofNat (Sort.bitsLen i)).toNat:Int)=Sort.bitsLen i:=by
 have:=GB (n:=i) (k:=8) h;rw[UInt8.toNat_ofNat',qal (by omega)]
theorem Oh (n k:Nat)(hk:k<64):shrI .u64 (n:Int) (k:Int)=((n / 2 ^ k:Nat):Int):=by
 unfold shrI;rw[qau,show min k IntKind.u64.bits=k from qbb (qbh hk),Int.fdiv_eq_ediv_of_nonneg _ (Int.le_of_lt (Int.pow_pos (by decide)))];simp
def e8:VCode:=(fun a=>G (rtC a (fdC 19 v280.body))) tab8
def d8:VCode:=(fun b=>G (rpC 19 b (fdC 13 v280.body))) e8
def c8:VCode:=(fun b=>G (rpC 13 b (fdC 7 v280.body))) d8
def b8:VFun:=(fun b=>G ⟨1,rpC 7 b v280.body,v280.results,v280.keep⟩) c8
theorem Yx:v280=b8:=by kernel_rfl
section
variable (Q:Ex->St->Prop){m sh:Nat}{xs:Env}(hs:sh<=60)(hQ:∀L:Nat,L=sh+Sort.bitsLen m->Q .ret ⟨[(2,intV L)],[]⟩)
include hs hQ
theorem SD (hm:m<256)(hx:xs=[]\/xs=[(14,Aa false)]):wp (K A) e8 Q ⟨(0,u64V m)::(2,intV sh)::xs,[]⟩:=by
 obtain⟨T,hT⟩:∃T,tab8=T:=⟨_,rfl⟩;obtain⟨t1,t2⟩:=Xt hT;have e1:=t2 m hm;have e2:=bl8 hm;have e3:=GB (n:=m) (k:=8) hm;have e4:(Sort.bitsLen m:Int) % 256=Sort.bitsLen m:=by omega
 have fin:=hQ _ rfl;unfold e8 G;rw[hT];rcases hx with rfl|rfl <;>
 (simp (maxSteps:=9^7) (disch:=try exact zd) [t1,e1,e2,e4,-getElem?_pos]
  simpa using fin)
theorem Oq (hs2:sh<=50)(hm:m<65536)(hx:xs=[]\/xs=[(8,Aa false)]):wp (K A) d8 Q ⟨(0,u64V m)::(2,intV sh)::xs,[]⟩:=by
 by_cases h:256<=m
 .have hI:(256:Int)<=m:=by omega
  have s:shrI .u64 (m:Int) 8=((m / 2 ^ 8:Nat):Int):=Oh m 8 (by omega);have hb:=IY 8 m (by omega);have fin:=SD (A:=A) (xs:=[]) Q (m:=m / 2 ^ 8) (sh:=sh+8) (by omega) (fun L hL=>hQ L (by omega)) (by omega) (.inl rfl);generalize m / 2 ^ 8=k at *
  unfold d8 G;rcases hx with rfl|rfl <;>
  (simp (maxSteps:=9^7) (disch:=try exact zd) [hI,s]
   simpa using fin)
 .have hI:¬(256:Int)<=m:=by omega
  have fin:=SD (A:=A) Q hs hQ (by omega) (.inr rfl);unfold d8 G;rcases hx with rfl|rfl <;>
  (simp (disch:=try exact zd) [hI]
   simpa using fin)
theorem Rp (hs2:sh<=32)(hm:m<4294967296)(hx:xs=[]\/xs=[(4,Aa false)]):wp (K A) c8 Q ⟨(0,u64V m)::(2,intV sh)::xs,[]⟩:=by
 by_cases h:65536<=m
 .have hI:(65536:Int)<=m:=by omega
  have s:shrI .u64 (m:Int) 16=((m / 2 ^ 16:Nat):Int):=Oh m 16 (by omega);have hb:=IY 16 m (by omega);have fin:=Oq (A:=A) (xs:=[]) Q (m:=m / 2 ^ 16) (sh:=sh+16) (by omega) (fun L hL=>hQ L (by omega)) (by omega) (by omega) (.inl rfl);generalize m / 2 ^ 16=k at *
  unfold c8 G;rcases hx with rfl|rfl <;>
  (simp (disch:=try exact zd) [hI,s]
   simpa using fin)
 .have hI:¬(65536:Int)<=m:=by omega
  have fin:=Oq (A:=A) Q hs hQ (by omega) (by omega) (.inr rfl);unfold c8 G;rcases hx with rfl|rfl <;>
  (simp (disch:=try exact zd) [hI]
   simpa using fin)
end
theorem P5 (n:Nat)(h:n<18446744073709551616):(K A).call 280 [u64V n] []=some (intV (Sort.bitsLen n),[]):=by
 refine fnO v280 ?_;rw[Yx];unfold b8 G;by_cases h1:4294967296<=n
 .have hI:(4294967296:Int)<=n:=by omega
  have s:shrI .u64 (n:Int) 32=((n / 2 ^ 32:Nat):Int):=Oh n 32 (by omega);have hb:=IY 32 n (by omega);have hm:n / 2 ^ 32<4294967296:=by omega
  generalize n / 2 ^ 32=m at *
  simp(disch:=try exact zd) [hI,s];exact Rp (A:=A) (sh:=32) _ (by omega) (fun L hL=>by simp[hL,hb];omega) (by omega) hm (.inl rfl)
 .have hI:¬(4294967296:Int)<=n:=by omega
  simp(disch:=try exact zd) [hI];exact Rp (A:=A) (sh:=0) _ (by omega) (fun L hL=>by simp[hL]) (by omega) (by omega) (.inr rfl)
theorem RY (n:Nat)(h:n<18446744073709551616):(K A).call 250 [u64V n] []=some (intV (Sort.bitsLen n),[]):=by
 have hc:=P5 (A:=A) n h;refine fnO v250 ?_;unfold v250;simp[hc]
theorem ZbH (n:Nat)(h:n<2199023255552):(K A).call 292 [intV n] []=some (u64V (2 ^ Sort.bitsLen n),[]):=by
 have hc:=RY (A:=A) n (by omega);have hb:=GB (n:=n) (k:=41) h;have hw:IntKind.u64.wrap (n:Int)=n:=Dl n (by omega);have hp:2 ^ Sort.bitsLen n<=2 ^ 41:=qaY (by omega) hb;have hs:shlI .u64 1 (Sort.bitsLen n:Int)=((2 ^ Sort.bitsLen n:Nat):Int):=by
  unfold shlI;rw[qau,show min (Sort.bitsLen n) IntKind.u64.bits=Sort.bitsLen n from qbb (qr hb (by decide)),Int.one_mul];have:=Dl (2 ^ Sort.bitsLen n) (by omega);simpa using this
 refine fnO v292 ?_;unfold v292;generalize Sort.bitsLen n=k at *
 simp(disch:=try exact zd) [hc,hw,hs]
theorem Zbc (a len md:Nat)(st:UInt64×Array Nat)(i:Nat):(Sort.breakStep a len md st i).2.size=st.2.size:=by simp[Sort.breakStep]
def stp (a len md idx:Nat):Nat->UInt64×Array Nat->UInt64×Array Nat
 |0,st=>st
 |k+1,st=>stp a len md idx k (Sort.breakStep a len md st (idx+(2-k)))
theorem Yi {e:Array Nat}{l:List Nat}(h:Is e l){n:Nat}(hn:e.size=n)(a b:Nat)(hab:a<=b)(hb:b<=n)(hl:n<=687194767360):
 (K A).call 272 [.sc (.arr 0 n),intV a,intV b] [arrU l]=some (retV,[arrU (Sort.breakPatterns e a b).toList]):=by
 generalize hR:Sort.breakPatterns e a b=R;unfold Sort.breakPatterns at hR;generalize hL:b-a=L at *
 have hLI:(b:Int)-a=L:=by omega
 have hll:=AH h;refine fnO v272 ?_;unfold v272;by_cases h8:L>=8
 .have h8I:(8:Int)<=L:=by omega
  simp only[h8,if_true]at hR;have hq:Int.tdiv (L:Int) 4=((L / 4:Nat):Int):=by
   rw[qaR (by omega)];omega
  have hpow:=ZbH (A:=A) L (by omega);have hbl:=UG (n:=L) (by omega);rw[Nat.shiftLeft_eq,Nat.one_mul]at hR;have hM1:1<=2 ^ Sort.bitsLen L:=Nat.one_le_two_pow;generalize hM:2 ^ Sort.bitsLen L=M at *
  generalize hQ:L / 4=Q at *
  generalize hi:a+Q*2-1=i0 at *
  have hiI:(a:Int)+Q*2-1=i0:=by omega
  have hw:IntKind.u64.wrap (L:Int)=((UInt64.ofNat L).toNat:Int):=by
   rw[Dl L (by omega),UInt64.toNat_ofNat_of_lt' (by show L<18446744073709551616;omega)]
  have hR3:(stp a L M i0 3 (UInt64.ofNat L,e)).2=R:=hR;generalize UInt64.ofNat L=x0 at *
  simp(disch:=try exact zd) [hLI,h8I,hq,hpow,hiI,hw];refine AW (fun r s=>∃(x:UInt64) (e:Array Nat) (l:List Nat),Is e l/\e.size=n/\(stp a L M i0 (3-r) (x,e)).2=R/\
   s=⟨[(0,.sc (.arr 0 n)),(1,intV a),(6,intV L),(7,.sc (.ptr 576 0)),(8,u64V M),(9,intV ((i0+r:Nat):Int))],[(0,some (arrU l)),(576,some (.box [.c (.int .u64 x.toNat)]))]⟩) 3
   ⟨x0,e,l,h,hn,hR3,by simp⟩ ?_ ?_
  .rintro r s hr ⟨x,e,l,hel,he,hR,rfl⟩
   obtain⟨k,hk⟩:∃k,3-r=k+1:=⟨2-r,by omega⟩;rw[hk,stp,show 2-k=r by omega]at hR;have hx242:=Za4 (A:=A) x;unfold Sort.breakStep at hR;simp only at hR;generalize Sort.xorNext x=y at *
   have hylt:=y.toNat_lt;have hand:andI .u64 (y.toNat:Int) ((M:Int)-1)=((y.toNat &&& (M-1):Nat):Int):=by
    rw[show(M:Int)-1=((M-1:Nat):Int) by omega];exact Zbv _ _ hylt (by omega)
   have hot:y.toNat &&& (M-1)<2*L:=Nat.lt_of_le_of_lt Nat.and_le_right (by omega);generalize y.toNat &&& (M-1)=o0 at *
   have hir:(i0:Int)+r<=a+Q*2+1:=(by omega);generalize hj:i0+r=j at *
   have hjI:(i0:Int)+r=j:=(by omega);have hcond:(j:Int)<=a+Q*2+1:=(by omega);have hx:=AD hel (i:=j) (by omega);have hjl:j<l.length:=(by rw[AH hel];omega);have hll:=AH hel;by_cases ho:o0>=L
   .have hoI:(L:Int)<=o0:=by omega
    rw[if_pos ho]at hR;have hp:(a:Int)+((o0:Int)-L)=((a+(o0-L):Nat):Int):=(by omega);have hpo:(o0:Int)-L=((o0-L:Nat):Int):=(by omega);have hp2:(a:Int)+((o0-L:Nat):Int)=((a+(o0-L):Nat):Int):=(by omega);have hol:o0-L<L:=(by omega);generalize o0-L=o1 at *
    generalize hpp:a+o1=p at *
    have hy:=AD hel (i:=p) (by omega);have hpl:p<l.length:=(by omega);have hsw:=Cb hel j p;generalize e[j]! = u at *
    generalize e[p]! = v at *
    obtain⟨v2,hv2⟩:=Ag (l:=l.set j v) (i:=p) (by simp;omega);unfold Kv;simp(maxSteps:=9^7) (disch:=try exact zd) [hv2,hx242,hq,hand,hcond,hoI,ho,hp,hp2,hpo,hx,hy,hll,he,V.ren,-getElem?_pos];refine⟨y,_,_,hsw,by simp[he],?_,?_⟩
    .rw [show 2-r=k by omega]
     exact hR
    .simp
     omega
   .have hoI:¬(L:Int)<=o0:=by omega
    rw[if_neg ho]at hR;have hp2:(a:Int)+(o0:Int)=((a+o0:Nat):Int):=(by omega);generalize hpp:a+o0=p at *
    have hy:=AD hel (i:=p) (by omega);have hpl:p<l.length:=(by omega);have hsw:=Cb hel j p;generalize e[j]! = u at *
    generalize e[p]! = v at *
    obtain⟨v2,hv2⟩:=Ag (l:=l.set j v) (i:=p) (by simp;omega);unfold Kv;simp(maxSteps:=9^7) (disch:=try exact zd) [hv2,hx242,hq,hand,hcond,hoI,ho,hp2,hx,hy,hll,he,V.ren,-getElem?_pos];refine⟨y,_,_,hsw,by simp[he],?_,?_⟩
    .rw [show 2-r=k by omega]
     exact hR
    .simp
     omega
  .rintro s ⟨x,e,l,hel,he,hR,rfl⟩
   rw[qaN,stp]at hR;subst hR;have hcond:¬((i0+3:Nat):Int)<=a+Q*2+1:=(by omega);have hcond2:¬(i0:Int)+3<=a+Q*2+1:=(by omega);have hll:=AH hel;unfold Kv;simp(maxSteps:=9^7) (disch:=try exact zd) [hcond,hcond2,hq,hll,he,retV,isEq hel]
 .have h8I:¬(8:Int)<=L:=by omega
  simp only[h8,if_false]at hR;subst hR;simp(disch:=try exact zd) [hLI,h8I,hll,hn,retV,isEq h]
variable {A:Ab}
theorem IN {p:Nat->Bool}{d:Array Nat}{i j:Nat}(h:i<=j)(hp:p d[i]! = true):Sort.scanUp p d j i=Sort.scanUp p d j (i+1):=by
 grind[Sort.scanUp]
theorem CW {p:Nat->Bool}{d:Array Nat}{i j:Nat}(h:¬(i<=j/\p d[i]! = true)):Sort.scanUp p d j i=i:=by
 grind[Sort.scanUp]
theorem HC (p:Nat->Bool)(d:Array Nat)(j:Nat):∀(k i:Nat),j+1-i<=k->i<=Sort.scanUp p d j i
 |0,i,h=>by grind[CW]
 |k+1,i,h=>by
  by_cases hc:i<=j/\p d[i]! = true
  .rw [IN hc.1 hc.2]
   have:=HC p d j k (i+1) (by omega);omega
  grind[CW]
theorem Ip (p:Nat->Bool)(d:Array Nat)(j:Nat):∀(k i:Nat),j+1-i<=k->i<=j+1->Sort.scanUp p d j i<=j+1
 |0,i,h,h2=>by grind[CW]
 |k+1,i,h,h2=>by
  by_cases hc:i<=j/\p d[i]! = true
  .rw [IN hc.1 hc.2]
   exact Ip p d j k (i+1) (by omega) (by omega)
  grind[CW]
theorem LG {p:Nat->Bool}{d:Array Nat}{i j:Nat}(h1:1<=j)(h:i<=j)(hp:p d[j]! = true):Sort.scanDown p d i j=Sort.scanDown p d i (j-1):=by
 obtain⟨k,rfl⟩:∃k,j=k+1:=⟨j-1,by omega⟩;grind[Sort.scanDown]
theorem G2 {p:Nat->Bool}{d:Array Nat}{i j:Nat}(h:¬(i<=j/\p d[j]! = true)):Sort.scanDown p d i j=j:=by
 cases j<;>grind[Sort.scanDown]
theorem IE (p:Nat->Bool)(d:Array Nat)(i:Nat):∀j,Sort.scanDown p d i j<=j
 |0=>qg _
 |j+1=>by
  rw[Sort.scanDown];split
  .have:=IE p d i j
   omega
  simp
theorem Vo {e:Array Nat}{l:List Nat}(h:Is e l){n:Nat}(hn:e.size=n)(a i j:Nat)(ha:a<n)(hj:j<n)(hl:n<=687194767360)(hi:i<=n+2):
 wp (K A) (.loop Fg) (fun x s'=>x=.exit 0/\s'=⟨[(0,.sc (.arr 0 n)),(1,intV a),(10,intV ((Sort.scanUp (fun x=>ltN x e[a]!) e j i:Nat):Int)),(11,intV j),(43,Aa false)],[(0,some (arrU l))]⟩) ⟨[(0,.sc (.arr 0 n)),(1,intV a),(10,intV i),(11,intV j)],[(0,some (arrU l))]⟩:=by
 generalize hp:(fun x=>ltN x e[a]!)=p;have hpe:∀x,p x=ltN x e[a]! := fun x=>by grind
 clear hp;refine AW (fun r s=>∃i':Nat,Sort.scanUp p e j i'=Sort.scanUp p e j i/\i'=i+r/\s=⟨[(0,.sc (.arr 0 n)),(1,intV a),(10,intV i'),(11,intV j)],[(0,some (arrU l))]⟩) (j+1-i) ⟨i,rfl,rfl,rfl⟩ ?_ ?_
 .rintro r s hr ⟨i',hs,hi',rfl⟩
  have hij:i'<=j:=by omega
  have hy:=AD h (i:=a) (by omega);have hz:=AD h (i:=i') (by omega);have hll:=AH h;have hpz:=hpe e[i']!;rw[E8]at hpz;have hstop:=CW (p:=p) (d:=e) (i:=i') (j:=j);have hgo:=IN (p:=p) (d:=e) (i:=i') (j:=j) hij;generalize e[a]! = y at *
  generalize e[i']! = z at *
  have hless:=Cp (A:=A) z y;have hal:a<l.length:=by omega
  have hil:i'<l.length:=by omega
  unfold Fg;by_cases hlt:z<y
  .have hpf:p z=true:=by grind
   rw[hgo hpf]at hs;simp(maxSteps:=9^7) (disch:=try exact zd) [hij,hy,hz,hll,hn,hless,hlt,<-hs,-getElem?_pos];grind
  .have hpf:¬(i'<=j/\p z=true):=by grind
   rw[hstop hpf]at hs;simp(maxSteps:=9^7) (disch:=try exact zd) [hij,hy,hz,hll,hn,hless,hlt,<-hs,-getElem?_pos]
 .rintro s ⟨i',hs,hi',rfl⟩
  have hij:¬i'<=j:=by omega
  have hijI:¬(i':Int)<=j:=by omega
  rw[CW (by omega)]at hs;unfold Fg;simp(maxSteps:=9^7) (disch:=try exact zd) [hij,hijI,<-hs,-getElem?_pos]
theorem Zcq {e:Array Nat}{l:List Nat}(h:Is e l){n:Nat}(hn:e.size=n)(a i j:Nat)(ha:a<n)(hj:j<n)(hl:n<=687194767360)(hi:1<=i)(hi2:i<=n+2){xs:Env}(hx:xs=[]\/xs=[(43,Aa false)]):
 wp (K A) (.loop Gc) (fun x s'=>x=.exit 2/\s'=⟨[(0,.sc (.arr 0 n)),(1,intV a),(10,intV i),(11,intV ((Sort.scanDown (fun x=>!ltN x e[a]!) e i j:Nat):Int)),(60,Aa false)],[(0,some (arrU l))]⟩) ⟨(0,.sc (.arr 0 n))::(1,intV a)::(10,intV i)::(11,intV j)::xs,[(0,some (arrU l))]⟩:=by
 generalize hp:(fun x=>!ltN x e[a]!)=p;have hpe:∀x,p x=!ltN x e[a]! := fun x=>by grind
 clear hp;refine AW (fun r s=>∃(j':Nat) (xs:Env),(xs=[]\/xs=[(43,Aa false)])/\Sort.scanDown p e i j'=Sort.scanDown p e i j/\j'+r=j/\s=⟨(0,.sc (.arr 0 n))::(1,intV a)::(10,intV i)::(11,intV j')::xs,[(0,some (arrU l))]⟩) (j+1-i) ⟨j,xs,hx,rfl,rfl,rfl⟩ ?_ ?_
 .clear hx
  rintro r s hr ⟨j',xs,hx,hs,hj',rfl⟩;have hij:i<=j':=by omega
  have hy:=AD h (i:=a) (by omega);have hz:=AD h (i:=j') (by omega);have hll:=AH h;have hpz:=hpe e[j']!;rw[E8]at hpz;have hstop:=G2 (p:=p) (d:=e) (i:=i) (j:=j');have hgo:=LG (p:=p) (d:=e) (i:=i) (j:=j') (by omega) hij;generalize e[a]! = y at *
  generalize e[j']! = z at *
  have hless:=Cp (A:=A) z y;have hal:a<l.length:=by omega
  have hjl:j'<l.length:=by omega
  have hj1:(j':Int)-1=((j'-1:Nat):Int):=by omega
  unfold Gc;by_cases hlt:z<y
  .have hpf:¬(i<=j'/\p z=true):=by grind
   rw[hstop hpf]at hs;rcases hx with rfl|rfl<;>simp(maxSteps:=9^7) (disch:=try exact zd) [hij,hy,hz,hj1,hll,hn,hless,hlt,<-hs,-getElem?_pos]
  .have hpf:p z=true:=by grind
   rw[hgo hpf]at hs;have fin:∃j'' xs,(xs=[]\/xs=[(43,Aa false)])/\Sort.scanDown p e i j''=Sort.scanDown p e i j/\j''+(r+1)=j/\(⟨[(0,.sc (.arr 0 n)),(1,intV a),(10,intV i),(11,intV ((j'-1:Nat):Int))],[(0,some (arrU l))]⟩:St)=⟨(0,.sc (.arr 0 n))::(1,intV a)::(10,intV i)::(11,intV j'')::xs,[(0,some (arrU l))]⟩:=
    ⟨j'-1,[],.inl rfl,hs,by omega,rfl⟩
   rcases hx with rfl|rfl<;>(simp(maxSteps:=9^7) (disch:=try exact zd) [hij,hy,hz,hj1,hll,hn,hless,hlt,-getElem?_pos];simpa using fin)
 .clear hx
  rintro s ⟨j',xs,hx,hs,hj',rfl⟩;have hij:¬i<=j':=by omega
  have hijI:¬(i:Int)<=j':=by omega
  rw[G2 (by omega)]at hs;unfold Gc;rcases hx with rfl|rfl<;>simp(maxSteps:=9^7) (disch:=try exact zd) [hij,hijI,<-hs,-getElem?_pos]
theorem Ym {e:Array Nat}{l:List Nat}(h:Is e l){n:Nat}(hn:e.size=n)(a i j:Nat)(ha:a<n)(hj:j<n)(hl:n<=687194767360)(hi:i<=n+2):
 wp (K A) (.loop G8) (fun x s'=>x=.exit 6/\s'=⟨[(0,.sc (.arr 0 n)),(1,intV a),(10,intV ((Sort.scanUp (fun x=>ltN x e[a]!) e j i:Nat):Int)),(11,intV j),(112,Aa false)],[(0,some (arrU l))]⟩) ⟨[(0,.sc (.arr 0 n)),(1,intV a),(10,intV i),(11,intV j)],[(0,some (arrU l))]⟩:=by
 generalize hp:(fun x=>ltN x e[a]!)=p;have hpe:∀x,p x=ltN x e[a]! := fun x=>by grind
 clear hp;refine AW (fun r s=>∃i':Nat,Sort.scanUp p e j i'=Sort.scanUp p e j i/\i'=i+r/\s=⟨[(0,.sc (.arr 0 n)),(1,intV a),(10,intV i'),(11,intV j)],[(0,some (arrU l))]⟩) (j+1-i) ⟨i,rfl,rfl,rfl⟩ ?_ ?_
 .rintro r s hr ⟨i',hs,hi',rfl⟩
  have hij:i'<=j:=by omega
  have hy:=AD h (i:=a) (by omega);have hz:=AD h (i:=i') (by omega);have hll:=AH h;have hpz:=hpe e[i']!;rw[E8]at hpz;have hstop:=CW (p:=p) (d:=e) (i:=i') (j:=j);have hgo:=IN (p:=p) (d:=e) (i:=i') (j:=j) hij;generalize e[a]! = y at *
  generalize e[i']! = z at *
  have hless:=Cp (A:=A) z y;have hal:a<l.length:=by omega
  have hil:i'<l.length:=by omega
  unfold G8;by_cases hlt:z<y
  .have hpf:p z=true:=by grind
   rw[hgo hpf]at hs;simp(maxSteps:=9^7) (disch:=try exact zd) [hij,hy,hz,hll,hn,hless,hlt,<-hs,-getElem?_pos];grind
  .have hpf:¬(i'<=j/\p z=true):=by grind
   rw[hstop hpf]at hs;simp(maxSteps:=9^7) (disch:=try exact zd) [hij,hy,hz,hll,hn,hless,hlt,<-hs,-getElem?_pos]
 .rintro s ⟨i',hs,hi',rfl⟩
  have hij:¬i'<=j:=by omega
  have hijI:¬(i':Int)<=j:=by omega
  rw[CW (by omega)]at hs;unfold G8;simp(maxSteps:=9^7) (disch:=try exact zd) [hij,hijI,<-hs,-getElem?_pos]
theorem Wr {e:Array Nat}{l:List Nat}(h:Is e l){n:Nat}(hn:e.size=n)(a i j:Nat)(ha:a<n)(hj:j<n)(hl:n<=687194767360)(hi:1<=i)(hi2:i<=n+2){xs:Env}(hx:xs=[]\/xs=[(112,Aa false)]):
 wp (K A) (.loop Ic) (fun x s'=>x=.exit 8/\s'=⟨[(0,.sc (.arr 0 n)),(1,intV a),(10,intV i),(11,intV ((Sort.scanDown (fun x=>!ltN x e[a]!) e i j:Nat):Int)),(129,Aa false)],[(0,some (arrU l))]⟩) ⟨(0,.sc (.arr 0 n))::(1,intV a)::(10,intV i)::(11,intV j)::xs,[(0,some (arrU l))]⟩:=by
 generalize hp:(fun x=>!ltN x e[a]!)=p;have hpe:∀x,p x=!ltN x e[a]! := fun x=>by grind
 clear hp;refine AW (fun r s=>∃(j':Nat) (xs:Env),(xs=[]\/xs=[(112,Aa false)])/\Sort.scanDown p e i j'=Sort.scanDown p e i j/\j'+r=j/\s=⟨(0,.sc (.arr 0 n))::(1,intV a)::(10,intV i)::(11,intV j')::xs,[(0,some (arrU l))]⟩) (j+1-i) ⟨j,xs,hx,rfl,rfl,rfl⟩ ?_ ?_
 .clear hx
  rintro r s hr ⟨j',xs,hx,hs,hj',rfl⟩;have hij:i<=j':=by omega
  have hy:=AD h (i:=a) (by omega);have hz:=AD h (i:=j') (by omega);have hll:=AH h;have hpz:=hpe e[j']!;rw[E8]at hpz;have hstop:=G2 (p:=p) (d:=e) (i:=i) (j:=j');have hgo:=LG (p:=p) (d:=e) (i:=i) (j:=j') (by omega) hij;generalize e[a]! = y at *
  generalize e[j']! = z at *
  have hless:=Cp (A:=A) z y;have hal:a<l.length:=by omega
  have hjl:j'<l.length:=by omega
  have hj1:(j':Int)-1=((j'-1:Nat):Int):=by omega
  unfold Ic;by_cases hlt:z<y
  .have hpf:¬(i<=j'/\p z=true):=by grind
   rw[hstop hpf]at hs;rcases hx with rfl|rfl<;>simp(maxSteps:=9^7) (disch:=try exact zd) [hij,hy,hz,hj1,hll,hn,hless,hlt,<-hs,-getElem?_pos]
  .have hpf:p z=true:=by grind
   rw[hgo hpf]at hs;have fin:∃j'' xs,(xs=[]\/xs=[(112,Aa false)])/\Sort.scanDown p e i j''=Sort.scanDown p e i j/\j''+(r+1)=j/\(⟨[(0,.sc (.arr 0 n)),(1,intV a),(10,intV i),(11,intV ((j'-1:Nat):Int))],[(0,some (arrU l))]⟩:St)=⟨(0,.sc (.arr 0 n))::(1,intV a)::(10,intV i)::(11,intV j'')::xs,[(0,some (arrU l))]⟩:=
    ⟨j'-1,[],.inl rfl,hs,by omega,rfl⟩
   rcases hx with rfl|rfl<;>(simp(maxSteps:=9^7) (disch:=try exact zd) [hij,hy,hz,hj1,hll,hn,hless,hlt,-getElem?_pos];simpa using fin)
 .clear hx
  rintro s ⟨j',xs,hx,hs,hj',rfl⟩;have hij:¬i<=j':=by omega
  have hijI:¬(i:Int)<=j':=by omega
  rw[G2 (by omega)]at hs;unfold Ic;rcases hx with rfl|rfl<;>simp(maxSteps:=9^7) (disch:=try exact zd) [hij,hijI,<-hs,-getElem?_pos]
theorem Wi {e:Array Nat}{l:List Nat}(h:Is e l){n:Nat}(hn:e.size=n)(a i j:Nat)(ha:a<n)(hj:j<n)(hl:n<=687194767360)(hi:i<=n+2):
 wp (K A) (.loop Hy) (fun x s'=>x=.exit 2/\s'=⟨[(0,.sc (.arr 0 n)),(1,intV a),(9,intV ((Sort.scanUp (fun x=>!ltN e[a]! x) e j i:Nat):Int)),(10,intV j),(43,Aa false)],[(0,some (arrU l))]⟩) ⟨[(0,.sc (.arr 0 n)),(1,intV a),(9,intV i),(10,intV j)],[(0,some (arrU l))]⟩:=by
 generalize hp:(fun x=>!ltN e[a]! x)=p;have hpe:∀x,p x=!ltN e[a]! x:=fun x=>by grind
 clear hp;refine AW (fun r s=>∃i':Nat,Sort.scanUp p e j i'=Sort.scanUp p e j i/\i'=i+r/\s=⟨[(0,.sc (.arr 0 n)),(1,intV a),(9,intV i'),(10,intV j)],[(0,some (arrU l))]⟩) (j+1-i) ⟨i,rfl,rfl,rfl⟩ ?_ ?_
 .rintro r s hr ⟨i',hs,hi',rfl⟩
  have hij:i'<=j:=by omega
  have hy:=AD h (i:=a) (by omega);have hz:=AD h (i:=i') (by omega);have hll:=AH h;have hpz:=hpe e[i']!;rw[E8]at hpz;have hstop:=CW (p:=p) (d:=e) (i:=i') (j:=j);have hgo:=IN (p:=p) (d:=e) (i:=i') (j:=j) hij;generalize e[a]! = y at *
  generalize e[i']! = z at *
  have hless:=Cp (A:=A) y z;have hal:a<l.length:=by omega
  have hil:i'<l.length:=by omega
  unfold Hy;by_cases hlt:y<z
  .have hpf:¬(i'<=j/\p z=true):=by grind
   rw[hstop hpf]at hs;simp(maxSteps:=9^7) (disch:=try exact zd) [hij,hy,hz,hll,hn,hless,hlt,<-hs,-getElem?_pos]
  .have hpf:p z=true:=by grind
   rw[hgo hpf]at hs;simp(maxSteps:=9^7) (disch:=try exact zd) [hij,hy,hz,hll,hn,hless,hlt,<-hs,-getElem?_pos];grind
 .rintro s ⟨i',hs,hi',rfl⟩
  have hij:¬i'<=j:=by omega
  have hijI:¬(i':Int)<=j:=by omega
  rw[CW (by omega)]at hs;unfold Hy;simp(maxSteps:=9^7) (disch:=try exact zd) [hij,hijI,<-hs,-getElem?_pos]
theorem Xh {e:Array Nat}{l:List Nat}(h:Is e l){n:Nat}(hn:e.size=n)(a i j:Nat)(ha:a<n)(hj:j<n)(hl:n<=687194767360)(hi:1<=i)(hi2:i<=n+2){xs:Env}(hx:xs=[]\/xs=[(43,Aa false)]):
 wp (K A) (.loop HR) (fun x s'=>x=.exit 4/\s'=⟨[(0,.sc (.arr 0 n)),(1,intV a),(9,intV i),(10,intV ((Sort.scanDown (fun x=>ltN e[a]! x) e i j:Nat):Int)),(59,Aa false)],[(0,some (arrU l))]⟩) ⟨(0,.sc (.arr 0 n))::(1,intV a)::(9,intV i)::(10,intV j)::xs,[(0,some (arrU l))]⟩:=by
 generalize hp:(fun x=>ltN e[a]! x)=p;have hpe:∀x,p x=ltN e[a]! x:=fun x=>by grind
 clear hp;refine AW (fun r s=>∃(j':Nat) (xs:Env),(xs=[]\/xs=[(43,Aa false)])/\Sort.scanDown p e i j'=Sort.scanDown p e i j/\j'+r=j/\s=⟨(0,.sc (.arr 0 n))::(1,intV a)::(9,intV i)::(10,intV j')::xs,[(0,some (arrU l))]⟩) (j+1-i) ⟨j,xs,hx,rfl,rfl,rfl⟩ ?_ ?_
 .clear hx
  rintro r s hr ⟨j',xs,hx,hs,hj',rfl⟩;have hij:i<=j':=by omega
  have hy:=AD h (i:=a) (by omega);have hz:=AD h (i:=j') (by omega);have hll:=AH h;have hpz:=hpe e[j']!;rw[E8]at hpz;have hstop:=G2 (p:=p) (d:=e) (i:=i) (j:=j');have hgo:=LG (p:=p) (d:=e) (i:=i) (j:=j') (by omega) hij;generalize e[a]! = y at *
  generalize e[j']! = z at *
  have hless:=Cp (A:=A) y z;have hal:a<l.length:=by omega
  have hjl:j'<l.length:=by omega
  have hj1:(j':Int)-1=((j'-1:Nat):Int):=by omega
  unfold HR;by_cases hlt:y<z
  .have hpf:p z=true:=by grind
   rw[hgo hpf]at hs;have fin:∃j'' xs,(xs=[]\/xs=[(43,Aa false)])/\Sort.scanDown p e i j''=Sort.scanDown p e i j/\j''+(r+1)=j/\(⟨[(0,.sc (.arr 0 n)),(1,intV a),(9,intV i),(10,intV ((j'-1:Nat):Int))],[(0,some (arrU l))]⟩:St)=⟨(0,.sc (.arr 0 n))::(1,intV a)::(9,intV i)::(10,intV j'')::xs,[(0,some (arrU l))]⟩:=
    ⟨j'-1,[],.inl rfl,hs,by omega,rfl⟩
   rcases hx with rfl|rfl<;>(simp(maxSteps:=9^7) (disch:=try exact zd) [hij,hy,hz,hj1,hll,hn,hless,hlt,-getElem?_pos];simpa using fin)
  .have hpf:¬(i<=j'/\p z=true):=by grind
   rw[hstop hpf]at hs;rcases hx with rfl|rfl<;>simp(maxSteps:=9^7) (disch:=try exact zd) [hij,hy,hz,hj1,hll,hn,hless,hlt,<-hs,-getElem?_pos]
 .clear hx
  rintro s ⟨j',xs,hx,hs,hj',rfl⟩;have hij:¬i<=j':=by omega
  have hijI:¬(i:Int)<=j':=by omega
  rw[G2 (by omega)]at hs;unfold HR;rcases hx with rfl|rfl<;>simp(maxSteps:=9^7) (disch:=try exact zd) [hij,hijI,<-hs,-getElem?_pos]
variable {A:Ab}
theorem U2 (a i j:Nat)(d:Array Nat):Sort.partLoop ltN a i j d=
 if Sort.scanUp (fun x=>ltN x d[a]!) d j i>Sort.scanDown (fun x=>!ltN x d[a]!) d (Sort.scanUp (fun x=>ltN x d[a]!) d j i) j then (Sort.scanDown (fun x=>!ltN x d[a]!) d (Sort.scanUp (fun x=>ltN x d[a]!) d j i) j,d)
 else if Sort.scanDown (fun x=>!ltN x d[a]!) d (Sort.scanUp (fun x=>ltN x d[a]!) d j i) j-1+1-(Sort.scanUp (fun x=>ltN x d[a]!) d j i+1)<j+1-i then
  Sort.partLoop ltN a (Sort.scanUp (fun x=>ltN x d[a]!) d j i+1) (Sort.scanDown (fun x=>!ltN x d[a]!) d (Sort.scanUp (fun x=>ltN x d[a]!) d j i) j-1) (Sort.swp d (Sort.scanUp (fun x=>ltN x d[a]!) d j i) (Sort.scanDown (fun x=>!ltN x d[a]!) d (Sort.scanUp (fun x=>ltN x d[a]!) d j i) j))
 else (Sort.scanDown (fun x=>!ltN x d[a]!) d (Sort.scanUp (fun x=>ltN x d[a]!) d j i) j,d):=by
 grind[Sort.partLoop]
theorem QR {e:Array Nat}{l:List Nat}(h:Is e l){n:Nat}(hn:e.size=n)(a i j:Nat)(ha:a<n)(hj:j<n)(hl:n<=687194767360)(hi:1<=i)(hi2:i<=j+2):
 wp (K A) Jj (fun x s'=>
  (x=.normal/\∃(i' j':Nat) (e':Array Nat) (l':List Nat),Is e' l'/\e'.size=n/\Sort.partLoop ltN a i' j' e'=Sort.partLoop ltN a i j e/\i<i'/\i'<=j+1/\i'<=j'+2/\j'<=j/\s'=⟨[(0,.sc (.arr 0 n)),(1,intV a),(10,intV i'),(11,intV j')],[(0,some (arrU l'))]⟩)\/
  (x=.exit 4/\∃(i' j':Nat),Sort.partLoop ltN a i j e=(j',e)/\j'<=j/\i'<=j+2/\s'=⟨[(0,.sc (.arr 0 n)),(1,intV a),(10,intV i'),(11,intV j'),(134,Aa true)],[(0,some (arrU l))]⟩)) ⟨[(0,.sc (.arr 0 n)),(1,intV a),(10,intV i),(11,intV j)],[(0,some (arrU l))]⟩:=by
 have hR:=U2 a i j e;unfold Jj;simp only[wp_block,wp_seq];refine wp_mono (Ym (A:=A) h hn a i j ha hj hl (by omega)) ?_;rintro _ _ ⟨rfl,rfl⟩;have g1:=HC (fun x=>ltN x e[a]!) e j _ i (qg _);have g2:i<=j+1->Sort.scanUp (fun x=>ltN x e[a]!) e j i<=j+1:=Ip (fun x=>ltN x e[a]!) e j _ i (qg _);have g3:¬i<=j+1->Sort.scanUp (fun x=>ltN x e[a]!) e j i=i:=fun hc=>CW (by omega)
 generalize Sort.scanUp (fun x=>ltN x e[a]!) e j i=i2 at *
 simp only[blockQ_exit,beq_self_eq_true,cond_true,thenQ_normal,wp_block,wp_seq];refine wp_mono (Wr (A:=A) (xs:=[(112,Aa false)]) h hn a i2 j ha hj hl (by omega) (by omega) (.inr rfl)) ?_;rintro _ _ ⟨rfl,rfl⟩;have g4:=IE (fun x=>!ltN x e[a]!) e i2 j;generalize Sort.scanDown (fun x=>!ltN x e[a]!) e i2 j=j2 at *
 simp only[blockQ_exit,beq_self_eq_true,cond_true,thenQ_normal,wp_block,wp_seq];by_cases hc:i2>j2
 .have hcI:((j2:Int)<(i2:Int)):=by omega
  rw[if_pos hc]at hR;rw[hR];have fin:∃(i' j':Nat),((j2,e):Nat×Array Nat)=(j',e)/\j'<=j/\i'<=j+2/\(⟨[(0,.sc (.arr 0 n)),(1,intV a),(10,intV i2),(11,intV j2),(134,Aa true)],[(0,some (arrU l))]⟩:St)=⟨[(0,.sc (.arr 0 n)),(1,intV a),(10,intV i'),(11,intV j'),(134,Aa true)],[(0,some (arrU l))]⟩:=
   ⟨i2,j2,rfl,by omega,by omega,rfl⟩
  simp_all
 .have hcN:¬j2<i2:=by omega
  have hcI:¬((j2:Int)<(i2:Int)):=by omega
  rw[if_neg hc,if_pos (by omega)]at hR;rw[hR];have hx:=AD h (i:=i2) (by omega);have hy:=AD h (i:=j2) (by omega);have hsw:=Cb h i2 j2;have hll:=AH h;have hil:i2<l.length:=by omega
  have hjl:j2<l.length:=by omega
  have hj1:(j2:Int)-1=((j2-1:Nat):Int):=by omega
  generalize e[i2]! = u at *
  generalize e[j2]! = v at *
  obtain⟨v2,hv2⟩:=Ag (l:=l.set i2 v) (i:=j2) (by simp;omega)
  have fin:∃(i' j':Nat) (e':Array Nat) (l':List Nat),Is e' l'/\e'.size=n/\Sort.partLoop ltN a i' j' e'=Sort.partLoop ltN a (i2+1) (j2-1) (Sort.swp e i2 j2)/\i<i'/\i'<=j+1/\i'<=j'+2/\j'<=j/\(⟨[(0,.sc (.arr 0 n)),(1,intV a),(10,intV ((i2:Int)+1)),(11,intV ((j2-1:Nat):Int))],[(0,some (arrU ((l.set i2 v).set j2 u)))]⟩:St)=⟨[(0,.sc (.arr 0 n)),(1,intV a),(10,intV i'),(11,intV j')],[(0,some (arrU l'))]⟩:=
   ⟨i2+1,j2-1,_,_,hsw,by simp[hn],rfl,by omega,by omega,by omega,by omega,by simp⟩
  simp(maxSteps:=9^7) (disch:=try exact zd) [hcN,hcI,hx,hy,hv2,hj1,hll,hn,-getElem?_pos];grind
theorem YD {e:Array Nat}{l:List Nat}(h:Is e l){n:Nat}(hn:e.size=n)(a i j:Nat)(ha:a<n)(hj:j<n)(hl:n<=687194767360)(hi:1<=i)(hi2:i<=j+2):
 wp (K A) (.loop Jj) (fun x s'=>x=.exit 4/\∃(i' j':Nat) (e':Array Nat) (l':List Nat),Is e' l'/\e'.size=n/\Sort.partLoop ltN a i j e=(j',e')/\j'<n/\i'<=n+2/\s'=⟨[(0,.sc (.arr 0 n)),(1,intV a),(10,intV i'),(11,intV j'),(134,Aa true)],[(0,some (arrU l'))]⟩) ⟨[(0,.sc (.arr 0 n)),(1,intV a),(10,intV i),(11,intV j)],[(0,some (arrU l))]⟩:=by
 refine AW (fun r s=>∃(i' j':Nat) (e':Array Nat) (l':List Nat),Is e' l'/\e'.size=n/\Sort.partLoop ltN a i' j' e'=Sort.partLoop ltN a i j e/\i+r<=i'/\i'<=j'+2/\j'<=j/\s=⟨[(0,.sc (.arr 0 n)),(1,intV a),(10,intV i'),(11,intV j')],[(0,some (arrU l'))]⟩) (j+1) ⟨i,j,e,l,h,hn,rfl,qg _,hi2,qg _,rfl⟩ ?_ ?_;grind[wp_mono,QR];grind[wp_mono,QR]
theorem Ms (a i j:Nat)(d:Array Nat):Sort.partEqLoop ltN a i j d=
 if Sort.scanUp (fun x=>!ltN d[a]! x) d j i>Sort.scanDown (fun x=>ltN d[a]! x) d (Sort.scanUp (fun x=>!ltN d[a]! x) d j i) j then (Sort.scanUp (fun x=>!ltN d[a]! x) d j i,d)
 else if Sort.scanDown (fun x=>ltN d[a]! x) d (Sort.scanUp (fun x=>!ltN d[a]! x) d j i) j-1+1-(Sort.scanUp (fun x=>!ltN d[a]! x) d j i+1)<j+1-i then
  Sort.partEqLoop ltN a (Sort.scanUp (fun x=>!ltN d[a]! x) d j i+1) (Sort.scanDown (fun x=>ltN d[a]! x) d (Sort.scanUp (fun x=>!ltN d[a]! x) d j i) j-1) (Sort.swp d (Sort.scanUp (fun x=>!ltN d[a]! x) d j i) (Sort.scanDown (fun x=>ltN d[a]! x) d (Sort.scanUp (fun x=>!ltN d[a]! x) d j i) j))
 else (Sort.scanUp (fun x=>!ltN d[a]! x) d j i,d):=by
 grind[Sort.partEqLoop]
theorem Sl {e:Array Nat}{l:List Nat}(h:Is e l){n:Nat}(hn:e.size=n)(a i j:Nat)(ha:a<n)(hj:j<n)(hl:n<=687194767360)(hi:1<=i)(hi2:i<=j+2):
 wp (K A) Jr (fun x s'=>
  (x=.normal/\∃(i' j':Nat) (e':Array Nat) (l':List Nat),Is e' l'/\e'.size=n/\Sort.partEqLoop ltN a i' j' e'=Sort.partEqLoop ltN a i j e/\i<i'/\i'<=j+1/\i'<=j'+2/\j'<=j/\s'=⟨[(0,.sc (.arr 0 n)),(1,intV a),(9,intV i'),(10,intV j')],[(0,some (arrU l'))]⟩)\/
  (x=.exit 0/\∃(i' j':Nat),Sort.partEqLoop ltN a i j e=(i',e)/\j'<=j/\i'<=j+2/\s'=⟨[(0,.sc (.arr 0 n)),(1,intV a),(9,intV i'),(10,intV j'),(64,Aa true)],[(0,some (arrU l))]⟩)) ⟨[(0,.sc (.arr 0 n)),(1,intV a),(9,intV i),(10,intV j)],[(0,some (arrU l))]⟩:=by
 have hR:=Ms a i j e;unfold Jr;simp only[wp_block,wp_seq];refine wp_mono (Wi (A:=A) h hn a i j ha hj hl (by omega)) ?_;rintro _ _ ⟨rfl,rfl⟩;have g1:=HC (fun x=>!ltN e[a]! x) e j _ i (qg _);have g2:i<=j+1->Sort.scanUp (fun x=>!ltN e[a]! x) e j i<=j+1:=Ip (fun x=>!ltN e[a]! x) e j _ i (qg _);have g3:¬i<=j+1->Sort.scanUp (fun x=>!ltN e[a]! x) e j i=i:=fun hc=>CW (by omega)
 generalize Sort.scanUp (fun x=>!ltN e[a]! x) e j i=i2 at *
 simp only[blockQ_exit,beq_self_eq_true,cond_true,thenQ_normal,wp_block,wp_seq];refine wp_mono (Xh (A:=A) (xs:=[(43,Aa false)]) h hn a i2 j ha hj hl (by omega) (by omega) (.inr rfl)) ?_;rintro _ _ ⟨rfl,rfl⟩;have g4:=IE (fun x=>ltN e[a]! x) e i2 j;generalize Sort.scanDown (fun x=>ltN e[a]! x) e i2 j=j2 at *
 simp only[blockQ_exit,beq_self_eq_true,cond_true,thenQ_normal,wp_block,wp_seq];by_cases hc:i2>j2
 .have hcI:((j2:Int)<(i2:Int)):=by omega
  rw[if_pos hc]at hR;rw[hR];have fin:∃(i' j':Nat),((i2,e):Nat×Array Nat)=(i',e)/\j'<=j/\i'<=j+2/\(⟨[(0,.sc (.arr 0 n)),(1,intV a),(9,intV i2),(10,intV j2),(64,Aa true)],[(0,some (arrU l))]⟩:St)=⟨[(0,.sc (.arr 0 n)),(1,intV a),(9,intV i'),(10,intV j'),(64,Aa true)],[(0,some (arrU l))]⟩:=
   ⟨i2,j2,rfl,by omega,by omega,rfl⟩
  simp_all
 .have hcN:¬j2<i2:=by omega
  have hcI:¬((j2:Int)<(i2:Int)):=by omega
  rw[if_neg hc,if_pos (by omega)]at hR;rw[hR];have hx:=AD h (i:=i2) (by omega);have hy:=AD h (i:=j2) (by omega);have hsw:=Cb h i2 j2;have hll:=AH h;have hil:i2<l.length:=by omega
  have hjl:j2<l.length:=by omega
  have hj1:(j2:Int)-1=((j2-1:Nat):Int):=by omega
  generalize e[i2]! = u at *
  generalize e[j2]! = v at *
  obtain⟨v2,hv2⟩:=Ag (l:=l.set i2 v) (i:=j2) (by simp;omega)
  have fin:∃(i' j':Nat) (e':Array Nat) (l':List Nat),Is e' l'/\e'.size=n/\Sort.partEqLoop ltN a i' j' e'=Sort.partEqLoop ltN a (i2+1) (j2-1) (Sort.swp e i2 j2)/\i<i'/\i'<=j+1/\i'<=j'+2/\j'<=j/\(⟨[(0,.sc (.arr 0 n)),(1,intV a),(9,intV ((i2:Int)+1)),(10,intV ((j2-1:Nat):Int))],[(0,some (arrU ((l.set i2 v).set j2 u)))]⟩:St)=⟨[(0,.sc (.arr 0 n)),(1,intV a),(9,intV i'),(10,intV j')],[(0,some (arrU l'))]⟩:=
   ⟨i2+1,j2-1,_,_,hsw,by simp[hn],rfl,by omega,by omega,by omega,by omega,by simp⟩
  simp(maxSteps:=9^7) (disch:=try exact zd) [hcN,hcI,hx,hy,hv2,hj1,hll,hn,-getElem?_pos];grind
theorem Zal {e:Array Nat}{l:List Nat}(h:Is e l){n:Nat}(hn:e.size=n)(a i j:Nat)(ha:a<n)(hj:j<n)(hl:n<=687194767360)(hi:1<=i)(hi2:i<=j+2):
 wp (K A) (.loop Jr) (fun x s'=>x=.exit 0/\∃(i' j':Nat) (e':Array Nat) (l':List Nat),Is e' l'/\e'.size=n/\Sort.partEqLoop ltN a i j e=(i',e')/\j'<n/\i'<=n+2/\s'=⟨[(0,.sc (.arr 0 n)),(1,intV a),(9,intV i'),(10,intV j'),(64,Aa true)],[(0,some (arrU l'))]⟩) ⟨[(0,.sc (.arr 0 n)),(1,intV a),(9,intV i),(10,intV j)],[(0,some (arrU l))]⟩:=by
 refine AW (fun r s=>∃(i' j':Nat) (e':Array Nat) (l':List Nat),Is e' l'/\e'.size=n/\Sort.partEqLoop ltN a i' j' e'=Sort.partEqLoop ltN a i j e/\i+r<=i'/\i'<=j'+2/\j'<=j/\s=⟨[(0,.sc (.arr 0 n)),(1,intV a),(9,intV i'),(10,intV j')],[(0,some (arrU l'))]⟩) (j+1) ⟨i,j,e,l,h,hn,rfl,qg _,hi2,qg _,rfl⟩ ?_ ?_;grind[wp_mono,Sl];grind[wp_mono,Sl]
theorem XI {e:Array Nat}{l:List Nat}(h:Is e l){n:Nat}(hn:e.size=n)(a b p:Nat)(ha:a<=p)(hp:p<b)(hb:b<=n)(hl:n<=687194767360):
 (K A).call 277 [.sc (.arr 0 n),intV a,intV b,intV p] [arrU l]=some (intV (Sort.partitionEqual ltN e a b p).1,[arrU (Sort.partitionEqual ltN e a b p).2.toList]):=by
 generalize hR:Sort.partitionEqual ltN e a b p=R;unfold Sort.partitionEqual at hR;have hx:=AD h (i:=a) (by omega);have hy:=AD h (i:=p) (by omega);have hsw:=Cb h a p;have hll:=AH h;have hal:a<l.length:=by omega
 have hpl:p<l.length:=by omega
 have hsz:(Sort.swp e a p).size=n:=by simp[hn]
 generalize Sort.swp e a p=e1 at *
 generalize e[a]! = u at *
 generalize e[p]! = v at *
 obtain⟨v2,hv2⟩:=Ag (l:=l.set a v) (i:=p) (by grind);have hb1:(b:Int)-1=((b-1:Nat):Int):=by omega
 have ha1:(a:Int)+1=((a+1:Nat):Int):=by omega
 have hw:=Zal (A:=A) hsw hsz a (a+1) (b-1) (by omega) (by omega) hl (by omega) (by omega);rw[hR]at hw;generalize b-1=b1 at *
 generalize a+1=a1 at *
 refine fnO v277 ?_;unfold v277;simp(maxSteps:=9^7) (disch:=try exact zd) [hx,hy,hv2,hb1,ha1,hll,hn,-getElem?_pos];refine wp_mono hw ?_;rintro _ _ ⟨rfl,i',j',e',l',k1,k2,rfl,k4,k5,rfl⟩;have hll:=AH k1;simp(maxSteps:=9^7) (disch:=try exact zd) [hll,k2,isEq k1]
variable {A:Ab}
theorem ZcU {e:Array Nat}{l:List Nat}(h:Is e l){n:Nat}(hn:e.size=n)(a b p:Nat)(ha:a<=p)(hp:p<b)(hb:b<=n)(hl:n<=687194767360):
 (K A).call 278 [.sc (.arr 0 n),intV a,intV b,intV p] [arrU l]=some (.tu [intV (Sort.partition ltN e a b p).1,Aa (Sort.partition ltN e a b p).2.1],[arrU (Sort.partition ltN e a b p).2.2.toList]):=by
 generalize hR:Sort.partition ltN e a b p=R;dsimp only[Sort.partition]at hR;have hx:=AD h (i:=a) (by omega);have hy:=AD h (i:=p) (by omega);have hsw:=Cb h a p;have hll:=AH h;have hal:a<l.length:=by omega
 have hpl:p<l.length:=by omega
 have hsz:(Sort.swp e a p).size=n:=by simp[hn]
 generalize Sort.swp e a p=e1 at *
 generalize e[a]! = u at *
 generalize e[p]! = v at *
 obtain⟨v2,hv2⟩:=Ag (l:=l.set a v) (i:=p) (by simp;omega);have hb1:(b:Int)-1=((b-1:Nat):Int):=by omega
 have ha1:(a:Int)+1=((a+1:Nat):Int):=by omega
 have hw1:=Vo (A:=A) hsw hsz a (a+1) (b-1) (by omega) (by omega) hl (by omega);have g1:=HC (fun x=>ltN x e1[a]!) e1 (b-1) _ (a+1) (qg _);have g2:=Ip (fun x=>ltN x e1[a]!) e1 (b-1) _ (a+1) (qg _) (by omega);generalize Sort.scanUp (fun x=>ltN x e1[a]!) e1 (b-1) (a+1)=i2 at *
 have hw2:=Zcq (A:=A) (xs:=[(43,Aa false)]) hsw hsz a i2 (b-1) (by omega) (by omega) hl (by omega) (by omega) (.inr rfl);have g4:=IE (fun x=>!ltN x e1[a]!) e1 i2 (b-1);generalize Sort.scanDown (fun x=>!ltN x e1[a]!) e1 i2 (b-1)=j2 at *
 generalize hb1e:b-1=b1 at *
 generalize ha1e:a+1=a1 at *
 generalize hl1:(l.set a v).set p u=l1 at *
 have hll1:=AH hsw;have hx1:=AD hsw (i:=a) (by omega);have hy1:=AD hsw (i:=j2) (by omega);have hal1:a<l1.length:=by omega
 have hjl1:j2<l1.length:=by omega
 refine fnO v278 ?_;unfold v278;simp(maxSteps:=9^7) (disch:=try exact zd) [hx,hy,hv2,hb1,ha1,hll,hn,hl1,-getElem?_pos];refine wp_mono hw1 ?_;rintro _ _ ⟨rfl,rfl⟩;simp only[blockQ_exit,beq_self_eq_true,cond_true,thenQ_normal,wp_block,wp_seq];refine wp_mono hw2 ?_;rintro _ _ ⟨rfl,rfl⟩;by_cases hc:i2>j2
 .have hcI:(j2:Int)<(i2:Int):=by omega
  rw[if_pos hc]at hR;subst hR;have hsw2:=Cb hsw j2 a;generalize e1[a]! = u1 at *
  generalize e1[j2]! = w1 at *
  obtain⟨v3,hv3⟩:=Ag (l:=l1.set j2 u1) (i:=a) (by simp;omega);have hsz2:=AH hsw2;simp(maxSteps:=9^7) (disch:=try exact zd) [hc,hcI,hx1,hy1,hv3,hll1,hsz,<-isEq hsw2,-getElem?_pos]
 .have hcN:¬j2<i2:=by omega
  have hcI:¬(j2:Int)<(i2:Int):=by omega
  rw[if_neg hc]at hR;have hz1:=AD hsw (i:=i2) (by omega);have hil1:i2<l1.length:=by omega
  have hsw2:=Cb hsw i2 j2;have hsz2:(Sort.swp e1 i2 j2).size=n:=by simp[hsz]
  have hj1:(j2:Int)-1=((j2-1:Nat):Int):=by omega
  have hi1:(i2:Int)+1=((i2+1:Nat):Int):=by omega
  have hw3:=YD (A:=A) hsw2 hsz2 a (i2+1) (j2-1) (by omega) (by omega) hl (by omega) (by omega);generalize Sort.swp e1 i2 j2=e2 at *
  generalize e1[i2]! = u1 at *
  generalize e1[j2]! = w1 at *
  generalize hPL:Sort.partLoop ltN a (i2+1) (j2-1) e2=PL at *
  generalize i2+1=i3 at *
  generalize j2-1=j3 at *
  obtain⟨v3,hv3⟩:=Ag (l:=l1.set i2 w1) (i:=j2) (by simp;omega);simp(maxSteps:=9^7) (disch:=try exact zd) [hcN,hcI,hz1,hy1,hv3,hj1,hi1,hll1,hsz,-getElem?_pos];refine wp_mono hw3 ?_;rintro _ _ ⟨rfl,i',j',e',l',k1,k2,rfl,k4,k5,rfl⟩;subst hR;have hll2:=AH k1;have hx2:=AD k1 (i:=a) (by omega);have hy2:=AD k1 (i:=j') (by omega);have hsw3:=Cb k1 j' a;have hal2:a<l'.length:=by omega
  have hjl2:j'<l'.length:=by omega
  generalize e'[a]! = u2 at *
  generalize e'[j']! = w2 at *
  obtain⟨v4,hv4⟩:=Ag (l:=l'.set j' u2) (i:=a) (by simp;omega);simp(maxSteps:=9^7) (disch:=try exact zd) [hx2,hy2,hv4,hll2,k2,<-isEq hsw3,-getElem?_pos]
end Go.Vs.Tryz
