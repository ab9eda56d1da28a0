/- Alpha equality by the program, walked. -/
import Derived.Test.YtccmnfpbcmccpaaGreatDoorR9s
import Derived.Sort.AssemblyPlain
set_option linter.unusedSimpArgs false
set_option linter.unusedVariables false
set_option linter.deprecated false
set_option maxRecDepth 9999
set_option maxHeartbeats 8000000
set_option maxRecDepth 10000
namespace Go.Vs
open Go
@[simp] theorem ownV_arr {oid k n:Nat} {own:List (Nat×Nat)} {L:Nat->Option Obj} {u:Upd}:ownV oid own L (.sc (.arr k n),u)=some (.sc (.arr k n),u):=by
 cases own with
 |nil=>rfl
 |cons p own=>simp[ownV]
end Go.Vs
namespace Go.Vs.Tryz
open Go Go.Vs
variable {A:Zab}
def Zhv (k:Int):Nat:=if k=5\/k=6\/k=7 then 2 else if k=4\/k=8\/k=9\/k=11 then 1 else 0
def shp1 (e:Exp):Prop:=e.wf1/\(e.kind=1->e.num=0/\e.ty=tz)/\e.kids.length=Zhv e.kind
def shp (e:Exp):Prop:=e.fold fun e l=>shp1 e/\∀p∈l,p
theorem ZeC (e:Exp):shp e=(shp1 e/\∀x∈e.children,shp x):=by
 have:=Exp.fold_eq (fun e (l:List Prop)=>shp1 e/\∀p∈l,p) e;unfold shp;rw[this];simp only[qO]
theorem shp.one {e:Exp}(h:shp e):shp1 e:=by rw[ZeC]at h;exact h.1
theorem shp.child {e x:Exp}(h:shp e)(hx:x∈e.children):shp x:=by rw[ZeC]at h;exact h.2 x hx
theorem shp.wf {e:Exp}:shp e->e.wf:=by
 induction e using Exp.ind with
 |h e ih=>
  intro h;rw[Exp.wf_eq];exact⟨h.one.1,fun x hx=>ih x hx (h.child hx)⟩
def zeroE:Exp:=.mk 0 0 [] 0 [] [] tz
def ZtR (e:Exp):List Exp:=List.replicate e.children.length zeroE
@[simp] theorem zerosM_len (e:Exp):(ZtR e).length=e.kids.length+e.arms.length:=by rw[ZtR,List.length_replicate,e.children_len]
def zrows (e:Exp)(i:Nat):List Exp:=(ZtR e).take i++e.children.drop i
variable {A:Zab}
theorem rawE1.shp1 {ds:List DataD}{e:Exp}(h:rawE1 ds e):shp1 e:=by
 refine⟨h.wf1,?_,?_⟩
 .intro hk
  exact⟨h.2.2.2.2.1 (by omega),h.2.2.2.1 (by omega)⟩
 .obtain ⟨_,_,_,_,_,h⟩:=h
  unfold Zhv;rcases h with ⟨k,_,hk,ha⟩|⟨k,_,hk,ha⟩|⟨k,_,hk,ha⟩|⟨k,_,⟨x,hk⟩,ha⟩|⟨k,_,⟨x,y,hk⟩,ha⟩|⟨k,_,⟨x,y,hk⟩,ha⟩|⟨k,_,⟨x,hk⟩,ha⟩|⟨k,_,x,hk⟩
  .rw[hk,if_neg (by omega),if_neg (by omega)];rfl
  .rw[hk,if_neg (by omega),if_neg (by omega)];rfl
  .rw[hk,if_neg (by omega),if_neg (by omega)];rfl
  .rw[hk,if_neg (by omega),if_pos (by omega)];rfl
  .rw[hk,if_pos (by omega)];rfl
  .rw[hk,if_pos (by omega)];rfl
  .rw[hk,if_neg (by omega),if_pos (by omega)];rfl
  .rw[hk,if_neg (by omega),if_pos (by omega)];rfl
theorem rawE.shp {ds:List DataD}{e:Exp}:rawE ds e->shp e:=by
 induction e using Exp.ind with
 |h e ih=>
  intro h;rw[ZeC];exact⟨h.one.shp1,fun x hx=>ih x hx (h.child hx)⟩
theorem headEq.shp1 {e c:Exp}(h:headEq e c)(hk:e.kind≠1)(hs:shp1 e):shp1 c:=by
 obtain⟨h1,h2,h3,h4,h5⟩:=h;obtain⟨⟨w1,w2,w3⟩,_,w5⟩:=hs;refine⟨⟨fun h8=>?_,fun h8=>?_,fun h8=>absurd (h1.trans h8) hk⟩,fun h8=>absurd (h1.trans h8) hk,?_⟩
 .rw[<-h4];exact w1 (h1.trans h8)
 .have:=w2 (by rw [h1];exact h8)
  rw[this]at h5;exact qL.1 h5.symm
 .rw[<-h4,w5,h1]
theorem IffB.get {P:Prop}{r:V×List Obj}(h:IffB P r)(hp:P):r=(Zae true,[]):=by
 obtain⟨v,hv,rfl⟩:=h;rw[hv.2 hp]
variable {A:Zab}
abbrev u64V (n:Nat):V:=.sc (.c (.int .u64 n))
def Zi4 (n:Nat):List Cell:=[.int .u64 n]
def ZbP (d:List Nat):List (List Cell):=d.map Zi4
@[simp] theorem u64Row_len (n:Nat):(Zi4 n).length=1:=rfl
@[simp] theorem u64Rows_len (d:List Nat):(ZbP d).length=d.length:=by simp[ZbP]
@[simp] theorem u64Rows_get (d:List Nat) (i:Nat):(ZbP d)[i]?=(d[i]?).map Zi4:=by simp[ZbP]
@[simp] theorem okRows_u64 (d:List Nat):Zbb 1 (wr (ZbP d))=true:=ZbE d u64Row_len
@[simp] theorem wc_u64 (n:Nat):wc (Zi4 n)=[.c (.int .u64 n)]:=rfl
@[simp] theorem u64Rows_snoc (d:List Nat) (x:Nat):wr (ZbP d)++[[W.c (.int .u64 x)]]=wr (ZbP (d++[x])):=by simp[ZbP,wr,Zi4]
@[simp] theorem u64_set (d:List Nat) (i x:Nat):setRow (wr (ZbP d)) i [W.c (.int .u64 x)]=wr (ZbP (d.set i x)):=by
 rw[setRow_set];simp[ZbP,wr,qa0,Zi4]
abbrev arrU (d:List Nat):Obj:=.arr 1 (wr (ZbP d)) 0
def Zk8 (a b:Nat)(d:List Nat):Prop:=∀(p q x y:Nat),a<=p->p<q->q<b->d[p]?=some x->d[q]?=some y->x<=y
def SortR (a b:Nat)(d e:List Nat):Prop:=e.Perm d/\(∀k,k<a\/b<=k->e[k]?=d[k]?)/\Zk8 a b e
def butAt (a i j:Nat)(d:List Nat):Prop:=∀(p q x y:Nat),a<=p->p<q->q<=i->q≠j->d[p]?=some x->d[q]?=some y->x<=y
theorem Zb6 (a b:Nat):(K A).call 276 [u64V a,u64V b] []=some (Zae (decide (a<b)),[]):=by
 refine fnO v276 ?_;have h:∀n:Nat,(K A).call 296 [u64V n] []=some (Zae false,[]):=fun n=>by
  refine fnO v296 ?_;unfold v296;simp
 unfold v276;simp[h]
def retV:V:=.tu []
def Zcc (d:List Nat):Nat->List Nat
 |0=>[]
 |m+1=>match d[m]? with
  |none=>Zcc d m
  |some x=>if 0<m/\d[m-1]?=some x then Zcc d m else Zcc d m++[x]
theorem Zfm {d:List Nat}{m x:Nat}(h:d[m]?=some x)(hn:¬(0<m/\d[m-1]?=some x)):Zcc d (m+1)=Zcc d m++[x]:=by
 grind[Zcc]
theorem Zfl {d:List Nat}{m x:Nat}(h:d[m]?=some x)(hm:0<m)(hn:d[m-1]?=some x):Zcc d (m+1)=Zcc d m:=by
 grind[Zcc]
theorem ZlJ (d:List Nat):∀m,(Zcc d m).length<=m
 |0=>by simp[Zcc]
 |m+1=>by
  have:=ZlJ d m;grind[Zcc]
theorem ZiF {d:List Nat}{x:Nat}:∀{m:Nat},x∈Zcc d m↔∃k,k<m/\d[k]?=some x
 |0=>by simp[Zcc]
 |m+1=>by
  have ih:=@ZiF d x m;cases h:d[m]? with
  |none=>
   grind[Zcc]
  |some y=>
   by_cases hn:0<m/\d[m-1]?=some y;grind[Zfl]
   .rw [Zfm h hn,ql,ih]
    grind
def ZjO (l:List Nat):Prop:=∀(p q x y:Nat),p<q->l[p]?=some x->l[q]?=some y->x<y
theorem ZmS {l:List Nat}{x:Nat}(h:ZjO l)(hx:∀y∈l,y<x):ZjO (l++[x]):=by
 intro p q u v hpq hu hv;have hq:=(qd.1 hv).1;simp only[qv,List.length_singleton]at hq;rw[qx (by omega)]at hu;rcases qbl q l.length with h1|h1
 .rw [qx h1] at hv
  exact h p q u v hpq hu hv
 .rw [qN h1,show q-l.length=0 by omega] at hv
  cases hv;exact hx u (qa hu)
theorem Zhj {d:List Nat}(hs:Zk8 0 d.length d):∀m,ZjO (Zcc d m)
 |0=>fun p q x y _ hx=>by simp[Zcc]at hx
 |m+1=>by
  have ih:=Zhj hs m;cases h:d[m]? with
  |none=>grind[Zcc]
  |some y=>
   by_cases hn:0<m/\d[m-1]?=some y;grind[Zfl]
   .rw [Zfm h hn]
    refine ZmS ih fun u hu=>?_;obtain⟨k,hk,hx⟩:=ZiF.1 hu;have hm:=(qd.1 h).1;have h1:=hs k m u y (qad _) hk hm hx h;rcases qba h1 with h2|h2
    omega
    .exfalso
     obtain⟨z,hz⟩:=Zaa (l:=d) (i:=m-1) (by omega);have h3:z=y:=by
      have h4:=hs (m-1) m z y (qad _) (by omega) hm hz h;rcases qbl k (m-1)with h5|h5
      .have h6:=hs k (m-1) u z (qad _) h5 (by omega) hx hz
       omega
      grind
     grind
def bump (k i:Nat):Nat:=if i<=k then k+1 else k
def ZhA (l:List Nat)(k:Nat):Nat:=(l.filter fun j=>decide (j<k)).length
theorem ZjH:∀{l:List Nat}{k:Nat},l.Nodup->ZhA l (k+1)=ZhA l k+if k∈l then 1 else 0
 |[],k,_=>by rfl
 |a::l,k,h=>by
  have ih:=@ZjH l k (qbd.1 h).2;grind[ZhA]
theorem ZlQ:∀{l:List Nat},ZjO l->l.Nodup:=by
 intro l h;rw[List.nodup_iff_pairwise_ne];rw[List.pairwise_iff_getElem];intro i j hi hj hij heq;have:=h i j l[i] l[j] hij (qh hi) (qh hj);omega
theorem Zoj {l:List Nat}(hl:ZjO l)(n:Nat):∀t,t<=l.length->(((l.take t).foldl bump (n+1))=n+1+ZhA (l.take t) ((l.take t).foldl bump (n+1)))/\(l.take t).foldl bump (n+1)∉l.take t
 |0,_=>by simp[ZhA]
 |t+1,ht=>by
  obtain⟨h1,h2⟩:=Zoj hl n t (by omega);obtain⟨c,hc⟩:=Zaa (l:=l) (i:=t) (by omega);rw[Zam hc,qaS,qav,List.foldl_nil];generalize hk:(l.take t).foldl bump (n+1)=k at h1 h2;have hlt:∀x∈l.take t,x<c:=by
   intro x hx;obtain⟨i,hi⟩:=qk.1 hx;rw[qW]at hi;split at hi
   .rename_i hit
    exact hl i t x c hit hi hc
   grind
  unfold bump;by_cases hck:c<=k;grind[ZhA,List.filter_congr];grind[ZhA]
def Zd9 (taken:List Str)(a b:Nat):Nat:=((List.range b).filter fun j=>decide (a<=j/\Zbj j∉taken)).length
theorem ZcH (taken:List Str)(a b:Nat)(h:a<=b):Zd9 taken a (b+1)=Zd9 taken a b+if Zbj b∉taken then 1 else 0:=by
 grind[Zd9,List.range_succ]
theorem ZgI (taken:List Str)(a:Nat):Zd9 taken a a=0:=by
 grind[Zd9,List.filter_eq_nil_iff]
theorem ZfD (taken:List Str)(a:Nat):∀b,a<b->Zd9 taken a b=(if Zbj a∉taken then 1 else 0)+Zd9 taken (a+1) b
 |0,h=>by omega
 |b+1,h=>by
  rcases qbl a b with h1|h1
  .rw [ZcH _ _ _ (by omega),ZcH _ _ _ (by omega),ZfD taken a b h1]
   omega
  grind[ZcH,ZgI]
theorem ZcV (taken:List Str):∀f k n,n+ZdE taken k<f->Zd9 taken k (Zc8 taken f k n)=n
 |0,k,n,h=>by omega
 |f+1,k,n,h=>by
  simp only[Zc8];split
  .rename_i hm
   have h1:=ZcV taken f (k+1) n (by grind[Zip]);grind[Zcx,ZfD]
  .rename_i hm
   split;grind[ZgI]
   .have h1:=ZcV taken f (k+1) (n-1) (by grind [Zem])
    grind[Zcx,ZfD]
theorem Zj6 (taken:List Str)(a:Nat):∀{b c},a<=b->b<=c->Zd9 taken a b<=Zd9 taken a c:=by
 intro b c hab hbc
 induction c<;>grind[ZcH]
theorem ZeL {taken:List Str}{n k:Nat}(h1:1<=k)(hk:Zbj k∉taken)(hc:Zd9 taken 1 k=n):ZaW n taken=k:=by
 have hn:=Zbn n taken;have hm:Zd9 taken 1 (ZaW n taken)=n:=ZcV taken _ _ _ (by grind[ZeU]);have h2:1<=ZaW n taken:=Zcx taken _ 1 n;have hr:Zbj (ZaW n taken)∉taken:=hn;generalize ZaW n taken=r at hr hm h2 |-;rcases Nat.lt_trichotomy r k with h|h|h
 .have h3:=Zj6 taken 1 (b:=r+1) (c:=k) (by omega) (by omega)
  grind[ZcH]
 omega
 .have h3:=Zj6 taken 1 (b:=k+1) (c:=r) (by omega) (by omega)
  grind[ZcH]
theorem ZmK {t t':List Str}(h:∀s,s∈t↔s∈t')(n:Nat):ZaW n t=ZaW n t':=by
 have h1:1<=ZaW n t':=Zcx t' _ 1 n;have hm:Zd9 t' 1 (ZaW n t')=n:=ZcV t' _ _ _ (by have:=ZeU t' 1;omega);refine ZeL h1 (fun hk=>Zbn n t' ((h _).1 hk)) ?_
 calc Zd9 t 1 (ZaW n t')=Zd9 t' 1 (ZaW n t'):=by unfold Zd9;simp only[h]
  _=n:=hm
theorem Zhh {t t':List Str}(h:∀s,s∈t↔s∈t')(n:Nat):Zat n t=Zat n t':=by rw[Zat,Zat,ZmK h]
theorem ZoN {e:Exp}{s:Str}:∀n,s∈outP e n->n<=e.children.length->∃(i:Nat) (x:Exp),e.children[i]?=some x/\s∈Zaf x/\s∉e.bound i
 |0,h,_=>by simp[outP]at h
 |n+1,h,hn=>by
  obtain⟨x,hx⟩:=Zaa (l:=e.children) (i:=n) (by omega);rw[ZiE hx,Zeu]at h;rcases h with h|h
  .exact ZoN n h (by omega)
  .exact⟨n,x,hx,h.1,h.2⟩
theorem Zbs {e:Exp}{s:Str}(hk:e.kind≠1):s∈Zaf e↔∃(i:Nat) (x:Exp),e.children[i]?=some x/\s∈Zaf x/\s∉e.bound i:=by
 constructor
 .intro h
  rw[ZcP,if_neg hk,<-Zli]at h;exact ZoN _ h (qe _)
 .rintro ⟨i,x,hx,hs,hb⟩
  exact(ZqW hk hx hs).resolve_left hb
theorem ZaZ {e:Exp}{s:Str}(hk:e.kind=1):s∈Zaf e↔s=e.name:=by rw[ZcP,if_pos hk,qj]
theorem Ze3 {e:Exp}(h:e.wf1)(hk:e.kind=1):e.kids=[]/\e.arms=[]/\e.children=[]:=by
 have h1:=h.2.2 hk;have h2:=h.2.1 (by rw[hk];decide);exact⟨h1,h2,by simp[Exp.children,h1,h2]⟩
theorem Ze9 {a b:Exp}(h:sameP a b)(i:Nat):a.bound i=b.bound i:=by
 rw[Zcd]at h;obtain⟨h1,h2,_,_,_,h6,h7,_⟩:=h;rw[ZaM,ZaM,h1,h2];cases hp:a.arms[i-1]? with
 |none=>
  have:b.arms[i-1]?=none:=by rw[qaN]at hp |-;omega
  rw[this]
 |some p=>
  obtain⟨q,hq⟩:=Zaa (l:=b.arms) (i:=i-1) (by have:=(qd.1 hp).1;omega);rw[hq];simp only[qp,Option.getD_some,(h7 _ p q hp hq).2]
theorem ZjY (a:Exp):∀b,sameP a b->sameP b a:=by
 induction a using Exp.ind with
 |h a ih=>
  intro b h;rw[Zcd]at h |-;obtain⟨h1,h2,h3,h4,h5,h6,h7,h8⟩:=h;exact⟨h1.symm,h2.symm,h3.symm,h4.symm,h5.symm,h6.symm,fun i p q hp hq=>⟨(h7 i q p hq hp).1.symm,(h7 i q p hq hp).2.symm⟩,fun i x y hx hy=>ih y (qa hy) x (h8 i y x hy hx)⟩
def nmN1 (e:Exp):Prop:=e.kind=1\/e.kind=2\/e.kind=4\/e.kind=6\/e.kind=7\/e.name=[]
def nmN (e:Exp):Prop:=e.fold fun e l=>nmN1 e/\∀p∈l,p
theorem Zr0 (e:Exp):nmN e=(nmN1 e/\∀x∈e.children,nmN x):=by
 have:=Exp.fold_eq (fun e (l:List Prop)=>nmN1 e/\∀p∈l,p) e;unfold nmN;rw[this];simp only[qO]
theorem nmN.one {e:Exp}(h:nmN e):nmN1 e:=by rw[Zr0]at h;exact h.1
theorem nmN.child {e x:Exp}(h:nmN e)(hx:x∈e.children):nmN x:=by rw[Zr0]at h;exact h.2 x hx
theorem rawE.nmN {ds:List DataD}{e:Exp}:rawE ds e->nmN e:=by
 induction e using Exp.ind with
 |h e ih=>
  intro h;rw[Zr0];refine⟨?_,fun x hx=>ih x hx (h.child hx)⟩;obtain⟨_,_,_,_,_,h⟩:=h.one;unfold nmN1;rcases h with ⟨k,_⟩|⟨k,_⟩|⟨_,n,_⟩|⟨k,_⟩|⟨_,n,_⟩|⟨k,_⟩|⟨_,n,_⟩|⟨_,n,_⟩
  .exact .inl k
  .exact .inr (.inl k)
  .exact .inr (.inr (.inr (.inr (.inr n))))
  .exact .inr (.inr (.inl k))
  .exact .inr (.inr (.inr (.inr (.inr n))))
  .rcases k with k|k
   .exact .inr (.inr (.inr (.inl k)))
   .exact .inr (.inr (.inr (.inr (.inl k))))
  .exact .inr (.inr (.inr (.inr (.inr n))))
  .exact .inr (.inr (.inr (.inr (.inr n))))
abbrev Rep:=Str->Exp->Prop
def isVar (s:Str)(c:Exp):Prop:=c.kind=1/\c.name=s/\c.num=0/\c.ty=tz/\c.kids=[]/\c.arms=[]
def Rep.ext (V:Rep)(bs cs:List Str):Rep:=fun s c=>(s∈bs/\∃t,t∈cs/\rlast bs s=rlast cs t/\isVar t c)\/(s∉bs/\V s c/\∀u∈Zaf c,u∉cs)
def instF (a:Exp)(l:List (Exp->Rep->Prop))(c:Exp)(V:Rep):Prop:=
 (a.kind=1->V a.name c)/\(a.kind≠1->headEq a c/\(a.kind=2->a.name=c.name)/\ZiC a c/\∀(i:Nat) f y,l[i]?=some f->c.children[i]?=some y->f y (V.ext (a.bound i) (c.bound i)))
def instR (a:Exp):Exp->Rep->Prop:=a.fold instF
theorem ZhL (a c:Exp)(V:Rep):instR a c V=((a.kind=1->V a.name c)/\(a.kind≠1->headEq a c/\(a.kind=2->a.name=c.name)/\ZiC a c/\
 ∀(i:Nat) x y,a.children[i]?=some x->c.children[i]?=some y->instR x y (V.ext (a.bound i) (c.bound i)))):=by
 unfold instR;rw[Exp.fold_eq];unfold instF;simp only[qi,qo];apply propext;refine and_congr_right fun _=>forall_congr' fun _=>and_congr_right fun _=>and_congr_right fun _=>and_congr_right fun _=>forall_congr' fun i=>?_;constructor;simp_all
 .rintro h f y ⟨x,hx,rfl⟩ hy
  grind
theorem instR.var {a c:Exp}{V:Rep}(h:instR a c V)(hk:a.kind=1):V a.name c:=by grind[ZhL]
theorem instR.node {a c:Exp}{V:Rep}(h:instR a c V)(hk:a.kind≠1):headEq a c/\(a.kind=2->a.name=c.name)/\ZiC a c/\
 ∀(i:Nat) x y,a.children[i]?=some x->c.children[i]?=some y->instR x y (V.ext (a.bound i) (c.bound i)):=by grind[ZhL]
theorem instR.mkVar {a c:Exp}{V:Rep}(hk:a.kind=1)(h:V a.name c):instR a c V:=by grind[ZhL]
theorem instR.mk {a c:Exp}{V:Rep}(hk:a.kind≠1)(h:headEq a c/\(a.kind=2->a.name=c.name)/\ZiC a c/\
 ∀(i:Nat) x y,a.children[i]?=some x->c.children[i]?=some y->instR x y (V.ext (a.bound i) (c.bound i))):instR a c V:=by grind[ZhL]
theorem isVar.free {s:Str}{c:Exp}(h:isVar s c):Zaf c=[s]:=by rw[ZcP,if_pos h.1,h.2.1]
theorem isVar.inst {s:Str}{c d:Exp}{V:Rep}(h:isVar s c):instR c d V↔V s d:=
 ⟨fun hi=>h.2.1▸hi.var h.1,fun hv=>.mkVar h.1 (h.2.1.symm▸hv)⟩
theorem instR.mono (a:Exp):∀(c:Exp) (V W:Rep),instR a c V->(∀s∈Zaf a,∀d,V s d->W s d)->instR a c W:=by
 induction a using Exp.ind with
 |h a ih=>
  intro c V W h hm;by_cases hk:a.kind=1
  .exact .mkVar hk (hm _ ((ZaZ hk).2 rfl) _ (h.var hk))
  .obtain ⟨h1,h2,h3,h4⟩:=h.node hk
   refine .mk hk ⟨h1,h2,h3,fun i x y hx hy=>ih x (qa hx) y _ _ (h4 i x y hx hy) fun s hs d hd=>?_⟩;rcases hd with hd|⟨q1,q2,q3⟩
   .exact .inl hd
   .exact .inr ⟨q1,hm s ((Zbs hk).2 ⟨i,x,hx,hs,q1⟩) d q2,q3⟩
theorem instR.free_from (a:Exp):∀(c:Exp) (V:Rep),shp1 a->(∀x∈a.children,shp x)->instR a c V->∀u∈Zaf c,∃s∈Zaf a,∃d,V s d/\u∈Zaf d:=by
 induction a using Exp.ind with
 |h a ih=>
  intro c V hs1 hs h u hu;by_cases hk:a.kind=1
  .exact⟨a.name,(ZaZ hk).2 rfl,c,h.var hk,hu⟩
  .obtain ⟨h1,h2,h3,h4⟩:=h.node hk
   obtain⟨i,y,hy,huy,hub⟩:=(Zbs (h1.1▸hk)).1 hu;obtain⟨x,hx⟩:=Zaa (l:=a.children) (i:=i) (by rw[h1.children];grind);have hmx:=qa hx;obtain⟨s,hs',d,hd,hud⟩:=ih x hmx y _ (hs x hmx).one (fun z hz=>(hs x hmx).child hz) (h4 i x y hx hy) u huy;rcases hd with ⟨_,t,ht,_,hv⟩|⟨q1,q2,_⟩
   .rw [hv.free,qj] at hud
    grind
   grind[Zbs]
theorem instR.free_to (a:Exp):∀(c:Exp) (V:Rep),instR a c V->∀s∈Zaf a,∃d,V s d/\∀u∈Zaf d,u∈Zaf c:=by
 induction a using Exp.ind with
 |h a ih=>
  intro c V h s hs;by_cases hk:a.kind=1
  .rw [ZaZ hk] at hs
   subst hs;exact⟨c,h.var hk,fun u hu=>hu⟩
  .obtain ⟨h1,h2,h3,h4⟩:=h.node hk
   obtain⟨i,x,hx,hsx,hsb⟩:=(Zbs hk).1 hs;obtain⟨y,hy⟩:=Zaa (l:=c.children) (i:=i) (by rw[<-h1.children];grind);obtain⟨d,hd,hf⟩:=ih x (qa hx) y _ (h4 i x y hx hy) s hsx;rcases hd with ⟨q,_⟩|⟨_,q2,q3⟩
   grind
   .exact⟨d,q2,fun u hu=>(Zbs (h1.1▸hk)).2 ⟨i,y,hy,hf u hu,q3 u hu⟩⟩
def Rep.comp (V W:Rep):Rep:=fun s d=>∃c,V s c/\shp c/\instR c d W
theorem Zx5 {V W:Rep}{bs cs ds:List Str}{s:Str}{c d:Exp}(h1:V.ext bs cs s c)(hc:shp c)(h2:instR c d (W.ext cs ds)):(V.comp W).ext bs ds s d:=by
 rcases h1 with ⟨hs,t,ht,hr,hv⟩|⟨hs,hv,hf⟩
 .rw [hv.inst] at h2
  rcases h2 with ⟨_,u,hu,hru,hvu⟩|⟨q,_⟩
  .exact .inl ⟨hs,u,hu,hr.trans hru,hvu⟩
  grind
 .have hm:instR c d W:=h2.mono _ _ _ _ fun u hu e he=>by
   rcases he with ⟨q,_⟩|⟨_,q,_⟩<;>grind
  refine .inr ⟨hs,⟨c,hv,hc,hm⟩,fun u hu hud=>?_⟩;obtain⟨t,ht,e,he,hue⟩:=instR.free_from c d _ hc.one (fun x hx=>hc.child hx) h2 u hu;rcases he with ⟨q,_⟩|⟨_,_,q⟩<;>grind
def Rep.ok (V:Rep):Prop:=∀s c,V s c->shp c
theorem isVar.shp {s:Str}{c:Exp}(h:isVar s c):shp c:=by
 obtain⟨k,_,n,t,ks,am⟩:=h;rw[ZeC];refine⟨⟨⟨fun h8=>by omega,fun _=>am,fun _=>ks⟩,fun _=>⟨n,t⟩,?_⟩,fun x hx=>?_⟩
 .rw [ks,k]
  rfl
 grind[Exp.children]
theorem Rep.ok.ext {V:Rep}(h:V.ok)(bs cs:List Str):(V.ext bs cs).ok:=by
 rintro s c (⟨_,t,_,_,hv⟩|⟨_,hv,_⟩)
 .exact hv.shp
 .exact h s c hv
theorem instR.comp (a:Exp):∀(c d:Exp) (V W:Rep),V.ok->instR a c V->instR c d W->instR a d (V.comp W):=by
 induction a using Exp.ind with
 |h a ih=>
  intro c d V W ho h h';by_cases hk:a.kind=1
  .exact .mkVar hk ⟨c,h.var hk,ho _ _ (h.var hk),h'⟩
  .obtain ⟨h1,h2,h3,h4⟩:=h.node hk
   have hkc:c.kind≠1:=h1.1▸hk;obtain⟨g1,g2,g3,g4⟩:=h'.node hkc;refine .mk hk ⟨⟨h1.1.trans g1.1,h1.2.1.trans g1.2.1,h1.2.2.1.trans g1.2.2.1,h1.2.2.2.1.trans g1.2.2.2.1,h1.2.2.2.2.trans g1.2.2.2.2⟩,fun k=>(h2 k).trans (g2 (h1.1▸k)),fun i p q hp hq=>?_,fun i x z hx hz=>?_⟩
   .obtain ⟨u,hu⟩:=Zaa (l:=c.arms) (i:=i) (by have:=h1.2.2.2.2;grind)
    exact⟨(h3 i p u hp hu).1.trans (g3 i u q hu hq).1,(h3 i p u hp hu).2.trans (g3 i u q hu hq).2⟩
   .obtain ⟨y,hy⟩:=Zaa (l:=c.children) (i:=i) (by rw [<-h1.children];grind)
    refine(ih x (qa hx) y z _ _ (ho.ext _ _) (h4 i x y hx hy) (g4 i y z hy hz)).mono _ _ _ _ fun s _ e he=>?_;obtain⟨b,hb,hsb,hbe⟩:=he;grind[Zx5]
def ofR (R:Str->Str->Prop):Rep:=fun s c=>∃t,R s t/\isVar t c
def idV:Rep:=ofR fun s t=>s=t
theorem instR.refl (a:Exp):∀V:Rep,shp a->(∀s∈Zaf a,∀c,isVar s c->V s c)->instR a a V:=by
 induction a using Exp.ind with
 |h a ih=>
  intro V hs h;by_cases hk:a.kind=1
  .obtain ⟨a1,a2,a3⟩:=Ze3 hs.one.1 hk
   obtain⟨n,t⟩:=hs.one.2.1 hk;exact .mkVar hk (h a.name ((ZaZ hk).2 rfl) a ⟨hk,rfl,n,t,a1,a2⟩)
  .refine .mk hk ⟨⟨rfl,rfl,rfl,rfl,rfl⟩,fun _=>rfl,fun i p q hp hq => ?_,fun i x y hx hy => ?_⟩
   grind
   .rw [hx] at hy
    cases hy;refine ih x (qa hx) _ (hs.child (qa hx)) fun s hsx c hc=>?_;by_cases hb:s∈a.bound i
    .exact .inl ⟨hb,s,hb,rfl,hc⟩
    .refine .inr ⟨hb,h s ((Zbs hk).2 ⟨i,x,hx,hsx,hb⟩) c hc,fun u hu => ?_⟩
     rw[hc.free,qj]at hu;grind
variable {A:Zab}
theorem Zz7 (e:Exp):e.wf->e.weight<=1073741824->(K A).call 49 [expV e] []=some (expV (Zan e),[]):=by
 induction e using Exp.ind with
 |h e ih=>
 intro hwf hl;refine fnO v49 ?_;have hle:=e.children_le;rw[e.children_len]at hle;have hml:(e.children.map Zan).length=e.children.length:=by simp
 have hw:=ZfK (A:=A) e (e.children.map Zan) (by rw[hml,e.children_len]) hl;have hal:(ZaX e.arms ((e.children.map Zan).drop e.kids.length)).length=e.arms.length:=by rw[armsW_len,qV,hml,e.children_len];omega
 rw[Zjw]at hw;have hks:(Zan e).kids.length=e.kids.length:=(ZbM e).2.2.2.2.1;have has:(Zan e).arms.length=e.arms.length:=(ZbM e).2.2.2.2.2.1;have hsa:=Zj7 e;generalize ZaX e.arms ((e.children.map Zan).drop e.kids.length)=ws at *
 have hpl:(ZdK ws).length=ws.length:=armsP_len ws;by_cases hkids:e.kids=[]
 .have harms:e.arms=[]:=qP fun h=>by
   have h8:e.kind=8:=qP fun h8=>h (hwf.one.2.1 h8);have:=hwf.one.1 h8;rw[hkids]at this;simp at this
  have hc:=ZaT (A:=A) e hkids harms;have hch:e.children=[]:=by simp[Exp.children,hkids,harms]
  rw[hch]at hw;simp only[qX,exsV,rows0]at hw;unfold v49;simp(maxSteps:=4000000) (disch:=first|exact zd|fail) [hc,-getElem?_pos];refine Zak (fun i=>⟨[(1,.sc (.ptr 64 0)),(2,.sc (.ptr 128 0)),(3,.sc (.full [])),(9,.sc (.full [])),(10,intV 0),(11,intV i)],[(64,some (.box (wc e.row))),(128,some Zd7)]⟩) 0 (by simp) (fun i hi=>by omega) ?_;unfold ZvO
  simp(maxSteps:=4000000) (disch:=first|exact zd|fail) [hw,hal,-getElem?_pos];refine Zak (fun i=>⟨[(1,.sc (.ptr 64 0)),(2,.sc (.ptr 128 0)),(28,intV e.arms.length),(29,intV i)],
   [(64,some (.box [.c (.int .i64 e.kind),zi,.c (.str e.name),.c (.int .i64 e.num),.arr 1696 e.kids.length,.arr 1697 e.arms.length,.c (.int .i64 e.ty.kind),.c (.str e.ty.name),.c (.int .i64 e.ty.id),.c (.int .i64 e.ty.home),.c (.sl (Ty.rows e.ty.args))])),(128,some Zd7),(1696,some (.arr 11 (wr (Exp.rows (Zan e).kids)) 0)),(1697,some (.arr 14 (wr (Exp.armRows ((ZdK ws).take i++ws.drop i))) 0))]⟩) e.arms.length ?_ ?_ ?_
  .simp
  .intro i hi
   obtain⟨a,ha⟩:=Zaa (l:=ws) (i:=i) (by omega);have hz:(ZdK ws)[i]?=some ((⟨0,a.1.con,a.1.vars⟩:ArmH),a.2):=by
    unfold ZdK;rw[qi,ha];rfl
   have hg:=ZbL (i:=i) hpl (by omega);rw[ha]at hg;have hs:=Zbz hpl hz;have hln:=ZbN (i:=i) hpl;rw[<-hs];generalize (ZdK ws).take i++ws.drop i=zz at hg hln |-;have hset:=Zb1 zz i ((⟨0,a.1.con,a.1.vars⟩:ArmH),a.2);have hsp:=ZgV a;have hln2:zz.length=e.arms.length:=(by omega);unfold Zub;simp(maxSteps:=4000000) (disch:=first|exact zd|fail) [hi,hg,hln2,hsp,hset,Zbg,-getElem?_pos]
  .have ht:(ZdK ws).take e.arms.length++ws.drop e.arms.length=(Zan e).arms:=by
    rw[<-hal,qao,qF,qf (by omega),hsa]
   rw[ht];have hsr:=Zi9 e;unfold Zub;simp(maxSteps:=4000000) (disch:=first|exact zd|fail) [hsr,hks,has,-getElem?_pos]
 .have hc:=ZaP (A:=A) e hkids hl
  rw[e.children_len]at hc;unfold v49;simp(maxSteps:=4000000) (disch:=first|exact zd|fail) [hc,-getElem?_pos];refine Zak (fun i=>⟨[(1,.sc (.ptr 64 0)),(2,.sc (.ptr 128 0)),(3,.sc (.arr 288 (e.kids.length+e.arms.length))),(9,.sc (.arr 288 (e.kids.length+e.arms.length))),(10,intV ((e.kids.length:Int)+e.arms.length)),(11,intV i)],
   [(64,some (.box (wc e.row))),(128,some Zd7),(288,some (.arr 11 (wr (Exp.rows ((e.children.map Zan).take i++e.children.drop i))) 0))]⟩) (e.kids.length+e.arms.length) ?_ ?_ ?_
  .simp
  .intro i hi
   obtain⟨x,hx⟩:=Zaa (l:=e.children) (i:=i) (by rw[e.children_len];exact hi);have hmem:=qa hx;have hrec:=ih x hmem (hwf.child hmem) (by have:=Exp.child_lt hmem;omega);have hz:(e.children.map Zan)[i]?=some (Zan x):=(by simp[hx]);have hg:=ZbL (i:=i) hml (by rw[e.children_len];exact hi);rw[hx]at hg;have hs:=Zbz hml hz;have hln:=ZbN (i:=i) hml;rw[<-hs]
   generalize (e.children.map Zan).take i++e.children.drop i=zz at hg hln |-;have hset:=Zce zz i (Zan x);have hi':(i:Int)<(e.kids.length:Int)+e.arms.length:=(by omega);rw[e.children_len]at hln;unfold ZvO;simp(maxSteps:=4000000) (disch:=first|exact zd|fail) [hi,hi',hg,hln,hrec,hset,Zbg,-getElem?_pos]
  .have ht:(e.children.map Zan).take (e.kids.length+e.arms.length)++e.children.drop (e.kids.length+e.arms.length)=e.children.map Zan:=by
    rw[qaa (by simp),qF,qf (by simp)]
   rw[ht];unfold ZvO;simp(maxSteps:=4000000) (disch:=first|exact zd|fail) [hw,hml,hal,-getElem?_pos];refine Zak (fun i=>⟨[(1,.sc (.ptr 64 0)),(2,.sc (.ptr 128 0)),(28,intV e.arms.length),(29,intV i)],
    [(64,some (.box [.c (.int .i64 e.kind),zi,.c (.str e.name),.c (.int .i64 e.num),.arr 1696 e.kids.length,.arr 1697 e.arms.length,.c (.int .i64 e.ty.kind),.c (.str e.ty.name),.c (.int .i64 e.ty.id),.c (.int .i64 e.ty.home),.c (.sl (Ty.rows e.ty.args))])),(128,some Zd7),(288,some (.arr 11 (wr (Exp.rows (e.children.map Zan))) (e.kids.length+e.arms.length))),(1696,some (.arr 11 (wr (Exp.rows (Zan e).kids)) 0)),(1697,some (.arr 14 (wr (Exp.armRows ((ZdK ws).take i++ws.drop i))) 0))]⟩) e.arms.length ?_ ?_ ?_
   .simp
   .intro i hi
    obtain⟨a,ha⟩:=Zaa (l:=ws) (i:=i) (by omega);have hz:(ZdK ws)[i]?=some ((⟨0,a.1.con,a.1.vars⟩:ArmH),a.2):=by
     unfold ZdK;rw[qi,ha];rfl
    have hg:=ZbL (i:=i) hpl (by omega);rw[ha]at hg;have hs:=Zbz hpl hz;have hln:=ZbN (i:=i) hpl;rw[<-hs];generalize (ZdK ws).take i++ws.drop i=zz at hg hln |-;have hset:=Zb1 zz i ((⟨0,a.1.con,a.1.vars⟩:ArmH),a.2);have hsp:=ZgV a;have hln2:zz.length=e.arms.length:=(by omega);unfold Zub;simp(maxSteps:=4000000) (disch:=first|exact zd|fail) [hi,hg,hln2,hsp,hset,Zbg,-getElem?_pos]
   .have ht:(ZdK ws).take e.arms.length++ws.drop e.arms.length=(Zan e).arms:=by
     rw[<-hal,qao,qF,qf (by omega),hsa]
    rw[ht];have hsr:=Zi9 e;unfold Zub;simp(maxSteps:=4000000) (disch:=first|exact zd|fail) [hsr,hks,has,-getElem?_pos]
variable {A:Zab}
def ltN (x y:Nat):Bool:=decide (x<y)
theorem swoN:Sort.SWO ltN:=⟨fun x=>by simp[ltN],fun x y z h1 h2=>by simp only[ltN,decide_eq_true_eq]at *;omega,fun x y z h1 h2=>by simp only[ltN,decide_eq_false_iff_not]at *;omega⟩
theorem Zht (x y:Nat):ltN x y=decide (x<y):=rfl
abbrev arrA (d:Array Nat):Obj:=arrU d.toList
def Is (e:Array Nat)(l:List Nat):Prop:=e.toList=l
theorem Zbf {e:Array Nat}{l:List Nat}(h:Is e l){i:Nat}(hi:i<e.size):l[i]?=some e[i]! :=by
 cases h;rw[qap];simp[hi]
theorem Ze1 {e:Array Nat}{l:List Nat}(h:Is e l)(i j:Nat):Is (Sort.swp e i j) ((l.set i e[j]!).set j e[i]!):=by
 cases h;unfold Is;simp[Sort.swp]
theorem Za5 {e:Array Nat}{l:List Nat}(h:Is e l):l.length=e.size:=by cases h;simp
theorem isEq {e:Array Nat}{l:List Nat}(h:Is e l):e.toList=l:=h
@[simp] theorem swp_size (d:Array Nat) (i j:Nat):(Sort.swp d i j).size=d.size:=by simp[Sort.swp]
theorem Zwi {a j:Nat}(e:Array Nat)(h:a<j):Sort.insInner ltN a j e=if e[j]! < e[j-1]! then Sort.insInner ltN a (j-1) (Sort.swp e j (j-1)) else e:=by
 obtain⟨k,rfl⟩:∃k,j=k+1:=⟨j-1,by omega⟩;rw[Sort.insInner];simp only[qaX,ltN,h,decide_true,Bool.true_and,decide_eq_true_eq,gt_iff_lt]
theorem Zv9 {a:Nat}(e:Array Nat):Sort.insInner ltN a a e=e:=by
 cases a with
 |zero=>rw[Sort.insInner]
 |succ a=>rw[Sort.insInner];simp
theorem ZzI (d:Array Nat)(a b:Nat)(hab:a<=b)(hb:b<=d.size)(hl:d.size<=1073741824):
 (K A).call 270 [.sc (.arr 0 d.size),intV a,intV b] [arrA d]=some (retV,[arrA (Sort.insertionSort ltN d a b)]):=by
 generalize hR:Sort.insertionSort ltN d a b=R;unfold Sort.insertionSort at hR;have hd:Is d d.toList:=rfl;generalize hn:d.size=n at *
 refine fnO v270 ?_;unfold v270;by_cases h0:a=b
 .subst h0
  rw[Sort.insOuter,if_neg (by omega)]at hR;subst hR;have h1:¬(a:Int)+1<a:=by omega
  simp(disch:=first|exact zd|fail);refine Zad (fun i s=>s=⟨[(0,.sc (.arr 0 n)),(1,intV a),(2,intV a),(6,intV ((a:Int)+1))],[(0,some (arrU d.toList))]⟩) 0 (by simp) (fun i s hi=>by omega) ?_;rintro s rfl;unfold ZoP;simp(disch:=first|exact zd|fail) [h1,retV]
 .simp (disch:=first|exact zd|fail)
  refine Zad (fun i s=>∃(e:Array Nat) (l:List Nat),Is e l/\e.size=n/\Sort.insOuter ltN a b (a+1+i) e=R/\s=⟨[(0,.sc (.arr 0 n)),(1,intV a),(2,intV b),(6,intV ((a+1+i:Nat):Int))],[(0,some (arrU l))]⟩) (b-(a+1))
   ⟨d,d.toList,hd,hn,hR,by simp⟩ ?_ ?_
  .rintro i s hi ⟨e,l,hel,he,hR,rfl⟩
   generalize hi0:a+1+i=i0 at *
   have hi1:(a:Int)+1+(i+1)=(i0:Int)+1:=(by omega);have hib:(i0:Int)<b:=(by omega);have hll:=Za5 hel;rw[Sort.insOuter,if_pos (by omega)]at hR;unfold ZoP;simp(disch:=first|exact zd|fail) [hib];refine Zad (fun r s=>∃(e2:Array Nat) (l2:List Nat),Is e2 l2/\e2.size=n/\Sort.insOuter ltN a b (i0+1) (Sort.insInner ltN a (i0-r) e2)=R/\
    s=⟨[(0,.sc (.arr 0 n)),(1,intV a),(2,intV b),(6,intV i0),(7,intV ((i0-r:Nat):Int))],[(0,some (arrU l2))]⟩) (i0-a)
    ⟨e,l,hel,he,hR,by simp⟩ ?_ ?_
   .rintro r s hr ⟨e2,l2,hel2,he2,hR2,rfl⟩
    generalize hj:i0-r=j at *
    have hx:=Zbf hel2 (i:=j) (by omega);have hy:=Zbf hel2 (i:=j-1) (by omega);have hsw:=Ze1 hel2 j (j-1);rw[Zwi e2 (by omega)]at hR2;have hl2:=Za5 hel2;generalize e2[j]! = x at *
    generalize e2[j-1]! = y at *
    have hja:(a:Int)<j:=(by omega);have hj1:(j:Int)-1=((j-1:Nat):Int):=(by omega);have hless:=Zb6 (A:=A) x y;have hjl:j<l2.length:=(by omega);have hjl2:j-1<l2.length:=(by omega);unfold ZpS;by_cases hxy:x<y
    .rw [if_pos hxy] at hR2
     simp(maxSteps:=4000000) (disch:=first|exact zd|fail) [hja,hj1,hx,hy,hl2,he2,hless,hxy,-getElem?_pos];have e1:i0-(r+1)=j-1:=(by omega);exact⟨_,_,hsw,by simp[he2],by rw[e1];exact hR2,by simp[e1]⟩
    .rw [if_neg hxy] at hR2
     simp(maxSteps:=4000000) (disch:=first|exact zd|fail) [hja,hj1,hx,hy,hl2,he2,hless,hxy,-getElem?_pos];refine⟨e2,l2,hel2,he2,?_,?_⟩
     .rw [show a+1+(i+1)=i0+1 by omega]
      exact hR2
     .simp[hi1]
   .rintro s ⟨e2,l2,hel2,he2,hR2,rfl⟩
    have hja:i0-(i0-a)=a:=(by omega);rw[hja,Zv9]at hR2;rw[hja];unfold ZpS;simp(maxSteps:=4000000) (disch:=first|exact zd|fail) [-getElem?_pos];refine⟨e2,l2,hel2,he2,?_,?_⟩
    .rw [show a+1+(i+1)=i0+1 by omega]
     exact hR2
    .simp[hi1]
  .rintro s ⟨e,l,hel,he,hR,rfl⟩
   have hbe:a+1+(b-(a+1))=b:=(by omega);rw[hbe,Sort.insOuter,if_neg (by omega)]at hR;subst hR;rw[hbe];unfold ZoP;simp(disch:=first|exact zd|fail) [retV,isEq hel]
theorem Zf1 {hi first root:Nat}(d:Array Nat)(h:2*root+1>=hi):Sort.siftDown ltN hi first root d=d:=by
 rw[Sort.siftDown,dif_pos h]
theorem ZyU {hi first root:Nat}(d:Array Nat)(h:2*root+2<hi)(hlt:d[first+(2*root+1)]! < d[first+(2*root+2)]!):
 Sort.siftDown ltN hi first root d=if d[first+root]! < d[first+(2*root+2)]! then Sort.siftDown ltN hi first (2*root+2) (Sort.swp d (first+root) (first+(2*root+2))) else d:=by
 rw[Sort.siftDown,dif_neg (by omega),show 2*root+1+1=2*root+2 by omega,show first+(2*root+1)+1=first+(2*root+2) by omega];simp only[ltN,h,hlt,decide_true,Bool.and_self,if_true,dite_true];by_cases h2:d[first+root]! < d[first+(2*root+2)]!
 .simp[h2]
 .simp[h2]
theorem Zy1 {hi first root:Nat}(d:Array Nat)(h:2*root+1<hi)(hlt:¬(2*root+2<hi/\d[first+(2*root+1)]! < d[first+(2*root+2)]!)):
 Sort.siftDown ltN hi first root d=if d[first+root]! < d[first+(2*root+1)]! then Sort.siftDown ltN hi first (2*root+1) (Sort.swp d (first+root) (first+(2*root+1))) else d:=by
 rw[Sort.siftDown,dif_neg (by omega),show 2*root+1+1=2*root+2 by omega,show first+(2*root+1)+1=first+(2*root+2) by omega];have hc:(decide (2*root+2<hi)&&ltN d[first+(2*root+1)]! d[first+(2*root+2)]!)=false:=by
  rw[ltN,<-Bool.decide_and,decide_eq_false_iff_not];exact hlt
 rw[hc];simp only[qE,if_false,ltN];by_cases h2:d[first+root]! < d[first+(2*root+1)]!
 .simp[h2]
 .simp[h2]
theorem siftA (d:Array Nat)(lo hi first:Nat)(hh:first+hi<=d.size)(hlo:lo<=1073741824)(hl:d.size<=1073741824):
 (K A).call 291 [.sc (.arr 0 d.size),intV lo,intV hi,intV first] [arrA d]=some (retV,[arrA (Sort.siftDown ltN hi first lo d)]):=by
 generalize hR:Sort.siftDown ltN hi first lo d=R
 have hd:Is d d.toList:=rfl;generalize hn:d.size=n at *
 refine fnO v291 ?_;unfold v291;simp(disch:=first|exact zd|fail);refine Zad (fun r s=>∃(root:Nat) (e:Array Nat) (l:List Nat),Is e l/\e.size=n/\Sort.siftDown ltN hi first root e=R/\r<=root/\root<=1073741824/\
  s=⟨[(0,.sc (.arr 0 n)),(2,intV hi),(3,intV first),(8,intV root)],[(0,some (arrU l))]⟩) hi
  ⟨lo,d,d.toList,hd,hn,hR,qad _,hlo,by simp⟩ ?_ ?_
 .rintro r s hr ⟨root,e,l,hel,he,hR,hrr,hrl,rfl⟩
  have hll:=Za5 hel;unfold ZvG;by_cases hstop:hi<=2*root+1
  .rw [Zf1 e hstop] at hR
   subst hR;have hs:(hi:Int)<=2*root+1:=(by omega);simp(maxSteps:=4000000) (disch:=first|exact zd|fail) [hs,retV,isEq hel,hll,he,-getElem?_pos]
  .have hs:¬(hi:Int)<=2*root+1:=by omega
   have hz:=Zbf hel (i:=first+root) (by omega);have hx:=Zbf hel (i:=first+(2*root+1)) (by omega);generalize hc:2*root+1=c at *
   have hcI:2*(root:Int)+1=c:=(by omega);have hsN:¬hi<=c:=(by omega);generalize hp0:first+root=p0 at *
   generalize hp:first+c=p at *
   have hp0I:(first:Int)+root=p0:=(by omega);have hpI:(first:Int)+c=p:=(by omega);have hp0l:p0<l.length:=(by omega);have hpl:p<l.length:=(by omega);by_cases hr2:c+1<hi/\e[p]! < e[p+1]!
   .obtain ⟨h1,h2⟩:=hr2
    have hy:=Zbf hel (i:=p+1) (by omega);have hsw:=Ze1 hel p0 (p+1);have hR2:=ZyU (first:=first) (root:=root) e (by omega:2*root+2<hi) (by rw[show 2*root+2=c+1 by omega,show 2*root+1=c by omega,hp,show first+(c+1)=p+1 by omega];exact h2);rw[hR,hp0,show 2*root+2=c+1 by omega,show first+(c+1)=p+1 by omega]at hR2;have hless:=Zb6 (A:=A) e[p]! e[p+1]!;have hless2:=Zb6 (A:=A) e[p0]! e[p+1]!
    generalize e[p0]! = z at *
    generalize e[p]! = x at *
    generalize e[p+1]! = y at *
    have h1I:(c:Int)+1<hi:=(by omega);have hpI2:(first:Int)+(c+1)=((p+1:Nat):Int):=(by omega);have hpI3:(p:Int)+1=((p+1:Nat):Int):=(by omega);generalize hq:p+1=q at *
    have hql:q<l.length:=(by omega);by_cases hzy:z<y
    .rw [if_pos hzy] at hR2
     simp(maxSteps:=4000000) (disch:=first|exact zd|fail) [hs,hsN,hcI,hp0I,hpI,hpI2,hpI3,h1I,h2,hx,hy,hz,hll,he,hless,hless2,hzy,-getElem?_pos];exact⟨c+1,_,_,hsw,by simp[he],hR2.symm,by omega,by omega,by simp⟩
    .rw [if_neg hzy] at hR2
     subst hR2;simp(maxSteps:=4000000) (disch:=first|exact zd|fail) [hs,hsN,hcI,hp0I,hpI,hpI2,hpI3,h1I,h2,hx,hy,hz,hll,he,hless,hless2,hzy,retV,isEq hel,-getElem?_pos]
   .have hsw:=Ze1 hel p0 p
    have hR2:=Zy1 (first:=first) (root:=root) e (by omega:2*root+1<hi) (by rw[show 2*root+2=c+1 by omega,show 2*root+1=c by omega,hp,show first+(c+1)=p+1 by omega];exact hr2);rw[hR,hp0,show 2*root+1=c by omega,hp]at hR2;have hless2:=Zb6 (A:=A) e[p0]! e[p]!;by_cases h1:c+1<hi
    .have h2:¬e[p]! < e[p+1]! := fun h=>hr2 ⟨h1,h⟩
     have hy:=Zbf hel (i:=p+1) (by omega);have hless:=Zb6 (A:=A) e[p]! e[p+1]!;clear hr2;generalize e[p0]! = z at *
     generalize e[p]! = x at *
     generalize e[p+1]! = y at *
     have h1I:(c:Int)+1<hi:=(by omega);have hpI2:(first:Int)+(c+1)=((p+1:Nat):Int):=(by omega);have hpI3:(p:Int)+1=((p+1:Nat):Int):=(by omega);generalize hq:p+1=q at *
     have hql:q<l.length:=(by omega);by_cases hzy:z<x
     .rw [if_pos hzy] at hR2
      simp(maxSteps:=4000000) (disch:=first|exact zd|fail) [hs,hsN,hcI,hp0I,hpI,hpI2,hpI3,h1I,h2,hx,hy,hz,hll,he,hless,hless2,hzy,-getElem?_pos];exact⟨c,_,_,hsw,by simp[he],hR2.symm,by omega,by omega,by simp⟩
     .rw [if_neg hzy] at hR2
      subst hR2;simp(maxSteps:=4000000) (disch:=first|exact zd|fail) [hs,hsN,hcI,hp0I,hpI,hpI2,hpI3,h1I,h2,hx,hy,hz,hll,he,hless,hless2,hzy,retV,isEq hel,-getElem?_pos]
    .clear hr2
     generalize e[p0]! = z at *
     generalize e[p]! = x at *
     have h1I:¬(c:Int)+1<hi:=(by omega);by_cases hzy:z<x
     .rw [if_pos hzy] at hR2
      simp(maxSteps:=4000000) (disch:=first|exact zd|fail) [hs,hsN,hcI,hp0I,hpI,h1I,hx,hz,hll,he,hless2,hzy,-getElem?_pos];exact⟨c,_,_,hsw,by simp[he],hR2.symm,by omega,by omega,by simp⟩
     .rw [if_neg hzy] at hR2
      subst hR2;simp(maxSteps:=4000000) (disch:=first|exact zd|fail) [hs,hsN,hcI,hp0I,hpI,h1I,hx,hz,hll,he,hless2,hzy,retV,isEq hel,-getElem?_pos]
 .rintro s ⟨root,e,l,hel,he,hR,hrr,hrl,rfl⟩
  have hll:=Za5 hel;rw[Zf1 e (by omega)]at hR;subst hR;have hs:(hi:Int)<=2*root+1:=by omega
  unfold ZvG;simp(maxSteps:=4000000) (disch:=first|exact zd|fail) [hs,retV,isEq hel,hll,he,-getElem?_pos]
variable {A:Zab}
theorem Zh4 (hi first:Nat):∀(k root:Nat) (d:Array Nat),hi-root<=k->(Sort.siftDown ltN hi first root d).size=d.size
 |0,root,d,h=>by rw[Zf1 d (by omega)]
 |k+1,root,d,h=>by
  by_cases h1:2*root+1>=hi
  .rw[Zf1 d h1]
  .by_cases h2:2*root+2<hi/\d[first+(2*root+1)]! < d[first+(2*root+2)]!
   .rw [ZyU d h2.1 h2.2]
    split
    .rw[Zh4 hi first k _ _ (by omega),swp_size]
    .rfl
   .rw [Zy1 d (by omega) h2]
    split
    .rw[Zh4 hi first k _ _ (by omega),swp_size]
    .rfl
@[simp] theorem siftDown_size (hi first root:Nat) (d:Array Nat):(Sort.siftDown ltN hi first root d).size=d.size:=Zh4 hi first _ root d (qe _)
theorem siftL {e:Array Nat}{l:List Nat}(h:Is e l){n:Nat}(hn:e.size=n)(lo hi first:Nat)(hh:first+hi<=n)(hlo:lo<=1073741824)(hl:n<=1073741824):
 (K A).call 291 [.sc (.arr 0 n),intV lo,intV hi,intV first] [arrU l]=some (retV,[arrU (Sort.siftDown ltN hi first lo e).toList]):=by
 cases h;subst hn;exact siftA e lo hi first hh hlo hl
theorem heapA (d:Array Nat)(a b:Nat)(hab:a<b)(hb:b<=d.size)(hl:d.size<=1073741824):
 (K A).call 271 [.sc (.arr 0 d.size),intV a,intV b] [arrA d]=some (retV,[arrA (Sort.heapSort ltN d a b)]):=by
 generalize hR:Sort.heapSort ltN d a b=R;unfold Sort.heapSort at hR;have hd:Is d d.toList:=rfl;generalize hn:d.size=n at *
 refine fnO v271 ?_;unfold v271;generalize hh:b-a=hi at *
 have hhI:(b:Int)-a=hi:=by omega
 have hm1:(hi:Int)-1=((hi-1:Nat):Int):=by omega
 have hq:Int.tdiv ((hi-1:Nat):Int) 2=(((hi-1) / 2:Nat):Int):=by
  rw[qt (by omega)];omega
 generalize hk:(hi-1) / 2=k0 at *
 simp(maxSteps:=4000000) (disch:=first|exact zd|fail) [hhI,hm1,hq];refine Zad (fun r s=>∃(e:Array Nat) (l:List Nat),Is e l/\e.size=n/\Sort.heapPop ltN a hi (Sort.heapBuild ltN hi a (k0+1-r) e)=R/\
  s=⟨[(0,.sc (.arr 0 n)),(6,intV a),(7,intV 0),(8,intV hi),(9,intV ((k0:Int)-r))],[(0,some (arrU l))]⟩) (k0+1)
  ⟨d,d.toList,hd,hn,by rw[<-hR,qa8],by simp⟩ ?_ ?_
 .rintro r s hr ⟨e,l,hel,he,hR,rfl⟩
  obtain⟨i,hi1⟩:∃i,k0+1-r=i+1:=⟨k0-r,by omega⟩;rw[hi1,Sort.heapBuild]at hR;have hiI:(k0:Int)-r=(i:Int):=by omega
  have hs:=siftL (A:=A) hel he i hi a (by omega) (by omega) (by omega);have hsz:(Sort.siftDown ltN hi a i e).size=n:=by simp[he]
  rw[hiI];generalize hg:Sort.siftDown ltN hi a i e=g at *
  have hgl:g.toList.length=n:=by simp[hsz]
  unfold ZpM;simp(maxSteps:=4000000) (disch:=first|exact zd|fail) [hs,Za5 hel,he,hsz,retV,V.ren];refine⟨g,g.toList,rfl,hsz,?_,?_⟩
  .rw [show k0-r=i by omega]
   exact hR
  .simp
   omega
 .rintro s ⟨e,l,hel,he,hR,rfl⟩
  rw[show k0+1-(k0+1)=0 by omega,Sort.heapBuild]at hR;have hneg:¬(0:Int)<=(k0:Int)-((k0+1:Nat):Int):=by omega
  have hneg2:(k0:Int)-((k0:Int)+1)=-1:=by omega
  unfold ZpM;simp(maxSteps:=4000000) (disch:=first|exact zd|fail) [hneg,hneg2,hm1];refine Zad (fun r s=>∃(e:Array Nat) (l:List Nat),Is e l/\e.size=n/\Sort.heapPop ltN a (hi-r) e=R/\
   s=⟨[(0,.sc (.arr 0 n)),(6,intV a),(7,intV 0),(10,intV ((hi:Int)-1-r))],[(0,some (arrU l))]⟩) hi
   ⟨e,l,hel,he,hR,by simp;omega⟩ ?_ ?_
  .rintro r s hr ⟨e,l,hel,he,hR,rfl⟩
   obtain⟨i,hi1⟩:∃i,hi-r=i+1:=⟨hi-r-1,by omega⟩;rw[hi1,Sort.heapPop]at hR;have hiI:(hi:Int)-1-r=(i:Int):=(by omega);rw[hiI];have hx:=Zbf hel (i:=a) (by omega);have hy:=Zbf hel (i:=a+i) (by omega);have hsw:=Ze1 hel a (a+i);have hpI:(a:Int)+i=((a+i:Nat):Int):=(by omega);have hs:=siftL (A:=A) hsw (by simp[he]) 0 i a (by omega) (by omega) (by omega:n<=_)
   have hsz:(Sort.siftDown ltN i a 0 (Sort.swp e a (a+i))).size=n:=(by simp[he]);have h00:((0:Nat):Int)=0:=rfl;rw[h00]at hs;generalize hp:a+i=p at *
   generalize e[a]! = x at *
   generalize e[p]! = y at *
   have hpl:p<l.length:=(by rw[Za5 hel];omega);have hal:a<l.length:=(by rw[Za5 hel];omega);generalize hg:Sort.siftDown ltN i a 0 (Sort.swp e a p)=g at *
   have hgl:g.toList.length=n:=(by simp[hsz]);obtain⟨v,hv⟩:=Zaa (l:=l.set a y) (i:=p) (by simp;omega);unfold Zuj;simp(maxSteps:=4000000) (disch:=first|exact zd|fail) [hv,hx,hy,hpI,hs,Za5 hel,he,hsz,retV,V.ren,-getElem?_pos];refine⟨g,g.toList,rfl,hsz,?_,?_⟩
   .rw [show hi-(r+1)=i by omega]
    exact hR
   .simp
    omega
  .rintro s ⟨e,l,hel,he,hR,rfl⟩
   rw[qaV,Sort.heapPop]at hR;subst hR;have hneg:¬(0:Int)<=(hi:Int)-1-hi:=(by omega);have hneg3:(hi:Int)-1-hi=-1:=(by omega);unfold Zuj;simp(maxSteps:=4000000) (disch:=first|exact zd|fail) [hneg,hneg3,retV,isEq hel]
theorem Zwb (d:Array Nat)(a b:Nat)(hab:a<b)(hb:b<=d.size)(hl:d.size<=1073741824):
 (K A).call 274 [.sc (.arr 0 d.size),intV a,intV b] [arrA d]=some (retV,[arrA (Sort.reverseRange d a b)]):=by
 generalize hR:Sort.reverseRange d a b=R;unfold Sort.reverseRange at hR;have hd:Is d d.toList:=rfl;generalize hn:d.size=n at *
 refine fnO v274 ?_;unfold v274;have hb1:(b:Int)-1=((b-1:Nat):Int):=by omega
 simp(maxSteps:=4000000) (disch:=first|exact zd|fail) [hb1];refine Zad (fun r s=>∃(i j:Nat) (e:Array Nat) (l:List Nat),Is e l/\e.size=n/\Sort.reverseLoop i j e=R/\j+r<=b-1/\i<=b/\
  s=⟨[(0,.sc (.arr 0 n)),(6,intV i),(7,intV j)],[(0,some (arrU l))]⟩) b
  ⟨a,b-1,d,d.toList,hd,hn,hR,by omega,by omega,by simp⟩ ?_ ?_
 .rintro r s hr ⟨i,j,e,l,hel,he,hR,hj,hib,rfl⟩
  rw[Sort.reverseLoop]at hR;unfold ZyJ;by_cases hij:i<j
  .rw [if_pos hij] at hR
   have hx:=Zbf hel (i:=i) (by omega);have hy:=Zbf hel (i:=j) (by omega);have hsw:=Ze1 hel i j;generalize e[i]! = x at *
   generalize e[j]! = y at *
   have hil:i<l.length:=(by rw[Za5 hel];omega);have hjl:j<l.length:=(by rw[Za5 hel];omega);have hj1:(j:Int)-1=((j-1:Nat):Int):=(by omega);simp(maxSteps:=4000000) (disch:=first|exact zd|fail) [hij,hx,hy,hj1,Za5 hel,he,-getElem?_pos];exact⟨i+1,j-1,_,_,hsw,by simp[he],hR,by omega,by omega,by simp⟩
  .rw [if_neg hij] at hR
   subst hR;simp(maxSteps:=4000000) (disch:=first|exact zd|fail) [hij,retV,isEq hel]
 .rintro s ⟨i,j,e,l,hel,he,hR,hj,hib,rfl⟩
  omega
end Go.Vs.Tryz
namespace Go.Vs
open Go
def shlI (k:IntKind)(a b:Int):Int:=k.wrap (a*2 ^ (min b.toNat k.bits))
def xorI (k:IntKind)(a b:Int):Int:=k.wrap (BitVec.ofInt k.bits a ^^^ BitVec.ofInt k.bits b).toNat
@[simp] theorem b_shl {k k':IntKind} {a b:Int} (h:0<=b):binV .shl 0 (.sc (.c (.int k a))) (.sc (.c (.int k' b)))=some (.sc (.c (.int k (shlI k a b))),[]):=by
 simp[binV,binW,Zbq,Ze6,Int.not_lt.2 h,shlI]
@[simp] theorem b_xor {k:IntKind} {a b:Int}:binV .xor 0 (.sc (.c (.int k a))) (.sc (.c (.int k b)))=some (.sc (.c (.int k (xorI k a b))),[]):=by simp[binV,binW,Zbq,Zc6,xorI]
theorem Zba (n:Nat)(h:n<18446744073709551616):IntKind.u64.wrap (n:Int)=n:=by
 unfold IntKind.wrap;simp[IntKind.bits,IntKind.signed];omega
theorem Zrv (x:UInt64)(k:Nat)(hk:k<64)(y:UInt64)(hy:y.toNat=k):shlI .u64 x.toNat (k:Int)=((x <<< y).toNat:Int):=by
 unfold shlI;rw[UInt64.toNat_shiftLeft,hy,qQ hk,Nat.shiftLeft_eq,qag,show min k IntKind.u64.bits=k from qbe (Nat.le_of_lt hk)];unfold IntKind.wrap;simp[IntKind.bits,IntKind.signed]
theorem ZBn (x:UInt64)(k:Nat)(hk:k<64)(y:UInt64)(hy:y.toNat=k):shrI .u64 x.toNat (k:Int)=((x >>> y).toNat:Int):=by
 unfold shrI;rw[UInt64.toNat_shiftRight,hy,qQ hk,Nat.shiftRight_eq_div_pow,qag,show min k IntKind.u64.bits=k from qbe (Nat.le_of_lt hk)];rw[Int.fdiv_eq_ediv_of_nonneg _ (Int.le_of_lt (Int.pow_pos (by decide)))];simp
theorem Zzf (x y:UInt64):xorI .u64 x.toNat y.toNat=((x ^^^ y).toNat:Int):=by
 unfold xorI;have e:∀z:UInt64,BitVec.ofInt IntKind.u64.bits (z.toNat:Int)=z.toBitVec:=fun z=>by
  rw[BitVec.ofInt_natCast];apply BitVec.eq_of_toNat_eq;rw[BitVec.toNat_ofNat];exact qQ z.toNat_lt
 rw[e,e];exact Zba _ (x ^^^ y).toNat_lt
theorem ZAD (a b:Nat)(ha:a<18446744073709551616)(hb:b<18446744073709551616):andI .u64 a b=((a &&& b:Nat):Int):=by
 unfold andI;rw[BitVec.ofInt_natCast,BitVec.ofInt_natCast,BitVec.toNat_and,BitVec.toNat_ofNat,BitVec.toNat_ofNat];rw[show 2 ^ IntKind.u64.bits=18446744073709551616 from rfl,qQ ha,qQ hb];exact Zba _ (Nat.lt_of_le_of_lt Nat.and_le_left ha)
end Go.Vs
namespace Go.Vs.Tryz
open Go Go.Vs
variable {A:Zab}
abbrev boxI (s:Nat):Obj:=.box [.c (.int .i64 (s:Int))]
theorem ZnN {e:Array Nat}{l:List Nat}(h:Is e l){n:Nat}(hn:e.size=n)(a b s:Nat)(ha:a<n)(hb:b<n)(hs:s<=1000)(hl:n<=1073741824):
 (K A).call 301 [.sc (.arr 0 n),intV a,intV b,.sc (.ptr 1 0)] [arrU l,boxI s]=
   some (.tu [intV (Sort.order2 ltN e a b s).1,intV (Sort.order2 ltN e a b s).2.1],[arrU l,boxI (Sort.order2 ltN e a b s).2.2]):=by
 have hx:=Zbf h (i:=a) (by omega);have hy:=Zbf h (i:=b) (by omega);have hll:=Za5 h;have hless:=Zb6 (A:=A) e[b]! e[a]!;unfold Sort.order2;generalize e[a]! = x at *
 generalize e[b]! = y at *
 rw[Zht];have hal:a<l.length:=by omega
 have hbl:b<l.length:=by omega
 refine fnO v301 ?_;unfold v301;by_cases hlt:y<x
 .simp only [hlt,decide_true,if_true]
  simp(maxSteps:=4000000) (disch:=first|exact zd|fail) [hx,hy,hll,hn,hless,hlt,-getElem?_pos]
 .simp only [hlt,decide_false,qE,if_false]
  simp(maxSteps:=4000000) (disch:=first|exact zd|fail) [hx,hy,hll,hn,hless,hlt,-getElem?_pos]
theorem Zi6 (e:Array Nat){a b s n:Nat}(ha:a<n)(hb:b<n):(Sort.order2 ltN e a b s).1<n/\(Sort.order2 ltN e a b s).2.1<n/\(Sort.order2 ltN e a b s).2.2<=s+1:=by
 unfold Sort.order2;split
 .exact⟨hb,ha,qe _⟩
 .exact⟨ha,hb,Nat.le_succ _⟩
theorem ZnA {e:Array Nat}{l:List Nat}(h:Is e l){n:Nat}(hn:e.size=n)(a b c s:Nat)(ha:a<n)(hb:b<n)(hc:c<n)(hs:s<=900)(hl:n<=1073741824):
 (K A).call 295 [.sc (.arr 0 n),intV a,intV b,intV c,.sc (.ptr 1 0)] [arrU l,boxI s]=some (intV (Sort.median ltN e a b c s).1,[arrU l,boxI (Sort.median ltN e a b c s).2])/\
   (Sort.median ltN e a b c s).1<n/\(Sort.median ltN e a b c s).2<=s+3:=by
 unfold Sort.median;have h1:=ZnN (A:=A) h hn a b s ha hb (by omega) hl;obtain⟨p1,p2,p3⟩:=Zi6 (s:=s) e ha hb;generalize Sort.order2 ltN e a b s=r1 at *
 obtain⟨a1,b1,s1⟩:=r1;simp only at *
 have h2:=ZnN (A:=A) h hn b1 c s1 p2 hc (by omega) hl;obtain⟨q1,q2,q3⟩:=Zi6 (s:=s1) e p2 hc;generalize Sort.order2 ltN e b1 c s1=r2 at *
 obtain⟨b2,c2,s2⟩:=r2;simp only at *
 have h3:=ZnN (A:=A) h hn a1 b2 s2 p1 q1 (by omega) hl;obtain⟨t1,t2,t3⟩:=Zi6 (s:=s2) e p1 q1;generalize Sort.order2 ltN e a1 b2 s2=r3 at *
 obtain⟨a3,b3,s3⟩:=r3;simp only at *
 have hll:=Za5 h;refine⟨?_,t2,by omega⟩;refine fnO v295 ?_;unfold v295;simp(maxSteps:=4000000) (disch:=first|exact zd|fail) [h1,h2,h3,hll,hn,V.ren,-getElem?_pos]
theorem Zg6 {e:Array Nat}{l:List Nat}(h:Is e l){n:Nat}(hn:e.size=n)(a s:Nat)(ha1:1<=a)(ha:a+1<n)(hs:s<=900)(hl:n<=1073741824):
 (K A).call 294 [.sc (.arr 0 n),intV a,.sc (.ptr 1 0)] [arrU l,boxI s]=some (intV (Sort.medianAdjacent ltN e a s).1,[arrU l,boxI (Sort.medianAdjacent ltN e a s).2])/\
   (Sort.medianAdjacent ltN e a s).1<n/\(Sort.medianAdjacent ltN e a s).2<=s+3:=by
 unfold Sort.medianAdjacent;obtain⟨h1,h2,h3⟩:=ZnA (A:=A) h hn (a-1) a (a+1) s (by omega) (by omega) ha hs hl;refine⟨?_,h2,h3⟩;have e1:(a:Int)-1=((a-1:Nat):Int):=by omega
 have e2:(a:Int)+1=((a+1:Nat):Int):=by omega
 generalize hp:a-1=p at *
 generalize hq:a+1=q at *
 generalize Sort.median ltN e p a q s=r at *
 have hll:=Za5 h;refine fnO v294 ?_;unfold v294;simp(maxSteps:=4000000) (disch:=first|exact zd|fail) [h1,e1,e2,hll,hn,V.ren,-getElem?_pos]
def ZgB:Sort.Hint->Nat
 |.unknown=>0
 |.increasing=>1
 |.decreasing=>2
def pivR (e:Array Nat)(a b:Nat):Nat×Nat:=
 if b-a>=8 then
  if b-a>=50 then
   Sort.median ltN e (Sort.medianAdjacent ltN e (a+(b-a) / 4*1) 0).1 (Sort.medianAdjacent ltN e (a+(b-a) / 4*2) (Sort.medianAdjacent ltN e (a+(b-a) / 4*1) 0).2).1
    (Sort.medianAdjacent ltN e (a+(b-a) / 4*3) (Sort.medianAdjacent ltN e (a+(b-a) / 4*2) (Sort.medianAdjacent ltN e (a+(b-a) / 4*1) 0).2).2).1
    (Sort.medianAdjacent ltN e (a+(b-a) / 4*3) (Sort.medianAdjacent ltN e (a+(b-a) / 4*2) (Sort.medianAdjacent ltN e (a+(b-a) / 4*1) 0).2).2).2
  else Sort.median ltN e (a+(b-a) / 4*1) (a+(b-a) / 4*2) (a+(b-a) / 4*3) 0
 else (a+(b-a) / 4*2,0)
def ZvJ (s:Nat):Sort.Hint:=if s=0 then .increasing else if s=12 then .decreasing else .unknown
theorem Zst (e:Array Nat)(a b:Nat):Sort.choosePivot ltN e a b=((pivR e a b).1,ZvJ (pivR e a b).2):=rfl
theorem Zzg (s:Nat):ZgB (ZvJ s)=if s=0 then 1 else if s=12 then 2 else 0:=by
 unfold ZvJ;split
 .rfl
 .split<;>rfl
theorem pivotA {e:Array Nat}{l:List Nat}(h:Is e l){n:Nat}(hn:e.size=n)(a b:Nat)(hab:a<b)(hb:b<=n)(hl:n<=1073741824):
 (K A).call 273 [.sc (.arr 0 n),intV a,intV b] [arrU l]=some (.tu [intV (Sort.choosePivot ltN e a b).1,intV (ZgB (Sort.choosePivot ltN e a b).2)],[arrU l]):=by
 rw[Zst,Zzg];generalize hr:pivR e a b=r;unfold pivR at hr;generalize hL:b-a=L at *
 have hLI:(b:Int)-a=L:=by omega
 have hq:Int.tdiv (L:Int) 4=((L / 4:Nat):Int):=by
  rw[qt (by omega)];omega
 generalize hQ:L / 4=Q at *
 generalize hi:a+Q*1=i at *
 generalize hj:a+Q*2=j at *
 generalize hk:a+Q*3=k at *
 have hiI:(a:Int)+Q=i:=by omega
 have hjI:(a:Int)+Q*2=j:=by omega
 have hkI:(a:Int)+Q*3=k:=by omega
 have hll:=Za5 h;have h00:((0:Nat):Int)=0:=rfl;refine fnO v273 ?_;unfold v273;by_cases h8:L>=8
 .have h8I:(8:Int)<=L:=by omega
  by_cases h50:L>=50
  .have h50I:(50:Int)<=L:=by omega
   rw[if_pos h8,if_pos h50]at hr;obtain⟨u1,u2,u3⟩:=Zg6 (A:=A) h hn i 0 (by omega) (by omega) (by omega) hl;generalize Sort.medianAdjacent ltN e i 0=ri at *
   obtain⟨v1,v2,v3⟩:=Zg6 (A:=A) h hn j ri.2 (by omega) (by omega) (by omega) hl;generalize Sort.medianAdjacent ltN e j ri.2=rj at *
   obtain⟨w1,w2,w3⟩:=Zg6 (A:=A) h hn k rj.2 (by omega) (by omega) (by omega) hl;generalize Sort.medianAdjacent ltN e k rj.2=rk at *
   obtain⟨x1,x2,x3⟩:=ZnA (A:=A) h hn ri.1 rj.1 rk.1 rk.2 u2 v2 w2 (by omega) hl;rw[hr]at x1 x2 x3;rw[boxI,h00]at u1;by_cases z0:r.2=0
   .simp(maxSteps:=4000000) (disch:=first|exact zd|fail) [u1,v1,w1,x1,hLI,hq,hiI,hjI,hkI,h8I,h50I,hll,hn,V.ren,z0,-getElem?_pos]
   .by_cases z12:r.2=12
    .simp(maxSteps:=4000000) (disch:=first|exact zd|fail) [u1,v1,w1,x1,hLI,hq,hiI,hjI,hkI,h8I,h50I,hll,hn,V.ren,z12,-getElem?_pos]
    .have z0I:¬(r.2:Int)=0:=by omega
     have z12I:¬(r.2:Int)=12:=(by omega);simp(maxSteps:=4000000) (disch:=first|exact zd|fail) [u1,v1,w1,x1,hLI,hq,hiI,hjI,hkI,h8I,h50I,hll,hn,V.ren,z0,z12,z0I,z12I,-getElem?_pos]
  .have h50I:¬(50:Int)<=L:=by omega
   rw[if_pos h8,if_neg h50]at hr;obtain⟨x1,x2,x3⟩:=ZnA (A:=A) h hn i j k 0 (by omega) (by omega) (by omega) (by omega) hl;rw[hr]at x1 x2 x3;rw[boxI,h00]at x1;by_cases z0:r.2=0
   .simp(maxSteps:=4000000) (disch:=first|exact zd|fail) [x1,hLI,hq,hiI,hjI,hkI,h8I,h50I,hll,hn,V.ren,z0,-getElem?_pos]
   .have z0I:¬(r.2:Int)=0:=by omega
    have z12:¬r.2=12:=(by omega);have z12I:¬(r.2:Int)=12:=(by omega);simp(maxSteps:=4000000) (disch:=first|exact zd|fail) [x1,hLI,hq,hiI,hjI,hkI,h8I,h50I,hll,hn,V.ren,z0,z12,z0I,z12I,-getElem?_pos]
 .have h8I:¬(8:Int)<=L:=by omega
  rw[if_neg h8]at hr;subst hr;simp(maxSteps:=4000000) (disch:=first|exact zd|fail) [hLI,hq,hiI,hjI,hkI,h8I,hll,hn,-getElem?_pos]
theorem xor242 (r:UInt64):(K A).call 293 [.sc (.ptr 0 0)] [.box [.c (.int .u64 r.toNat)]]=some (.sc (.c (.int .u64 (Sort.xorNext r).toNat)),[.box [.c (.int .u64 (Sort.xorNext r).toNat)]]):=by
 refine fnO v293 ?_;have h1:∀x:UInt64,shlI .u64 x.toNat 13=((x <<< 13).toNat:Int):=fun x=>Zrv x 13 (by omega) 13 rfl;have h2:∀x:UInt64,shrI .u64 x.toNat 7=((x >>> 7).toNat:Int):=fun x=>ZBn x 7 (by omega) 7 rfl;have h3:∀x:UInt64,shlI .u64 x.toNat 17=((x <<< 17).toNat:Int):=fun x=>Zrv x 17 (by omega) 17 rfl;unfold v293 Sort.xorNext
 simp(maxSteps:=4000000) (disch:=first|exact zd|fail) [h1,h2,h3,Zzf,-UInt64.toNat_xor,-UInt64.toNat_shiftLeft,-UInt64.toNat_shiftRight]
theorem ZAN {n:Nat}(h:n≠0):Sort.bitsLen n=Sort.bitsLen (n / 2)+1:=by
 unfold Sort.bitsLen;rw[if_neg h,Nat.log2_def];by_cases h2:n>=2
 .rw[if_pos h2,if_neg (by omega)]
 .rw[if_neg h2,if_pos (by omega)]
theorem ZcB:∀(k n:Nat),n / 2 ^ k≠0->Sort.bitsLen n=Sort.bitsLen (n / 2 ^ k)+k
 |0,n,_=>by simp
 |k+1,n,h=>by
  have h1:n / 2 ^ k / 2=n / 2 ^ (k+1):=by rw[Nat.div_div_eq_div_mul,qbb]
  have h2:n / 2 ^ k≠0:=fun h0=>h (by rw[<-h1,h0]);rw[ZcB k n h2,ZAN h2,h1];omega
theorem bl_le {n:Nat}(h:1<=n):2 ^ Sort.bitsLen n<=2*n:=by
 unfold Sort.bitsLen;rw[if_neg (by omega),qbb];have:=Nat.log2_self_le (show n≠0 by omega);omega
theorem Zge {n k:Nat}(h:n<2 ^ k):Sort.bitsLen n<=k:=by
 unfold Sort.bitsLen;split
 .omega
 .rename_i h0
  have:=(Nat.log2_lt h0).2 h;omega
end Go.Vs.Tryz
