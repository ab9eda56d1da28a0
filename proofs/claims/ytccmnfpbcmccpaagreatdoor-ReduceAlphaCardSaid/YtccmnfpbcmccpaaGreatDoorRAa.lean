/- Alpha equality by the program, walked. -/
import Derived.Test.YtccmnfpbcmccpaaGreatDoorR9a
import Derived.Sort.AssemblyPlain
set_option linter.unusedSimpArgs false
set_option linter.unusedVariables false
set_option linter.deprecated false
set_option maxHeartbeats 8000000
set_option maxRecDepth 10000
namespace Go.Vs
open Go
@[simp] theorem ownV_arr {oid k n:Nat} {own:List (Nat×Nat)} {L:Nat->Option Obj} {u:Upd}:ownV oid own L (.sc (.arr k n),u)=some (.sc (.arr k n),u):=by
 cases own with
 |nil=>rfl
 |cons p own=>simp[ownV]
end Go.Vs
namespace Go.Vs.Tryz
open Go Go.Vs
variable {A:Zab}
def ZgO (k:Int):Nat:=if k=5\/k=6\/k=7 then 2 else if k=4\/k=8\/k=9\/k=11 then 1 else 0
def shp1 (e:Exp):Prop:=e.wf1/\(e.kind=1->e.num=0/\e.ty=tz)/\e.kids.length=ZgO e.kind
def shp (e:Exp):Prop:=e.fold fun e l=>shp1 e/\∀p∈l,p
theorem ZdA (e:Exp):shp e=(shp1 e/\∀x∈e.children,shp x):=by
 have:=Exp.fold_eq (fun e (l:List Prop)=>shp1 e/\∀p∈l,p) e;unfold shp;rw[this];simp only[qQ]
theorem shp.one {e:Exp}(h:shp e):shp1 e:=by rw[ZdA]at h;exact h.1
theorem shp.child {e x:Exp}(h:shp e)(hx:x∈e.children):shp x:=by rw[ZdA]at h;exact h.2 x hx
theorem shp.wf {e:Exp}:shp e->e.wf:=by
 induction e using Exp.ind with
 |h e ih=>
  intro h;rw[Exp.wf_eq];exact⟨h.one.1,fun x hx=>ih x hx (h.child hx)⟩
def zeroE:Exp:=.mk 0 0 [] 0 [] [] tz
def Zuj (e:Exp):List Exp:=List.replicate e.children.length zeroE
@[simp] theorem zerosM_len (e:Exp):(Zuj e).length=e.kids.length+e.arms.length:=by rw[Zuj,List.length_replicate,e.children_len]
theorem ZlQ {a b:Exp}(h:headEq a b)(ha:Zce a b)(i:Nat):(a.bound i).length=(b.bound i).length:=by
 rw[Zam,Zam,h.1];split
 .rfl
 .split
  .cases hp:a.arms[i-1]? with
   |none=>
    have:b.arms[i-1]?=none:=by
     rw[List.getElem?_eq_none_iff]at hp |-;have:=h.2.2.2.2;omega
    rw[this]
   |some p=>
    have hi:=(qd.1 hp).1;obtain⟨q,hq⟩:=Zaa (l:=b.arms) (i:=i-1) (by have:=h.2.2.2.2;omega);rw[hq];exact(ha _ p q hp hq).2
  .rfl
def zrows (e:Exp)(i:Nat):List Exp:=(Zuj e).take i++e.children.drop i
variable {A:Zab}
theorem rawE1.shp1 {ds:List DataD}{e:Exp}(h:rawE1 ds e):shp1 e:=by
 refine⟨h.wf1,?_,?_⟩
 .intro hk
  exact⟨h.2.2.2.2.1 (by omega),h.2.2.2.1 (by omega)⟩
 .obtain ⟨_,_,_,_,_,h⟩:=h
  unfold ZgO;rcases h with ⟨k,_,hk,ha⟩|⟨k,_,hk,ha⟩|⟨k,_,hk,ha⟩|⟨k,_,⟨x,hk⟩,ha⟩|⟨k,_,⟨x,y,hk⟩,ha⟩|⟨k,_,⟨x,y,hk⟩,ha⟩|⟨k,_,⟨x,hk⟩,ha⟩|⟨k,_,x,hk⟩
  .rw[hk,if_neg (by omega),if_neg (by omega)];rfl
  .rw[hk,if_neg (by omega),if_neg (by omega)];rfl
  .rw[hk,if_neg (by omega),if_neg (by omega)];rfl
  .rw[hk,if_neg (by omega),if_pos (by omega)];rfl
  .rw[hk,if_pos (by omega)];rfl
  .rw[hk,if_pos (by omega)];rfl
  .rw[hk,if_neg (by omega),if_pos (by omega)];rfl
  .rw[hk,if_neg (by omega),if_pos (by omega)];rfl
theorem rawE.shp {ds:List DataD}{e:Exp}:rawE ds e->shp e:=by
 induction e using Exp.ind with
 |h e ih=>
  intro h;rw[ZdA];exact⟨h.one.shp1,fun x hx=>ih x hx (h.child hx)⟩
theorem headEq.shp1 {e c:Exp}(h:headEq e c)(hk:e.kind≠1)(hs:shp1 e):shp1 c:=by
 obtain⟨h1,h2,h3,h4,h5⟩:=h;obtain⟨⟨w1,w2,w3⟩,_,w5⟩:=hs;refine⟨⟨fun h8=>?_,fun h8=>?_,fun h8=>absurd (h1.trans h8) hk⟩,fun h8=>absurd (h1.trans h8) hk,?_⟩
 .rw[<-h4];exact w1 (h1.trans h8)
 .have:=w2 (by rw [h1];exact h8)
  rw[this]at h5;exact qD.1 h5.symm
 .rw[<-h4,w5,h1]
theorem Ztb (taken:List Str)(e:Exp):∀old names,shp e->shp (Zcc taken e old names):=by
 induction e using Exp.ind with
 |h e ih=>
  intro old names h;by_cases hk:e.kind=1
  .rw [Zdi hk]
   split
   .rw [ZdA]
    exact⟨h.one,fun x hx=>h.child hx⟩
   .exact h
  .obtain ⟨p1,p2,_⟩:=Zdo (taken:=taken) (old:=old) (names:=names) hk h.one.1
   rw[ZdA];refine⟨p1.shp1 hk h.one,fun y hy=>?_⟩;rw[p2]at hy;obtain⟨i,hi⟩:=qh.1 hy;have hlt:i<e.children.length:=by
    rcases qa0 i (Za8 taken e old names).length with h2|h2
    .rwa[canonC_len,<-e.children_len]at h2
    .rw[qO h2]at hi;cases hi
   obtain⟨x,hx⟩:=Zaa hlt;rw[Zec hx]at hi;cases hi;exact ih x (qb hx) _ _ (h.child (qb hx))
theorem Ztl (e:Exp):shp e->shp (Zak e):=by
 induction e using Exp.ind with
 |h e ih=>
  intro h;obtain⟨h1,h2,h3,h4,h5,h6,h7,h8⟩:=ZaX e;obtain⟨⟨w1,w2,w3⟩,w4,w5⟩:=h.one;rw[ZdA];refine⟨⟨⟨fun k=>by rw[h5];exact w1 (h1▸k),fun k=>?_,fun k=>?_⟩,fun k=>by rw[h3,h4];exact w4 (h1▸k),by rw[h5,h1];exact w5⟩,fun y hy=>?_⟩
  .have:=w2 (h1▸k)
   rw[this]at h6;exact qD.1 h6
  .have:=w3 (h1▸k)
   rw[this]at h5;exact qD.1 h5
  .rw [h7] at hy
   obtain⟨x,hx,rfl⟩:=qF.1 hy;exact ih x hx (h.child hx)
theorem Zkg {e:Exp}(taken:List Str)(h:shp e):shp (Zfq e taken):=Ztb _ _ _ _ (Ztl e h)
theorem IffB.get {P:Prop}{r:V×List Obj}(h:IffB P r)(hp:P):r=(Zaf true,[]):=by
 obtain⟨v,hv,rfl⟩:=h;rw[hv.2 hp]
variable {A:Zab}
abbrev u64V (n:Nat):V:=.sc (.c (.int .u64 n))
def Zh9 (n:Nat):List Cell:=[.int .u64 n]
def ZbN (d:List Nat):List (List Cell):=d.map Zh9
@[simp] theorem u64Row_len (n:Nat):(Zh9 n).length=1:=rfl
@[simp] theorem u64Rows_len (d:List Nat):(ZbN d).length=d.length:=by simp[ZbN]
@[simp] theorem u64Rows_get (d:List Nat) (i:Nat):(ZbN d)[i]?=(d[i]?).map Zh9:=by simp[ZbN]
@[simp] theorem okRows_u64 (d:List Nat):Za9 1 (wr (ZbN d))=true:=ZbD d u64Row_len
@[simp] theorem wc_u64 (n:Nat):wc (Zh9 n)=[.c (.int .u64 n)]:=rfl
@[simp] theorem u64Rows_snoc (d:List Nat) (x:Nat):wr (ZbN d)++[[W.c (.int .u64 x)]]=wr (ZbN (d++[x])):=by simp[ZbN,wr,Zh9]
@[simp] theorem u64_set (d:List Nat) (i x:Nat):setRow (wr (ZbN d)) i [W.c (.int .u64 x)]=wr (ZbN (d.set i x)):=by
 rw[setRow_set];simp[ZbN,wr,qaZ,Zh9]
abbrev arrU (d:List Nat):Obj:=.arr 1 (wr (ZbN d)) 0
def Zk1 (a b:Nat)(d:List Nat):Prop:=∀(p q x y:Nat),a<=p->p<q->q<b->d[p]?=some x->d[q]?=some y->x<=y
def SortR (a b:Nat)(d e:List Nat):Prop:=e.Perm d/\(∀k,k<a\/b<=k->e[k]?=d[k]?)/\Zk1 a b e
def butAt (a i j:Nat)(d:List Nat):Prop:=∀(p q x y:Nat),a<=p->p<q->q<=i->q≠j->d[p]?=some x->d[q]?=some y->x<=y
theorem Zb9 (a b:Nat):(K A).call 276 [u64V a,u64V b] []=some (Zaf (decide (a<b)),[]):=by
 refine fnO v276 ?_;have h:∀n:Nat,(K A).call 296 [u64V n] []=some (Zaf false,[]):=fun n=>by
  refine fnO v296 ?_;unfold v296;simp
 unfold v276;simp[h]
def retV:V:=.tu []
def Zcd (d:List Nat):Nat->List Nat
 |0=>[]
 |m+1=>match d[m]? with
  |none=>Zcd d m
  |some x=>if 0<m/\d[m-1]?=some x then Zcd d m else Zcd d m++[x]
theorem Zfh {d:List Nat}{m x:Nat}(h:d[m]?=some x)(hn:¬(0<m/\d[m-1]?=some x)):Zcd d (m+1)=Zcd d m++[x]:=by
 grind[Zcd]
theorem Zfa {d:List Nat}{m x:Nat}(h:d[m]?=some x)(hm:0<m)(hn:d[m-1]?=some x):Zcd d (m+1)=Zcd d m:=by
 grind[Zcd]
theorem ZmO (d:List Nat):∀m,(Zcd d m).length<=m
 |0=>by simp[Zcd]
 |m+1=>by
  have:=ZmO d m;grind[Zcd]
theorem ZiC {d:List Nat}{x:Nat}:∀{m:Nat},x∈Zcd d m↔∃k,k<m/\d[k]?=some x
 |0=>by simp[Zcd]
 |m+1=>by
  have ih:=@ZiC d x m;cases h:d[m]? with
  |none=>
   grind[Zcd]
  |some y=>
   by_cases hn:0<m/\d[m-1]?=some y;grind[Zfa]
   .rw [Zfh h hn,qn,ih]
    grind
def Zkq (l:List Nat):Prop:=∀(p q x y:Nat),p<q->l[p]?=some x->l[q]?=some y->x<y
theorem Znf {l:List Nat}{x:Nat}(h:Zkq l)(hx:∀y∈l,y<x):Zkq (l++[x]):=by
 intro p q u v hpq hu hv;have hq:=(qd.1 hv).1;simp only[qC,List.length_singleton]at hq;rw[qE (by omega)]at hu;rcases qa0 q l.length with h1|h1
 .rw [qE h1] at hv
  exact h p q u v hpq hu hv
 .rw [qP h1,show q-l.length=0 by omega] at hv
  cases hv;exact hx u (qb hu)
theorem Zhk {d:List Nat}(hs:Zk1 0 d.length d):∀m,Zkq (Zcd d m)
 |0=>fun p q x y _ hx=>by simp[Zcd]at hx
 |m+1=>by
  have ih:=Zhk hs m;cases h:d[m]? with
  |none=>grind[Zcd]
  |some y=>
   by_cases hn:0<m/\d[m-1]?=some y;grind[Zfa]
   .rw [Zfh h hn]
    refine Znf ih fun u hu=>?_;obtain⟨k,hk,hx⟩:=ZiC.1 hu;have hm:=(qd.1 h).1;have h1:=hs k m u y (qag _) hk hm hx h;rcases qbb h1 with h2|h2
    omega
    .exfalso
     obtain⟨z,hz⟩:=Zaa (l:=d) (i:=m-1) (by omega);have h3:z=y:=by
      have h4:=hs (m-1) m z y (qag _) (by omega) hm hz h;rcases qa0 k (m-1)with h5|h5
      .have h6:=hs k (m-1) u z (qag _) h5 (by omega) hx hz
       omega
      grind
     grind
def bump (k i:Nat):Nat:=if i<=k then k+1 else k
def Zil (l:List Nat)(k:Nat):Nat:=(l.filter fun j=>decide (j<k)).length
theorem Zki:∀{l:List Nat}{k:Nat},l.Nodup->Zil l (k+1)=Zil l k+if k∈l then 1 else 0
 |[],k,_=>by rfl
 |a::l,k,h=>by
  have ih:=@Zki l k (qbe.1 h).2;grind[Zil]
theorem ZlT:∀{l:List Nat},Zkq l->l.Nodup:=by
 intro l h;rw[List.nodup_iff_pairwise_ne];rw[List.pairwise_iff_getElem];intro i j hi hj hij heq;have:=h i j l[i] l[j] hij (qk hi) (qk hj);omega
theorem Zqc {l:List Nat}(hl:Zkq l)(n:Nat):∀t,t<=l.length->(((l.take t).foldl bump (n+1))=n+1+Zil (l.take t) ((l.take t).foldl bump (n+1)))/\(l.take t).foldl bump (n+1)∉l.take t
 |0,_=>by simp[Zil]
 |t+1,ht=>by
  obtain⟨h1,h2⟩:=Zqc hl n t (by omega);obtain⟨c,hc⟩:=Zaa (l:=l) (i:=t) (by omega);rw[Zaq hc,qaY,qau,List.foldl_nil];generalize hk:(l.take t).foldl bump (n+1)=k at h1 h2;have hlt:∀x∈l.take t,x<c:=by
   intro x hx;obtain⟨i,hi⟩:=qh.1 hx;rw[qX]at hi;split at hi
   .rename_i hit
    exact hl i t x c hit hi hc
   grind
  unfold bump;by_cases hck:c<=k;grind[Zil,List.filter_congr];grind[Zil]
def Zfl (taken:List Str)(a b:Nat):Nat:=((List.range b).filter fun j=>decide (a<=j/\Zbj j∉taken)).length
theorem ZcK (taken:List Str)(a b:Nat)(h:a<=b):Zfl taken a (b+1)=Zfl taken a b+if Zbj b∉taken then 1 else 0:=by
 grind[Zfl,List.range_succ]
theorem ZgV (taken:List Str)(a:Nat):Zfl taken a a=0:=by
 grind[Zfl,List.filter_eq_nil_iff]
theorem Zfs (taken:List Str)(a:Nat):∀b,a<b->Zfl taken a b=(if Zbj a∉taken then 1 else 0)+Zfl taken (a+1) b
 |0,h=>by omega
 |b+1,h=>by
  rcases qa0 a b with h1|h1
  .rw [ZcK _ _ _ (by omega),ZcK _ _ _ (by omega),Zfs taken a b h1]
   omega
  grind[ZcK,ZgV]
theorem Zdz (taken:List Str):∀f k n,n+Zdb taken k<f->Zfl taken k (Zb8 taken f k n)=n
 |0,k,n,h=>by omega
 |f+1,k,n,h=>by
  simp only[Zb8];split
  .rename_i hm
   have h1:=Zdz taken f (k+1) n (by grind[Ze1]);grind[Zcw,Zfs]
  .rename_i hm
   split;grind[ZgV]
   .have h1:=Zdz taken f (k+1) (n-1) (by grind [ZcP])
    grind[Zcw,Zfs]
theorem Zkl (taken:List Str)(a:Nat):∀{b c},a<=b->b<=c->Zfl taken a b<=Zfl taken a c:=by
 intro b c hab hbc
 induction c<;>grind[ZcK]
theorem ZhB {taken:List Str}{n k:Nat}(h1:1<=k)(hk:Zbj k∉taken)(hc:Zfl taken 1 k=n):Za1 n taken=k:=by
 have hn:=Zbz n taken;have hm:Zfl taken 1 (Za1 n taken)=n:=Zdz taken _ _ _ (by grind[ZdW]);have h2:1<=Za1 n taken:=Zcw taken _ 1 n;have hr:Zbj (Za1 n taken)∉taken:=hn;generalize Za1 n taken=r at hr hm h2 |-;rcases Nat.lt_trichotomy r k with h|h|h
 .have h3:=Zkl taken 1 (b:=r+1) (c:=k) (by omega) (by omega)
  grind[ZcK]
 omega
 .have h3:=Zkl taken 1 (b:=k+1) (c:=r) (by omega) (by omega)
  grind[ZcK]
theorem Zqa {e:Exp}{s:Str}:∀n,s∈outP e n->n<=e.children.length->∃(i:Nat) (x:Exp),e.children[i]?=some x/\s∈Zah x/\s∉e.bound i
 |0,h,_=>by simp[outP]at h
 |n+1,h,hn=>by
  obtain⟨x,hx⟩:=Zaa (l:=e.children) (i:=n) (by omega);rw[ZiZ hx,Zeo]at h;rcases h with h|h
  .exact Zqa n h (by omega)
  .exact⟨n,x,hx,h.1,h.2⟩
theorem Zbv {e:Exp}{s:Str}(hk:e.kind≠1):s∈Zah e↔∃(i:Nat) (x:Exp),e.children[i]?=some x/\s∈Zah x/\s∉e.bound i:=by
 constructor
 .intro h
  rw[Zb6,if_neg hk,<-Zk2]at h;exact Zqa _ h (qg _)
 .rintro ⟨i,x,hx,hs,hb⟩
  exact(Zjy hk hx hs).resolve_left hb
theorem ZaU {e:Exp}{s:Str}(hk:e.kind=1):s∈Zah e↔s=e.name:=by rw[Zb6,if_pos hk,ql]
theorem Zlc {l:List Str}{s:Str}:0<=rlast l s↔s∈l:=by
 refine⟨fun h=>?_,Zdl⟩;by_cases hm:s∈l
 .exact hm
 .rw [Zb5 hm] at h
  omega
theorem ZeQ {e:Exp}(h:shp1 e)(hk:e.kind=2):e.children=[]:=by
 have h3:=h.2.2;rw[hk]at h3;have h4:=h.1.2.1 (by rw[hk];decide);have h5:e.kids=[]:=qD.1 h3;simp[Exp.children,h4,h5]
theorem ZbP {e:Exp}(h:e.wf1)(hk:e.kind=1):e.kids=[]/\e.arms=[]/\e.children=[]:=by
 have h1:=h.2.2 hk;have h2:=h.2.1 (by rw[hk];decide);exact⟨h1,h2,by simp[Exp.children,h1,h2]⟩
theorem ZhE (a:Exp):∀b c l m r,ZaC a b l m->ZaC b c m r->ZaC a c l r:=by
 induction a using Exp.ind with
 |h a ih=>
  intro b c l m r h h';rw[ZaS]at h h' |-;obtain⟨h1,h2,h3,h4⟩:=h;obtain⟨g1,g2,g3,g4⟩:=h';refine⟨⟨h1.1.trans g1.1,h1.2.1.trans g1.2.1,h1.2.2.1.trans g1.2.2.1,h1.2.2.2.1.trans g1.2.2.2.1,h1.2.2.2.2.trans g1.2.2.2.2⟩,fun hk=>?_,fun hk=>(h3 hk).trans (g3 (h1.1▸hk)),fun k1 k2=>?_⟩
  .obtain ⟨v1,v2⟩:=h2 hk
   obtain⟨w1,w2⟩:=g2 (h1.1▸hk);refine⟨v1.trans w1,?_⟩;rcases v2 with v2|v2
   .exact .inl v2
   .rcases w2 with w2|w2
    .exact .inl (v1▸w2)
    .exact .inr (v2.trans w2)
  .obtain ⟨h5,h6⟩:=h4 k1 k2
   obtain⟨g5,g6⟩:=g4 (h1.1▸k1) (h1.1▸k2);refine⟨fun i p q hp hq=>?_,fun i x z hx hz=>?_⟩
   .obtain ⟨u,hu⟩:=Zaa (l:=b.arms) (i:=i) (by have:=h1.2.2.2.2;have:=(qd.1 hp).1;omega)
    exact⟨(h5 i p u hp hu).1.trans (g5 i u q hu hq).1,(h5 i p u hp hu).2.trans (g5 i u q hu hq).2⟩
   .obtain ⟨y,hy⟩:=Zaa (l:=b.children) (i:=i) (by rw [<-h1.children];exact (qd.1 hx).1)
    exact ih x (qb hx) y z _ _ _ (h6 i x y hx hy) (g6 i y z hy hz)
theorem Zfc {a b:Exp}(h:sameP a b)(i:Nat):a.bound i=b.bound i:=by
 rw[ZhU]at h;obtain⟨h1,h2,_,_,_,h6,h7,_⟩:=h;rw[Zam,Zam,h1,h2];cases hp:a.arms[i-1]? with
 |none=>
  have:b.arms[i-1]?=none:=by rw[List.getElem?_eq_none_iff]at hp |-;omega
  rw[this]
 |some p=>
  obtain⟨q,hq⟩:=Zaa (l:=b.arms) (i:=i-1) (by have:=(qd.1 hp).1;omega);rw[hq];simp only[qr,qbn,(h7 _ p q hp hq).2]
theorem Zkb (a:Exp):∀b,sameP a b->sameP b a:=by
 induction a using Exp.ind with
 |h a ih=>
  intro b h;rw[ZhU]at h |-;obtain⟨h1,h2,h3,h4,h5,h6,h7,h8⟩:=h;exact⟨h1.symm,h2.symm,h3.symm,h4.symm,h5.symm,h6.symm,fun i p q hp hq=>⟨(h7 i q p hq hp).1.symm,(h7 i q p hq hp).2.symm⟩,fun i x y hx hy=>ih y (qb hy) x (h8 i y x hy hx)⟩
def nmN1 (e:Exp):Prop:=e.kind=1\/e.kind=2\/e.kind=4\/e.kind=6\/e.kind=7\/e.name=[]
def nmN (e:Exp):Prop:=e.fold fun e l=>nmN1 e/\∀p∈l,p
theorem ZrL (e:Exp):nmN e=(nmN1 e/\∀x∈e.children,nmN x):=by
 have:=Exp.fold_eq (fun e (l:List Prop)=>nmN1 e/\∀p∈l,p) e;unfold nmN;rw[this];simp only[qQ]
theorem nmN.one {e:Exp}(h:nmN e):nmN1 e:=by rw[ZrL]at h;exact h.1
theorem nmN.child {e x:Exp}(h:nmN e)(hx:x∈e.children):nmN x:=by rw[ZrL]at h;exact h.2 x hx
theorem rawE.nmN {ds:List DataD}{e:Exp}:rawE ds e->nmN e:=by
 induction e using Exp.ind with
 |h e ih=>
  intro h;rw[ZrL];refine⟨?_,fun x hx=>ih x hx (h.child hx)⟩;obtain⟨_,_,_,_,_,h⟩:=h.one;unfold nmN1;rcases h with ⟨k,_⟩|⟨k,_⟩|⟨_,n,_⟩|⟨k,_⟩|⟨_,n,_⟩|⟨k,_⟩|⟨_,n,_⟩|⟨_,n,_⟩
  .exact .inl k
  .exact .inr (.inl k)
  .exact .inr (.inr (.inr (.inr (.inr n))))
  .exact .inr (.inr (.inl k))
  .exact .inr (.inr (.inr (.inr (.inr n))))
  .rcases k with k|k
   .exact .inr (.inr (.inr (.inl k)))
   .exact .inr (.inr (.inr (.inr (.inl k))))
  .exact .inr (.inr (.inr (.inr (.inr n))))
  .exact .inr (.inr (.inr (.inr (.inr n))))
theorem Zgm {taken:List Str}{e:Exp}{old names:List Str}{i:Nat}{p:ArmH×Exp}(hk:e.kind≠1)(hp:(Zcc taken e old names).arms[i]?=some p):
 ∃q,e.arms[i]?=some q/\p.1.con=q.1.con/\p.1.vars=news taken old.length q.1.vars.length:=by
 rw[ZcW hk,Zcs,qah]at hp;cases ha:e.arms[i]? with
 |none=>rw[ha]at hp;simp at hp
 |some q=>
  rw[ha]at hp;cases hc:((Za8 taken e old names).drop e.kids.length)[i]? with
  |none=>rw[hc]at hp;simp at hp
  |some c=>
   rw[hc]at hp;simp only[qc]at hp;subst hp;exact⟨q,rfl,rfl,rfl⟩
theorem Zjb (e:Exp)(l:List Str):ZaC e (Zak e) l l:=Zhs e (Zak e) l l (ZnE (Zak e) l)
theorem Zl4 {a b:Exp}(h:ZaC a b [] []):ZaC (Zak a) (Zak b) [] []:=
 ZhE _ _ _ _ _ _ (ZnM _ _ _ _ (Zjb a [])) (ZhE _ _ _ _ _ _ h (Zjb b []))
abbrev Rep:=Str->Exp->Prop
def isVar (s:Str)(c:Exp):Prop:=c.kind=1/\c.name=s/\c.num=0/\c.ty=tz/\c.kids=[]/\c.arms=[]
def Rep.ext (V:Rep)(bs cs:List Str):Rep:=fun s c=>(s∈bs/\∃t,t∈cs/\rlast bs s=rlast cs t/\isVar t c)\/(s∉bs/\V s c/\∀u∈Zah c,u∉cs)
def instF (a:Exp)(l:List (Exp->Rep->Prop))(c:Exp)(V:Rep):Prop:=
 (a.kind=1->V a.name c)/\(a.kind≠1->headEq a c/\(a.kind=2->a.name=c.name)/\Zce a c/\∀(i:Nat) f y,l[i]?=some f->c.children[i]?=some y->f y (V.ext (a.bound i) (c.bound i)))
def instR (a:Exp):Exp->Rep->Prop:=a.fold instF
theorem ZhS (a c:Exp)(V:Rep):instR a c V=((a.kind=1->V a.name c)/\(a.kind≠1->headEq a c/\(a.kind=2->a.name=c.name)/\Zce a c/\
 ∀(i:Nat) x y,a.children[i]?=some x->c.children[i]?=some y->instR x y (V.ext (a.bound i) (c.bound i)))):=by
 unfold instR;rw[Exp.fold_eq];unfold instF;simp only[qp,qq];apply propext;refine and_congr_right fun _=>forall_congr' fun _=>and_congr_right fun _=>and_congr_right fun _=>and_congr_right fun _=>forall_congr' fun i=>?_;constructor;simp_all
 .rintro h f y ⟨x,hx,rfl⟩ hy
  grind
theorem instR.var {a c:Exp}{V:Rep}(h:instR a c V)(hk:a.kind=1):V a.name c:=by grind[ZhS]
theorem instR.node {a c:Exp}{V:Rep}(h:instR a c V)(hk:a.kind≠1):headEq a c/\(a.kind=2->a.name=c.name)/\Zce a c/\
 ∀(i:Nat) x y,a.children[i]?=some x->c.children[i]?=some y->instR x y (V.ext (a.bound i) (c.bound i)):=by grind[ZhS]
theorem instR.mkVar {a c:Exp}{V:Rep}(hk:a.kind=1)(h:V a.name c):instR a c V:=by grind[ZhS]
theorem instR.mk {a c:Exp}{V:Rep}(hk:a.kind≠1)(h:headEq a c/\(a.kind=2->a.name=c.name)/\Zce a c/\
 ∀(i:Nat) x y,a.children[i]?=some x->c.children[i]?=some y->instR x y (V.ext (a.bound i) (c.bound i))):instR a c V:=by grind[ZhS]
theorem isVar.free {s:Str}{c:Exp}(h:isVar s c):Zah c=[s]:=by rw[Zb6,if_pos h.1,h.2.1]
theorem isVar.inst {s:Str}{c d:Exp}{V:Rep}(h:isVar s c):instR c d V↔V s d:=
 ⟨fun hi=>h.2.1▸hi.var h.1,fun hv=>.mkVar h.1 (h.2.1.symm▸hv)⟩
theorem instR.mono (a:Exp):∀(c:Exp) (V W:Rep),instR a c V->(∀s∈Zah a,∀d,V s d->W s d)->instR a c W:=by
 induction a using Exp.ind with
 |h a ih=>
  intro c V W h hm;by_cases hk:a.kind=1
  .exact .mkVar hk (hm _ ((ZaU hk).2 rfl) _ (h.var hk))
  .obtain ⟨h1,h2,h3,h4⟩:=h.node hk
   refine .mk hk ⟨h1,h2,h3,fun i x y hx hy=>ih x (qb hx) y _ _ (h4 i x y hx hy) fun s hs d hd=>?_⟩;rcases hd with hd|⟨q1,q2,q3⟩
   .exact .inl hd
   .exact .inr ⟨q1,hm s ((Zbv hk).2 ⟨i,x,hx,hs,q1⟩) d q2,q3⟩
theorem instR.free_from (a:Exp):∀(c:Exp) (V:Rep),shp1 a->(∀x∈a.children,shp x)->instR a c V->∀u∈Zah c,∃s∈Zah a,∃d,V s d/\u∈Zah d:=by
 induction a using Exp.ind with
 |h a ih=>
  intro c V hs1 hs h u hu;by_cases hk:a.kind=1
  .exact⟨a.name,(ZaU hk).2 rfl,c,h.var hk,hu⟩
  .obtain ⟨h1,h2,h3,h4⟩:=h.node hk
   obtain⟨i,y,hy,huy,hub⟩:=(Zbv (h1.1▸hk)).1 hu;obtain⟨x,hx⟩:=Zaa (l:=a.children) (i:=i) (by rw[h1.children];grind);have hmx:=qb hx;obtain⟨s,hs',d,hd,hud⟩:=ih x hmx y _ (hs x hmx).one (fun z hz=>(hs x hmx).child hz) (h4 i x y hx hy) u huy;rcases hd with ⟨_,t,ht,_,hv⟩|⟨q1,q2,_⟩
   .rw [hv.free,ql] at hud
    grind
   grind[Zbv]
theorem instR.free_to (a:Exp):∀(c:Exp) (V:Rep),instR a c V->∀s∈Zah a,∃d,V s d/\∀u∈Zah d,u∈Zah c:=by
 induction a using Exp.ind with
 |h a ih=>
  intro c V h s hs;by_cases hk:a.kind=1
  .rw [ZaU hk] at hs
   subst hs;exact⟨c,h.var hk,fun u hu=>hu⟩
  .obtain ⟨h1,h2,h3,h4⟩:=h.node hk
   obtain⟨i,x,hx,hsx,hsb⟩:=(Zbv hk).1 hs;obtain⟨y,hy⟩:=Zaa (l:=c.children) (i:=i) (by rw[<-h1.children];grind);obtain⟨d,hd,hf⟩:=ih x (qb hx) y _ (h4 i x y hx hy) s hsx;rcases hd with ⟨q,_⟩|⟨_,q2,q3⟩
   grind
   .exact⟨d,q2,fun u hu=>(Zbv (h1.1▸hk)).2 ⟨i,y,hy,hf u hu,q3 u hu⟩⟩
def Rep.comp (V W:Rep):Rep:=fun s d=>∃c,V s c/\shp c/\instR c d W
theorem ZxR {V W:Rep}{bs cs ds:List Str}{s:Str}{c d:Exp}(h1:V.ext bs cs s c)(hc:shp c)(h2:instR c d (W.ext cs ds)):(V.comp W).ext bs ds s d:=by
 rcases h1 with ⟨hs,t,ht,hr,hv⟩|⟨hs,hv,hf⟩
 .rw [hv.inst] at h2
  rcases h2 with ⟨_,u,hu,hru,hvu⟩|⟨q,_⟩
  .exact .inl ⟨hs,u,hu,hr.trans hru,hvu⟩
  grind
 .have hm:instR c d W:=h2.mono _ _ _ _ fun u hu e he=>by
   rcases he with ⟨q,_⟩|⟨_,q,_⟩<;>grind
  refine .inr ⟨hs,⟨c,hv,hc,hm⟩,fun u hu hud=>?_⟩;obtain⟨t,ht,e,he,hue⟩:=instR.free_from c d _ hc.one (fun x hx=>hc.child hx) h2 u hu;rcases he with ⟨q,_⟩|⟨_,_,q⟩<;>grind
def Rep.ok (V:Rep):Prop:=∀s c,V s c->shp c
theorem isVar.shp {s:Str}{c:Exp}(h:isVar s c):shp c:=by
 obtain⟨k,_,n,t,ks,am⟩:=h;rw[ZdA];refine⟨⟨⟨fun h8=>by omega,fun _=>am,fun _=>ks⟩,fun _=>⟨n,t⟩,?_⟩,fun x hx=>?_⟩
 .rw [ks,k]
  rfl
 grind[Exp.children]
theorem Rep.ok.ext {V:Rep}(h:V.ok)(bs cs:List Str):(V.ext bs cs).ok:=by
 rintro s c (⟨_,t,_,_,hv⟩|⟨_,hv,_⟩)
 .exact hv.shp
 .exact h s c hv
theorem instR.comp (a:Exp):∀(c d:Exp) (V W:Rep),V.ok->instR a c V->instR c d W->instR a d (V.comp W):=by
 induction a using Exp.ind with
 |h a ih=>
  intro c d V W ho h h';by_cases hk:a.kind=1
  .exact .mkVar hk ⟨c,h.var hk,ho _ _ (h.var hk),h'⟩
  .obtain ⟨h1,h2,h3,h4⟩:=h.node hk
   have hkc:c.kind≠1:=h1.1▸hk;obtain⟨g1,g2,g3,g4⟩:=h'.node hkc;refine .mk hk ⟨⟨h1.1.trans g1.1,h1.2.1.trans g1.2.1,h1.2.2.1.trans g1.2.2.1,h1.2.2.2.1.trans g1.2.2.2.1,h1.2.2.2.2.trans g1.2.2.2.2⟩,fun k=>(h2 k).trans (g2 (h1.1▸k)),fun i p q hp hq=>?_,fun i x z hx hz=>?_⟩
   .obtain ⟨u,hu⟩:=Zaa (l:=c.arms) (i:=i) (by have:=h1.2.2.2.2;grind)
    exact⟨(h3 i p u hp hu).1.trans (g3 i u q hu hq).1,(h3 i p u hp hu).2.trans (g3 i u q hu hq).2⟩
   .obtain ⟨y,hy⟩:=Zaa (l:=c.children) (i:=i) (by rw [<-h1.children];grind)
    refine(ih x (qb hx) y z _ _ (ho.ext _ _) (h4 i x y hx hy) (g4 i y z hy hz)).mono _ _ _ _ fun s _ e he=>?_;obtain⟨b,hb,hsb,hbe⟩:=he;grind[ZxR]
def ofR (R:Str->Str->Prop):Rep:=fun s c=>∃t,R s t/\isVar t c
def idV:Rep:=ofR fun s t=>s=t
theorem instR.refl (a:Exp):∀V:Rep,shp a->(∀s∈Zah a,∀c,isVar s c->V s c)->instR a a V:=by
 induction a using Exp.ind with
 |h a ih=>
  intro V hs h;by_cases hk:a.kind=1
  .obtain ⟨a1,a2,a3⟩:=ZbP hs.one.1 hk
   obtain⟨n,t⟩:=hs.one.2.1 hk;exact .mkVar hk (h a.name ((ZaU hk).2 rfl) a ⟨hk,rfl,n,t,a1,a2⟩)
  .refine .mk hk ⟨⟨rfl,rfl,rfl,rfl,rfl⟩,fun _=>rfl,fun i p q hp hq => ?_,fun i x y hx hy => ?_⟩
   grind
   .rw [hx] at hy
    cases hy;refine ih x (qb hx) _ (hs.child (qb hx)) fun s hsx c hc=>?_;by_cases hb:s∈a.bound i
    .exact .inl ⟨hb,s,hb,rfl,hc⟩
    .refine .inr ⟨hb,h s ((Zbv hk).2 ⟨i,x,hx,hsx,hb⟩) c hc,fun u hu => ?_⟩
     rw[hc.free,ql]at hu;grind
theorem instR.uniq (a:Exp):∀(a' c c':Exp) (R Q V V':Rep),instR a a' R->instR a c V->instR a' c' V'->
 (∀s e d d',R s e->V s d->instR e d' V'->instR d d' Q)->(∀s e,R s e->∃t,isVar t e)->(∀u e e',Q u e->Q u e'->∀w∈Zah e,w∈Zah e')->instR c c' Q:=by
 induction a using Exp.ind with
 |h a ih=>
  intro a' c c' R Q V V' h hv hv' hq hR hQ;by_cases hk:a.kind=1
  .exact hq a.name a' c c' (h.var hk) (hv.var hk) hv'
  .obtain ⟨h1,h2,h3,h4⟩:=h.node hk
   obtain⟨v1,v2,v3,v4⟩:=hv.node hk;obtain⟨w1,w2,w3,w4⟩:=hv'.node (h1.1▸hk);have hkc:c.kind≠1:=v1.1▸hk;refine .mk hkc ⟨⟨v1.1.symm.trans (h1.1.trans w1.1),v1.2.1.symm.trans (h1.2.1.trans w1.2.1),v1.2.2.1.symm.trans (h1.2.2.1.trans w1.2.2.1),v1.2.2.2.1.symm.trans (h1.2.2.2.1.trans w1.2.2.2.1),v1.2.2.2.2.symm.trans (h1.2.2.2.2.trans w1.2.2.2.2)⟩,
    fun k=>(v2 (v1.1.trans k)).symm.trans ((h2 (v1.1.trans k)).trans (w2 (h1.1.symm.trans (v1.1.trans k)))),fun i p q hp hq'=>?_,fun i y z hy hz=>?_⟩
   .obtain ⟨u,hu⟩:=Zaa (l:=a.arms) (i:=i) (by have:=v1.2.2.2.2;have:=(qd.1 hp).1;omega)
    obtain⟨w,hw⟩:=Zaa (l:=a'.arms) (i:=i) (by have:=h1.2.2.2.2;have:=(qd.1 hu).1;omega);have e1:=v3 i u p hu hp;have e2:=h3 i u w hu hw;have e3:=w3 i w q hw hq';exact⟨e1.1.symm.trans (e2.1.trans e3.1),e1.2.symm.trans (e2.2.trans e3.2)⟩
   .obtain ⟨x,hx⟩:=Zaa (l:=a.children) (i:=i) (by rw [v1.children];exact (qd.1 hy).1)
    obtain⟨x',hx'⟩:=Zaa (l:=a'.children) (i:=i) (by rw[<-h1.children];exact(qd.1 hx).1);refine ih x (qb hx) x' y z _ _ _ _ (h4 i x x' hx hx') (v4 i x y hx hy) (w4 i x' z hx' hz) ?_ ?_ ?_
    .intro s e d d' hs hd hd'
     rcases hs with ⟨hs,t,ht,hr,hvt⟩|⟨hs,hr,hf⟩
     .rcases hd with ⟨_,u,hu,hru,hvu⟩|⟨q,_⟩
      .rw [hvt.inst] at hd'
       rcases hd' with ⟨_,w,hw,hrw,hvw⟩|⟨q,_⟩
       .rw [hvu.inst]
        exact .inl ⟨hu,w,hw,hru.symm.trans (hr.trans hrw),hvw⟩
       .exact absurd ht q
      .exact absurd hs q
     .rcases hd with ⟨q,_⟩|⟨_,hd,hfd⟩
      .exact absurd q hs
      .obtain ⟨t,hvt⟩:=hR s e hr
       rw[hvt.inst]at hd';have htf:=hf t (by rw[hvt.free];simp);rcases hd' with ⟨q,_⟩|⟨_,hd',hfd'⟩
       .exact absurd q htf
       .have hdd:=hq s e d d' hr hd (hvt.inst.2 hd')
        refine hdd.mono _ _ _ _ ?_;intro u hu e' he';obtain⟨e2,he2,hf2⟩:=instR.free_to d d' Q hdd u hu;exact .inr ⟨hfd u hu,he',fun w hw=>hfd' w (hf2 w (hQ u e' e2 he' he2 w hw))⟩
    .rintro s e (⟨_,t,_,_,hv⟩|⟨_,hr,_⟩)
     .exact⟨t,hv⟩
     .exact hR s e hr
    .rintro u e e' (⟨h1,t,ht,hr,hv⟩|⟨h1,he,_⟩) (⟨g1,t',ht',hr',hv'⟩|⟨g1,he',_⟩) w hw
     .have e1:=ZlG ht
      have e2:=ZlG ht';rw[<-hr]at e1;rw[<-hr',e1]at e2;have htt:t=t':=qaA e2;rw[hv.free]at hw;rw[hv'.free,<-htt];exact hw
     .exact absurd h1 g1
     .exact absurd g1 h1
     .exact hQ u e e' he he' w hw
variable {A:Zab}
theorem ZAt (e:Exp):e.wf->e.weight<=1073741824->(K A).call 49 [expV e] []=some (expV (Zak e),[]):=by
 induction e using Exp.ind with
 |h e ih=>
 intro hwf hl;refine fnO v49 ?_;have hle:=e.children_le;rw[e.children_len]at hle;have hml:(e.children.map Zak).length=e.children.length:=by simp
 have hw:=Zfu (A:=A) e (e.children.map Zak) (by rw[hml,e.children_len]) hl;have hal:(Zbk e.arms ((e.children.map Zak).drop e.kids.length)).length=e.arms.length:=by rw[armsW_len,qZ,hml,e.children_len];omega
 rw[ZjF]at hw;have hks:(Zak e).kids.length=e.kids.length:=(ZaX e).2.2.2.2.1;have has:(Zak e).arms.length=e.arms.length:=(ZaX e).2.2.2.2.2.1;have hsa:=Zku e;generalize Zbk e.arms ((e.children.map Zak).drop e.kids.length)=ws at *
 have hpl:(ZdN ws).length=ws.length:=armsP_len ws;by_cases hkids:e.kids=[]
 .have harms:e.arms=[]:=qV fun h=>by
   have h8:e.kind=8:=qV fun h8=>h (hwf.one.2.1 h8);have:=hwf.one.1 h8;rw[hkids]at this;simp at this
  have hc:=ZaR (A:=A) e hkids harms;have hch:e.children=[]:=by simp[Exp.children,hkids,harms]
  rw[hch]at hw;simp only[qaf,exsV,rows0]at hw;unfold v49;simp(maxSteps:=4000000) (disch:=first|exact zd|fail) [hc,-getElem?_pos];refine Zaj (fun i=>⟨[(1,.sc (.ptr 64 0)),(2,.sc (.ptr 128 0)),(3,.sc (.full [])),(9,.sc (.full [])),(10,intV 0),(11,intV i)],[(64,some (.box (wc e.row))),(128,some Zc7)]⟩) 0 (by simp) (fun i hi=>by omega) ?_;unfold ZtC
  simp(maxSteps:=4000000) (disch:=first|exact zd|fail) [hw,hal,-getElem?_pos];refine Zaj (fun i=>⟨[(1,.sc (.ptr 64 0)),(2,.sc (.ptr 128 0)),(28,intV e.arms.length),(29,intV i)],
   [(64,some (.box [.c (.int .i64 e.kind),zi,.c (.str e.name),.c (.int .i64 e.num),.arr 1696 e.kids.length,.arr 1697 e.arms.length,.c (.int .i64 e.ty.kind),.c (.str e.ty.name),.c (.int .i64 e.ty.id),.c (.int .i64 e.ty.home),.c (.sl (Ty.rows e.ty.args))])),(128,some Zc7),(1696,some (.arr 11 (wr (Exp.rows (Zak e).kids)) 0)),(1697,some (.arr 14 (wr (Exp.armRows ((ZdN ws).take i++ws.drop i))) 0))]⟩) e.arms.length ?_ ?_ ?_
  .simp
  .intro i hi
   obtain⟨a,ha⟩:=Zaa (l:=ws) (i:=i) (by omega);have hz:(ZdN ws)[i]?=some ((⟨0,a.1.con,a.1.vars⟩:ArmH),a.2):=by
    unfold ZdN;rw[qp,ha];rfl
   have hg:=ZbX (i:=i) hpl (by omega);rw[ha]at hg;have hs:=ZbU hpl hz;have hln:=ZbV (i:=i) hpl;rw[<-hs];generalize (ZdN ws).take i++ws.drop i=zz at hg hln |-;have hset:=Zch zz i ((⟨0,a.1.con,a.1.vars⟩:ArmH),a.2);have hsp:=Zg7 a;have hln2:zz.length=e.arms.length:=(by omega);unfold Zuk;simp(maxSteps:=4000000) (disch:=first|exact zd|fail) [hi,hg,hln2,hsp,hset,Zbg,-getElem?_pos]
  .have ht:(ZdN ws).take e.arms.length++ws.drop e.arms.length=(Zak e).arms:=by
    rw[<-hal,qaN,qI,qi (by omega),hsa]
   rw[ht];have hsr:=Zio e;unfold Zuk;simp(maxSteps:=4000000) (disch:=first|exact zd|fail) [hsr,hks,has,-getElem?_pos]
 .have hc:=ZaP (A:=A) e hkids hl
  rw[e.children_len]at hc;unfold v49;simp(maxSteps:=4000000) (disch:=first|exact zd|fail) [hc,-getElem?_pos];refine Zaj (fun i=>⟨[(1,.sc (.ptr 64 0)),(2,.sc (.ptr 128 0)),(3,.sc (.arr 288 (e.kids.length+e.arms.length))),(9,.sc (.arr 288 (e.kids.length+e.arms.length))),(10,intV ((e.kids.length:Int)+e.arms.length)),(11,intV i)],
   [(64,some (.box (wc e.row))),(128,some Zc7),(288,some (.arr 11 (wr (Exp.rows ((e.children.map Zak).take i++e.children.drop i))) 0))]⟩) (e.kids.length+e.arms.length) ?_ ?_ ?_
  .simp
  .intro i hi
   obtain⟨x,hx⟩:=Zaa (l:=e.children) (i:=i) (by rw[e.children_len];exact hi);have hmem:=qb hx;have hrec:=ih x hmem (hwf.child hmem) (by have:=Exp.child_lt hmem;omega);have hz:(e.children.map Zak)[i]?=some (Zak x):=(by simp[hx]);have hg:=ZbX (i:=i) hml (by rw[e.children_len];exact hi);rw[hx]at hg;have hs:=ZbU hml hz;have hln:=ZbV (i:=i) hml;rw[<-hs]
   generalize (e.children.map Zak).take i++e.children.drop i=zz at hg hln |-;have hset:=Zdc zz i (Zak x);have hi':(i:Int)<(e.kids.length:Int)+e.arms.length:=(by omega);rw[e.children_len]at hln;unfold ZtC;simp(maxSteps:=4000000) (disch:=first|exact zd|fail) [hi,hi',hg,hln,hrec,hset,Zbg,-getElem?_pos]
  .have ht:(e.children.map Zak).take (e.kids.length+e.arms.length)++e.children.drop (e.kids.length+e.arms.length)=e.children.map Zak:=by
    rw[qab (by simp),qI,qi (by simp)]
   rw[ht];unfold ZtC;simp(maxSteps:=4000000) (disch:=first|exact zd|fail) [hw,hml,hal,-getElem?_pos];refine Zaj (fun i=>⟨[(1,.sc (.ptr 64 0)),(2,.sc (.ptr 128 0)),(28,intV e.arms.length),(29,intV i)],
    [(64,some (.box [.c (.int .i64 e.kind),zi,.c (.str e.name),.c (.int .i64 e.num),.arr 1696 e.kids.length,.arr 1697 e.arms.length,.c (.int .i64 e.ty.kind),.c (.str e.ty.name),.c (.int .i64 e.ty.id),.c (.int .i64 e.ty.home),.c (.sl (Ty.rows e.ty.args))])),(128,some Zc7),(288,some (.arr 11 (wr (Exp.rows (e.children.map Zak))) (e.kids.length+e.arms.length))),(1696,some (.arr 11 (wr (Exp.rows (Zak e).kids)) 0)),(1697,some (.arr 14 (wr (Exp.armRows ((ZdN ws).take i++ws.drop i))) 0))]⟩) e.arms.length ?_ ?_ ?_
   .simp
   .intro i hi
    obtain⟨a,ha⟩:=Zaa (l:=ws) (i:=i) (by omega);have hz:(ZdN ws)[i]?=some ((⟨0,a.1.con,a.1.vars⟩:ArmH),a.2):=by
     unfold ZdN;rw[qp,ha];rfl
    have hg:=ZbX (i:=i) hpl (by omega);rw[ha]at hg;have hs:=ZbU hpl hz;have hln:=ZbV (i:=i) hpl;rw[<-hs];generalize (ZdN ws).take i++ws.drop i=zz at hg hln |-;have hset:=Zch zz i ((⟨0,a.1.con,a.1.vars⟩:ArmH),a.2);have hsp:=Zg7 a;have hln2:zz.length=e.arms.length:=(by omega);unfold Zuk;simp(maxSteps:=4000000) (disch:=first|exact zd|fail) [hi,hg,hln2,hsp,hset,Zbg,-getElem?_pos]
   .have ht:(ZdN ws).take e.arms.length++ws.drop e.arms.length=(Zak e).arms:=by
     rw[<-hal,qaN,qI,qi (by omega),hsa]
    rw[ht];have hsr:=Zio e;unfold Zuk;simp(maxSteps:=4000000) (disch:=first|exact zd|fail) [hsr,hks,has,-getElem?_pos]
variable {A:Zab}
def ltN (x y:Nat):Bool:=decide (x<y)
theorem swoN:Sort.SWO ltN:=⟨fun x=>by simp[ltN],fun x y z h1 h2=>by simp only[ltN,decide_eq_true_eq]at *;omega,fun x y z h1 h2=>by simp only[ltN,decide_eq_false_iff_not]at *;omega⟩
theorem Zhj (x y:Nat):ltN x y=decide (x<y):=rfl
abbrev arrA (d:Array Nat):Obj:=arrU d.toList
def Is (e:Array Nat)(l:List Nat):Prop:=e.toList=l
theorem Zbf {e:Array Nat}{l:List Nat}(h:Is e l){i:Nat}(hi:i<e.size):l[i]?=some e[i]! :=by
 cases h;rw[qap];simp[hi]
theorem Ze2 {e:Array Nat}{l:List Nat}(h:Is e l)(i j:Nat):Is (Sort.swp e i j) ((l.set i e[j]!).set j e[i]!):=by
 cases h;unfold Is;simp[Sort.swp]
theorem Za3 {e:Array Nat}{l:List Nat}(h:Is e l):l.length=e.size:=by cases h;simp
theorem isEq {e:Array Nat}{l:List Nat}(h:Is e l):e.toList=l:=h
@[simp] theorem swp_size (d:Array Nat) (i j:Nat):(Sort.swp d i j).size=d.size:=by simp[Sort.swp]
theorem Zwa {a j:Nat}(e:Array Nat)(h:a<j):Sort.insInner ltN a j e=if e[j]! < e[j-1]! then Sort.insInner ltN a (j-1) (Sort.swp e j (j-1)) else e:=by
 obtain⟨k,rfl⟩:∃k,j=k+1:=⟨j-1,by omega⟩;rw[Sort.insInner];simp only[qaV,ltN,h,decide_true,Bool.true_and,decide_eq_true_eq,gt_iff_lt]
theorem Zwo {a:Nat}(e:Array Nat):Sort.insInner ltN a a e=e:=by
 cases a with
 |zero=>rw[Sort.insInner]
 |succ a=>rw[Sort.insInner];simp
theorem ZAe (d:Array Nat)(a b:Nat)(hab:a<=b)(hb:b<=d.size)(hl:d.size<=1073741824):
 (K A).call 270 [.sc (.arr 0 d.size),intV a,intV b] [arrA d]=some (retV,[arrA (Sort.insertionSort ltN d a b)]):=by
 generalize hR:Sort.insertionSort ltN d a b=R;unfold Sort.insertionSort at hR;have hd:Is d d.toList:=rfl;generalize hn:d.size=n at *
 refine fnO v270 ?_;unfold v270;by_cases h0:a=b
 .subst h0
  rw[Sort.insOuter,if_neg (by omega)]at hR;subst hR;have h1:¬(a:Int)+1<a:=by omega
  simp(disch:=first|exact zd|fail);refine Zad (fun i s=>s=⟨[(0,.sc (.arr 0 n)),(1,intV a),(2,intV a),(6,intV ((a:Int)+1))],[(0,some (arrU d.toList))]⟩) 0 (by simp) (fun i s hi=>by omega) ?_;rintro s rfl;unfold ZpH;simp(disch:=first|exact zd|fail) [h1,retV]
 .simp (disch:=first|exact zd|fail)
  refine Zad (fun i s=>∃(e:Array Nat) (l:List Nat),Is e l/\e.size=n/\Sort.insOuter ltN a b (a+1+i) e=R/\s=⟨[(0,.sc (.arr 0 n)),(1,intV a),(2,intV b),(6,intV ((a+1+i:Nat):Int))],[(0,some (arrU l))]⟩) (b-(a+1))
   ⟨d,d.toList,hd,hn,hR,by simp⟩ ?_ ?_
  .rintro i s hi ⟨e,l,hel,he,hR,rfl⟩
   generalize hi0:a+1+i=i0 at *
   have hi1:(a:Int)+1+(i+1)=(i0:Int)+1:=(by omega);have hib:(i0:Int)<b:=(by omega);have hll:=Za3 hel;rw[Sort.insOuter,if_pos (by omega)]at hR;unfold ZpH;simp(disch:=first|exact zd|fail) [hib];refine Zad (fun r s=>∃(e2:Array Nat) (l2:List Nat),Is e2 l2/\e2.size=n/\Sort.insOuter ltN a b (i0+1) (Sort.insInner ltN a (i0-r) e2)=R/\
    s=⟨[(0,.sc (.arr 0 n)),(1,intV a),(2,intV b),(6,intV i0),(7,intV ((i0-r:Nat):Int))],[(0,some (arrU l2))]⟩) (i0-a)
    ⟨e,l,hel,he,hR,by simp⟩ ?_ ?_
   .rintro r s hr ⟨e2,l2,hel2,he2,hR2,rfl⟩
    generalize hj:i0-r=j at *
    have hx:=Zbf hel2 (i:=j) (by omega);have hy:=Zbf hel2 (i:=j-1) (by omega);have hsw:=Ze2 hel2 j (j-1);rw[Zwa e2 (by omega)]at hR2;have hl2:=Za3 hel2;generalize e2[j]! = x at *
    generalize e2[j-1]! = y at *
    have hja:(a:Int)<j:=(by omega);have hj1:(j:Int)-1=((j-1:Nat):Int):=(by omega);have hless:=Zb9 (A:=A) x y;have hjl:j<l2.length:=(by omega);have hjl2:j-1<l2.length:=(by omega);unfold Zo9;by_cases hxy:x<y
    .rw [if_pos hxy] at hR2
     simp(maxSteps:=4000000) (disch:=first|exact zd|fail) [hja,hj1,hx,hy,hl2,he2,hless,hxy,-getElem?_pos];have e1:i0-(r+1)=j-1:=(by omega);exact⟨_,_,hsw,by simp[he2],by rw[e1];exact hR2,by simp[e1]⟩
    .rw [if_neg hxy] at hR2
     simp(maxSteps:=4000000) (disch:=first|exact zd|fail) [hja,hj1,hx,hy,hl2,he2,hless,hxy,-getElem?_pos];refine⟨e2,l2,hel2,he2,?_,?_⟩
     .rw [show a+1+(i+1)=i0+1 by omega]
      exact hR2
     .simp[hi1]
   .rintro s ⟨e2,l2,hel2,he2,hR2,rfl⟩
    have hja:i0-(i0-a)=a:=(by omega);rw[hja,Zwo]at hR2;rw[hja];unfold Zo9;simp(maxSteps:=4000000) (disch:=first|exact zd|fail) [-getElem?_pos];refine⟨e2,l2,hel2,he2,?_,?_⟩
    .rw [show a+1+(i+1)=i0+1 by omega]
     exact hR2
    .simp[hi1]
  .rintro s ⟨e,l,hel,he,hR,rfl⟩
   have hbe:a+1+(b-(a+1))=b:=(by omega);rw[hbe,Sort.insOuter,if_neg (by omega)]at hR;subst hR;rw[hbe];unfold ZpH;simp(disch:=first|exact zd|fail) [retV,isEq hel]
theorem ZfV {hi first root:Nat}(d:Array Nat)(h:2*root+1>=hi):Sort.siftDown ltN hi first root d=d:=by
 rw[Sort.siftDown,dif_pos h]
theorem Zyb {hi first root:Nat}(d:Array Nat)(h:2*root+2<hi)(hlt:d[first+(2*root+1)]! < d[first+(2*root+2)]!):
 Sort.siftDown ltN hi first root d=if d[first+root]! < d[first+(2*root+2)]! then Sort.siftDown ltN hi first (2*root+2) (Sort.swp d (first+root) (first+(2*root+2))) else d:=by
 rw[Sort.siftDown,dif_neg (by omega),show 2*root+1+1=2*root+2 by omega,show first+(2*root+1)+1=first+(2*root+2) by omega];simp only[ltN,h,hlt,decide_true,Bool.and_self,if_true,dite_true];by_cases h2:d[first+root]! < d[first+(2*root+2)]!
 .simp[h2]
 .simp[h2]
theorem Zyy {hi first root:Nat}(d:Array Nat)(h:2*root+1<hi)(hlt:¬(2*root+2<hi/\d[first+(2*root+1)]! < d[first+(2*root+2)]!)):
 Sort.siftDown ltN hi first root d=if d[first+root]! < d[first+(2*root+1)]! then Sort.siftDown ltN hi first (2*root+1) (Sort.swp d (first+root) (first+(2*root+1))) else d:=by
 rw[Sort.siftDown,dif_neg (by omega),show 2*root+1+1=2*root+2 by omega,show first+(2*root+1)+1=first+(2*root+2) by omega];have hc:(decide (2*root+2<hi)&&ltN d[first+(2*root+1)]! d[first+(2*root+2)]!)=false:=by
  rw[ltN,<-Bool.decide_and,decide_eq_false_iff_not];exact hlt
 rw[hc];simp only[qH,if_false,ltN];by_cases h2:d[first+root]! < d[first+(2*root+1)]!
 .simp[h2]
 .simp[h2]
theorem siftA (d:Array Nat)(lo hi first:Nat)(hh:first+hi<=d.size)(hlo:lo<=1073741824)(hl:d.size<=1073741824):
 (K A).call 291 [.sc (.arr 0 d.size),intV lo,intV hi,intV first] [arrA d]=some (retV,[arrA (Sort.siftDown ltN hi first lo d)]):=by
 generalize hR:Sort.siftDown ltN hi first lo d=R
 have hd:Is d d.toList:=rfl;generalize hn:d.size=n at *
 refine fnO v291 ?_;unfold v291;simp(disch:=first|exact zd|fail);refine Zad (fun r s=>∃(root:Nat) (e:Array Nat) (l:List Nat),Is e l/\e.size=n/\Sort.siftDown ltN hi first root e=R/\r<=root/\root<=1073741824/\
  s=⟨[(0,.sc (.arr 0 n)),(2,intV hi),(3,intV first),(8,intV root)],[(0,some (arrU l))]⟩) hi
  ⟨lo,d,d.toList,hd,hn,hR,qag _,hlo,by simp⟩ ?_ ?_
 .rintro r s hr ⟨root,e,l,hel,he,hR,hrr,hrl,rfl⟩
  have hll:=Za3 hel;unfold Zs0;by_cases hstop:hi<=2*root+1
  .rw [ZfV e hstop] at hR
   subst hR;have hs:(hi:Int)<=2*root+1:=(by omega);simp(maxSteps:=4000000) (disch:=first|exact zd|fail) [hs,retV,isEq hel,hll,he,-getElem?_pos]
  .have hs:¬(hi:Int)<=2*root+1:=by omega
   have hz:=Zbf hel (i:=first+root) (by omega);have hx:=Zbf hel (i:=first+(2*root+1)) (by omega);generalize hc:2*root+1=c at *
   have hcI:2*(root:Int)+1=c:=(by omega);have hsN:¬hi<=c:=(by omega);generalize hp0:first+root=p0 at *
   generalize hp:first+c=p at *
   have hp0I:(first:Int)+root=p0:=(by omega);have hpI:(first:Int)+c=p:=(by omega);have hp0l:p0<l.length:=(by omega);have hpl:p<l.length:=(by omega);by_cases hr2:c+1<hi/\e[p]! < e[p+1]!
   .obtain ⟨h1,h2⟩:=hr2
    have hy:=Zbf hel (i:=p+1) (by omega);have hsw:=Ze2 hel p0 (p+1);have hR2:=Zyb (first:=first) (root:=root) e (by omega:2*root+2<hi) (by rw[show 2*root+2=c+1 by omega,show 2*root+1=c by omega,hp,show first+(c+1)=p+1 by omega];exact h2);rw[hR,hp0,show 2*root+2=c+1 by omega,show first+(c+1)=p+1 by omega]at hR2;have hless:=Zb9 (A:=A) e[p]! e[p+1]!;have hless2:=Zb9 (A:=A) e[p0]! e[p+1]!
    generalize e[p0]! = z at *
    generalize e[p]! = x at *
    generalize e[p+1]! = y at *
    have h1I:(c:Int)+1<hi:=(by omega);have hpI2:(first:Int)+(c+1)=((p+1:Nat):Int):=(by omega);have hpI3:(p:Int)+1=((p+1:Nat):Int):=(by omega);generalize hq:p+1=q at *
    have hql:q<l.length:=(by omega);by_cases hzy:z<y
    .rw [if_pos hzy] at hR2
     simp(maxSteps:=4000000) (disch:=first|exact zd|fail) [hs,hsN,hcI,hp0I,hpI,hpI2,hpI3,h1I,h2,hx,hy,hz,hll,he,hless,hless2,hzy,-getElem?_pos];exact⟨c+1,_,_,hsw,by simp[he],hR2.symm,by omega,by omega,by simp⟩
    .rw [if_neg hzy] at hR2
     subst hR2;simp(maxSteps:=4000000) (disch:=first|exact zd|fail) [hs,hsN,hcI,hp0I,hpI,hpI2,hpI3,h1I,h2,hx,hy,hz,hll,he,hless,hless2,hzy,retV,isEq hel,-getElem?_pos]
   .have hsw:=Ze2 hel p0 p
    have hR2:=Zyy (first:=first) (root:=root) e (by omega:2*root+1<hi) (by rw[show 2*root+2=c+1 by omega,show 2*root+1=c by omega,hp,show first+(c+1)=p+1 by omega];exact hr2);rw[hR,hp0,show 2*root+1=c by omega,hp]at hR2;have hless2:=Zb9 (A:=A) e[p0]! e[p]!;by_cases h1:c+1<hi
    .have h2:¬e[p]! < e[p+1]! := fun h=>hr2 ⟨h1,h⟩
     have hy:=Zbf hel (i:=p+1) (by omega);have hless:=Zb9 (A:=A) e[p]! e[p+1]!;clear hr2;generalize e[p0]! = z at *
     generalize e[p]! = x at *
     generalize e[p+1]! = y at *
     have h1I:(c:Int)+1<hi:=(by omega);have hpI2:(first:Int)+(c+1)=((p+1:Nat):Int):=(by omega);have hpI3:(p:Int)+1=((p+1:Nat):Int):=(by omega);generalize hq:p+1=q at *
     have hql:q<l.length:=(by omega);by_cases hzy:z<x
     .rw [if_pos hzy] at hR2
      simp(maxSteps:=4000000) (disch:=first|exact zd|fail) [hs,hsN,hcI,hp0I,hpI,hpI2,hpI3,h1I,h2,hx,hy,hz,hll,he,hless,hless2,hzy,-getElem?_pos];exact⟨c,_,_,hsw,by simp[he],hR2.symm,by omega,by omega,by simp⟩
     .rw [if_neg hzy] at hR2
      subst hR2;simp(maxSteps:=4000000) (disch:=first|exact zd|fail) [hs,hsN,hcI,hp0I,hpI,hpI2,hpI3,h1I,h2,hx,hy,hz,hll,he,hless,hless2,hzy,retV,isEq hel,-getElem?_pos]
    .clear hr2
     generalize e[p0]! = z at *
     generalize e[p]! = x at *
     have h1I:¬(c:Int)+1<hi:=(by omega);by_cases hzy:z<x
     .rw [if_pos hzy] at hR2
      simp(maxSteps:=4000000) (disch:=first|exact zd|fail) [hs,hsN,hcI,hp0I,hpI,h1I,hx,hz,hll,he,hless2,hzy,-getElem?_pos];exact⟨c,_,_,hsw,by simp[he],hR2.symm,by omega,by omega,by simp⟩
     .rw [if_neg hzy] at hR2
      subst hR2;simp(maxSteps:=4000000) (disch:=first|exact zd|fail) [hs,hsN,hcI,hp0I,hpI,h1I,hx,hz,hll,he,hless2,hzy,retV,isEq hel,-getElem?_pos]
 .rintro s ⟨root,e,l,hel,he,hR,hrr,hrl,rfl⟩
  have hll:=Za3 hel;rw[ZfV e (by omega)]at hR;subst hR;have hs:(hi:Int)<=2*root+1:=by omega
  unfold Zs0;simp(maxSteps:=4000000) (disch:=first|exact zd|fail) [hs,retV,isEq hel,hll,he,-getElem?_pos]
variable {A:Zab}
theorem Zik (hi first:Nat):∀(k root:Nat) (d:Array Nat),hi-root<=k->(Sort.siftDown ltN hi first root d).size=d.size
 |0,root,d,h=>by rw[ZfV d (by omega)]
 |k+1,root,d,h=>by
  by_cases h1:2*root+1>=hi
  .rw[ZfV d h1]
  .by_cases h2:2*root+2<hi/\d[first+(2*root+1)]! < d[first+(2*root+2)]!
   .rw [Zyb d h2.1 h2.2]
    split
    .rw[Zik hi first k _ _ (by omega),swp_size]
    .rfl
   .rw [Zyy d (by omega) h2]
    split
    .rw[Zik hi first k _ _ (by omega),swp_size]
    .rfl
@[simp] theorem siftDown_size (hi first root:Nat) (d:Array Nat):(Sort.siftDown ltN hi first root d).size=d.size:=Zik hi first _ root d (qg _)
theorem siftL {e:Array Nat}{l:List Nat}(h:Is e l){n:Nat}(hn:e.size=n)(lo hi first:Nat)(hh:first+hi<=n)(hlo:lo<=1073741824)(hl:n<=1073741824):
 (K A).call 291 [.sc (.arr 0 n),intV lo,intV hi,intV first] [arrU l]=some (retV,[arrU (Sort.siftDown ltN hi first lo e).toList]):=by
 cases h;subst hn;exact siftA e lo hi first hh hlo hl
theorem heapA (d:Array Nat)(a b:Nat)(hab:a<b)(hb:b<=d.size)(hl:d.size<=1073741824):
 (K A).call 271 [.sc (.arr 0 d.size),intV a,intV b] [arrA d]=some (retV,[arrA (Sort.heapSort ltN d a b)]):=by
 generalize hR:Sort.heapSort ltN d a b=R;unfold Sort.heapSort at hR;have hd:Is d d.toList:=rfl;generalize hn:d.size=n at *
 refine fnO v271 ?_;unfold v271;generalize hh:b-a=hi at *
 have hhI:(b:Int)-a=hi:=by omega
 have hm1:(hi:Int)-1=((hi-1:Nat):Int):=by omega
 have hq:Int.tdiv ((hi-1:Nat):Int) 2=(((hi-1) / 2:Nat):Int):=by
  rw[qv (by omega)];omega
 generalize hk:(hi-1) / 2=k0 at *
 simp(maxSteps:=4000000) (disch:=first|exact zd|fail) [hhI,hm1,hq];refine Zad (fun r s=>∃(e:Array Nat) (l:List Nat),Is e l/\e.size=n/\Sort.heapPop ltN a hi (Sort.heapBuild ltN hi a (k0+1-r) e)=R/\
  s=⟨[(0,.sc (.arr 0 n)),(6,intV a),(7,intV 0),(8,intV hi),(9,intV ((k0:Int)-r))],[(0,some (arrU l))]⟩) (k0+1)
  ⟨d,d.toList,hd,hn,by rw[<-hR,qa8],by simp⟩ ?_ ?_
 .rintro r s hr ⟨e,l,hel,he,hR,rfl⟩
  obtain⟨i,hi1⟩:∃i,k0+1-r=i+1:=⟨k0-r,by omega⟩;rw[hi1,Sort.heapBuild]at hR;have hiI:(k0:Int)-r=(i:Int):=by omega
  have hs:=siftL (A:=A) hel he i hi a (by omega) (by omega) (by omega);have hsz:(Sort.siftDown ltN hi a i e).size=n:=by simp[he]
  rw[hiI];generalize hg:Sort.siftDown ltN hi a i e=g at *
  have hgl:g.toList.length=n:=by simp[hsz]
  unfold Zpv;simp(maxSteps:=4000000) (disch:=first|exact zd|fail) [hs,Za3 hel,he,hsz,retV,V.ren];refine⟨g,g.toList,rfl,hsz,?_,?_⟩
  .rw [show k0-r=i by omega]
   exact hR
  .simp
   omega
 .rintro s ⟨e,l,hel,he,hR,rfl⟩
  rw[show k0+1-(k0+1)=0 by omega,Sort.heapBuild]at hR;have hneg:¬(0:Int)<=(k0:Int)-((k0+1:Nat):Int):=by omega
  have hneg2:(k0:Int)-((k0:Int)+1)=-1:=by omega
  unfold Zpv;simp(maxSteps:=4000000) (disch:=first|exact zd|fail) [hneg,hneg2,hm1];refine Zad (fun r s=>∃(e:Array Nat) (l:List Nat),Is e l/\e.size=n/\Sort.heapPop ltN a (hi-r) e=R/\
   s=⟨[(0,.sc (.arr 0 n)),(6,intV a),(7,intV 0),(10,intV ((hi:Int)-1-r))],[(0,some (arrU l))]⟩) hi
   ⟨e,l,hel,he,hR,by simp;omega⟩ ?_ ?_
  .rintro r s hr ⟨e,l,hel,he,hR,rfl⟩
   obtain⟨i,hi1⟩:∃i,hi-r=i+1:=⟨hi-r-1,by omega⟩;rw[hi1,Sort.heapPop]at hR;have hiI:(hi:Int)-1-r=(i:Int):=(by omega);rw[hiI];have hx:=Zbf hel (i:=a) (by omega);have hy:=Zbf hel (i:=a+i) (by omega);have hsw:=Ze2 hel a (a+i);have hpI:(a:Int)+i=((a+i:Nat):Int):=(by omega);have hs:=siftL (A:=A) hsw (by simp[he]) 0 i a (by omega) (by omega) (by omega:n<=_)
   have hsz:(Sort.siftDown ltN i a 0 (Sort.swp e a (a+i))).size=n:=(by simp[he]);have h00:((0:Nat):Int)=0:=rfl;rw[h00]at hs;generalize hp:a+i=p at *
   generalize e[a]! = x at *
   generalize e[p]! = y at *
   have hpl:p<l.length:=(by rw[Za3 hel];omega);have hal:a<l.length:=(by rw[Za3 hel];omega);generalize hg:Sort.siftDown ltN i a 0 (Sort.swp e a p)=g at *
   have hgl:g.toList.length=n:=(by simp[hsz]);obtain⟨v,hv⟩:=Zaa (l:=l.set a y) (i:=p) (by simp;omega);unfold ZsT;simp(maxSteps:=4000000) (disch:=first|exact zd|fail) [hv,hx,hy,hpI,hs,Za3 hel,he,hsz,retV,V.ren,-getElem?_pos];refine⟨g,g.toList,rfl,hsz,?_,?_⟩
   .rw [show hi-(r+1)=i by omega]
    exact hR
   .simp
    omega
  .rintro s ⟨e,l,hel,he,hR,rfl⟩
   rw[qaS,Sort.heapPop]at hR;subst hR;have hneg:¬(0:Int)<=(hi:Int)-1-hi:=(by omega);have hneg3:(hi:Int)-1-hi=-1:=(by omega);unfold ZsT;simp(maxSteps:=4000000) (disch:=first|exact zd|fail) [hneg,hneg3,retV,isEq hel]
theorem ZxM (d:Array Nat)(a b:Nat)(hab:a<b)(hb:b<=d.size)(hl:d.size<=1073741824):
 (K A).call 274 [.sc (.arr 0 d.size),intV a,intV b] [arrA d]=some (retV,[arrA (Sort.reverseRange d a b)]):=by
 generalize hR:Sort.reverseRange d a b=R;unfold Sort.reverseRange at hR;have hd:Is d d.toList:=rfl;generalize hn:d.size=n at *
 refine fnO v274 ?_;unfold v274;have hb1:(b:Int)-1=((b-1:Nat):Int):=by omega
 simp(maxSteps:=4000000) (disch:=first|exact zd|fail) [hb1];refine Zad (fun r s=>∃(i j:Nat) (e:Array Nat) (l:List Nat),Is e l/\e.size=n/\Sort.reverseLoop i j e=R/\j+r<=b-1/\i<=b/\
  s=⟨[(0,.sc (.arr 0 n)),(6,intV i),(7,intV j)],[(0,some (arrU l))]⟩) b
  ⟨a,b-1,d,d.toList,hd,hn,hR,by omega,by omega,by simp⟩ ?_ ?_
 .rintro r s hr ⟨i,j,e,l,hel,he,hR,hj,hib,rfl⟩
  rw[Sort.reverseLoop]at hR;unfold Zyl;by_cases hij:i<j
  .rw [if_pos hij] at hR
   have hx:=Zbf hel (i:=i) (by omega);have hy:=Zbf hel (i:=j) (by omega);have hsw:=Ze2 hel i j;generalize e[i]! = x at *
   generalize e[j]! = y at *
   have hil:i<l.length:=(by rw[Za3 hel];omega);have hjl:j<l.length:=(by rw[Za3 hel];omega);have hj1:(j:Int)-1=((j-1:Nat):Int):=(by omega);simp(maxSteps:=4000000) (disch:=first|exact zd|fail) [hij,hx,hy,hj1,Za3 hel,he,-getElem?_pos];exact⟨i+1,j-1,_,_,hsw,by simp[he],hR,by omega,by omega,by simp⟩
  .rw [if_neg hij] at hR
   subst hR;simp(maxSteps:=4000000) (disch:=first|exact zd|fail) [hij,retV,isEq hel]
 .rintro s ⟨i,j,e,l,hel,he,hR,hj,hib,rfl⟩
  omega
end Go.Vs.Tryz
