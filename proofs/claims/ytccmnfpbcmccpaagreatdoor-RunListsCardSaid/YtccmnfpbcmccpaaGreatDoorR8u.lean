/- Appending two lists by the program that is run (plain). -/
import Derived.Test.YtccmnfpbcmccpaaGreatDoorR7u
set_option linter.unusedSimpArgs false
set_option linter.unusedVariables false
set_option linter.deprecated false
set_option maxHeartbeats 8000000
namespace Go.Vs.Tryz
open Go Go.Vs
abbrev cE (s:Str):Exp:=.mk 2 0 s 0 [] [] tz
abbrev vE (s:Str):Exp:=.mk 1 0 s 0 [] [] tz
abbrev iE (n:Nat):Exp:=.mk 3 0 [] n [] [] tz
abbrev lamE (x:Str)(b:Exp):Exp:=.mk 4 0 x 0 [b] [] tz
abbrev letE (x:Str)(a b:Exp):Exp:=.mk 6 0 x 0 [a,b] [] tz
abbrev recE (x:Str)(a b:Exp):Exp:=.mk 7 0 x 0 [a,b] [] tz
abbrev sNil:Str:=[78,105,108]
abbrev Ap:Str:=[67,111,110,115]
abbrev sX:Str:=[120]
abbrev sY:Str:=[121]
abbrev sH:Str:=[104]
abbrev sT:Str:=[116]
abbrev sN:Str:=[110]
abbrev sApp:Str:=[97,112,112]
def lstE:List Nat->Exp
 |[]=>cE sNil
 |n::l=>appE (appE (cE Ap) (iE n)) (lstE l)
abbrev cseE (s b1 b2:Exp):Exp:=.mk 8 0 [] 0 [s] [(⟨0,sNil,[]⟩,b1),(⟨0,Ap,[sH,sT]⟩,b2)] tz
abbrev conE (r y:Exp):Exp:=appE (appE (cE Ap) (vE sH)) (appE (appE r (vE sT)) y)
def appF:Exp:=lamE sX (lamE sY (cseE (vE sX) (vE sY) (conE (vE sApp) (vE sY))))
def APP:Exp:=recE sApp appF appF
def appG:Exp:=lamE sX (lamE sY (cseE (vE sX) (vE sY) (conE APP (vE sY))))
def Dn (a b:Exp):Exp:=recE sApp appF (letE sN (appE (appE (vE sApp) a) b) (vE sN))
theorem kd {a b:Int}(h:decide (a=b)=false):¬a=b:=of_decide_eq_false h
theorem Zb {x:Str}{free:List Str}{e:Exp}(hs:shp e)(hk:e.kind≠1)(h:x∉Ac e):AT x free e=e:=by
 have hch:∀(i:Nat) y,e.children[i]?=some y->x∉e.bound i->x∉Ac y:=fun i y hy hb hx=>h ((BD hk).2 ⟨i,y,hy,hx,hb⟩);have hone:=hs.one;unfold AT;by_cases h4:e.kind=4\/e.kind=6\/e.kind=7
 .rw [if_pos h4]
  unfold BM;refine if_pos ?_;by_cases hn:e.name=x
  .exact .inl hn
  .refine .inr (.inr ?_)
   rintro⟨_,y,hy,hxy⟩;obtain⟨i,hi⟩:=qj.1 hy;rw[qac]at hi;have hil:=(qf.1 hi).1;have hkn:=hone.2.2;refine hch (AB e+i) y (by rw[Exp.children,qK hil];exact hi) ?_ hxy;unfold Exp.bound;have:e.kind=4\/e.kind=7\/(e.kind=6/\AB e+i=1):=by
    rcases h4 with h4|h4|h4
    .exact .inl h4
    .refine .inr (.inr ⟨h4,?_⟩)
     have:AB e=1:=(by unfold AB;rw[if_pos h4]);rw[h4]at hkn;have:CO 6=2:=(by decide);omega
    .exact .inr (.inl h4)
   rw[if_pos this];simp;exact fun q=>hn q.symm
 .rw [if_neg h4]
  by_cases h8:e.kind=8
  .rw [if_pos h8]
   have hk1:e.kids.length=1:=by
    have:=hone.2.2;rw[h8]at this;have h:CO 8=1:=(by decide);omega
   have hm:e.arms.map (armP x free)=e.arms:=by
    refine qE fun i=>?_;rw[qq];cases ha:e.arms[i]? with
    |none=>rfl
    |some a=>
     simp only[qp,qc];unfold armP;by_cases hx:x∈a.1.vars
     .rw[if_pos hx]
     .rw [if_neg hx]
      have hb:x∉Ac a.2:=by
       refine hch (1+i) a.2 ?_ ?_
       .rw[Exp.children,qH (by omega),hk1,show 1+i-1=i by omega,qq,ha];rfl
       .unfold Exp.bound
        rw[if_neg (by omega),if_pos ⟨h8,by omega⟩,show 1+i-1=i by omega,ha];exact hx
      have hto:∀k,Bi x free a.1.vars a.2 k=(a.1.vars,a.2):=by
       intro k
       induction k with
       |zero=>rfl
       |succ k ih=>
        rw[EI,ih];unfold CL;split
        .rfl
        .refine if_pos (.inr ?_)
         rintro⟨_,y,hy,hxy⟩;simp only[qy]at hy;subst hy;exact hb hxy
      rw[hto]
   rw[hm];cases e;rfl
  .rw[if_neg h8]
theorem PY {x:Str}{b:Exp}:∀(n:Nat)(e:Exp),e.weight<=n->shp e->x∉Ac e->subN n e x b=e
 |0,_,_,_,_=>rfl
 |n+1,e,hn,hs,h=>by
  rw[CM];by_cases hk:e.kind=1
  .rw [if_pos hk,if_neg]
   intro q;exact h ((Cd hk).2 q.symm)
  .rw [if_neg hk,Zb hs hk h]
   have hc:subC n e x b=e.children:=by
    refine qE fun i=>?_;cases hi:e.children[i]? with
    |none=>
     have h1:=e.children_len;have h2:e.children.length<=i:=by
      by_cases q:i<e.children.length
      .rw[qm q]at hi;cases hi
      .omega
     exact qaj (by rw[subC_len];omega)
    |some y=>
     rw[Ej hi];by_cases hb:x∈e.bound i
     .rw[if_pos hb]
     .have hm:=qd hi
      have hw:=Exp.child_lt hm;rw[if_neg hb,PY n y (by omega) (hs.child hm) fun q=>h ((BD hk).2 ⟨i,y,hi,q,hb⟩)]
   rw[hc,Zb9]
def Sub (e:Exp)(x:Str)(b r:Exp):Prop:=∀n,e.weight<=n->subN n e x b=r
theorem Sub.subP {e:Exp}{x:Str}{b r:Exp}(h:Sub e x b r):subP e x b=r:=h _ (qg _)
theorem Sub.none {e:Exp}{x:Str}{b:Exp}(hs:shp e)(h:x∉Ac e):Sub e x b e:=fun n hn=>PY n e hn hs h
theorem Co {e:Exp}{n:Nat}(h:e.weight<=n):∃m,n=m+1:=⟨n-1,by have:=e.weight_pos;omega⟩
theorem Sub.hit {x:Str}{b:Exp}:Sub (vE x) x b b:=by
 intro n h;obtain⟨m,rfl⟩:=Co h;rw[CM,if_pos (show(vE x).kind=1 from rfl),if_pos (show(vE x).name=x from rfl)]
theorem Sub.miss {x y:Str}{b:Exp}(h:y≠x):Sub (vE y) x b (vE y):=by
 intro n hn;obtain⟨m,rfl⟩:=Co hn;rw[CM,if_pos (show(vE y).kind=1 from rfl),if_neg (show ¬(vE y).name=x from h)]
theorem Sub.con {x s:Str}{b:Exp}:Sub (cE s) x b (cE s):=by
 intro n hn;obtain⟨m,rfl⟩:=Co hn;rfl
theorem Sub.int {x:Str}{k:Nat}{b:Exp}:Sub (iE k) x b (iE k):=by
 intro n hn;obtain⟨m,rfl⟩:=Co hn;rfl
theorem Sub.app {x:Str}{b f a f' a':Exp}(hf:Sub f x b f')(ha:Sub a x b a'):Sub (appE f a) x b (appE f' a'):=by
 intro n hn;obtain⟨m,rfl⟩:=Co hn;rw[Jl]at hn;have hp:AT x (Ac b) (appE f a)=appE f a:=rfl;have hc:subC m (appE f a) x b=[subN m f x b,subN m a x b]:=rfl;rw[CM,if_neg (show ¬(appE f a).kind=1 from kd rfl),hp,hc,hf m (by omega),ha m (by omega)];rfl
theorem Sub.lam {x y:Str}{b k k':Exp}(hx:y≠x)(hy:y∉Ac b)(hk:Sub k x b k'):Sub (lamE y k) x b (lamE y k'):=by
 intro n hn;obtain⟨m,rfl⟩:=Co hn;rw[Dr]at hn;simp at hn;have hp:AT x (Ac b) (lamE y k)=lamE y k:=by
  show BM x (Ac b) (lamE y k)=_;unfold BM;exact if_pos (.inr (.inr fun q=>hy q.1))
 have hc:subC m (lamE y k) x b=[if x∈[y] then k else subN m k x b]:=rfl;rw[CM,if_neg (show ¬(lamE y k).kind=1 from kd rfl),hp,hc,if_neg (by simp;exact fun q=>hx q.symm),hk m (by omega)];rfl
theorem Sub.let_ {x y:Str}{b f a f' a':Exp}(hx:y≠x)(hy:y∉Ac b)(hf:Sub f x b f')(ha:Sub a x b a'):Sub (letE y f a) x b (letE y f' a'):=by
 intro n hn;obtain⟨m,rfl⟩:=Co hn;rw[Dr]at hn;simp at hn;have hp:AT x (Ac b) (letE y f a)=letE y f a:=by
  show BM x (Ac b) (letE y f a)=_;unfold BM;exact if_pos (.inr (.inr fun q=>hy q.1))
 have hc:subC m (letE y f a) x b=[if x∈([]:List Str) then f else subN m f x b,if x∈[y] then a else subN m a x b]:=rfl;rw[CM,if_neg (show ¬(letE y f a).kind=1 from kd rfl),hp,hc,if_neg (by simp),if_neg (by simp;exact fun q=>hx q.symm),hf m (by omega),ha m (by omega)];rfl
theorem Sub.cse {x:Str}{b s b1 b2 s' b1' b2':Exp}(hh:x≠sH)(ht:x≠sT)(fh:sH∉Ac b)(ft:sT∉Ac b)(h0:Sub s x b s')(h1:Sub b1 x b b1')(h2:Sub b2 x b b2'):Sub (cseE s b1 b2) x b (cseE s' b1' b2'):=by
 intro n hn;obtain⟨m,rfl⟩:=Co hn;rw[Dr]at hn;simp at hn;have ha:armP x (Ac b) (⟨0,Ap,[sH,sT]⟩,b2)=(⟨0,Ap,[sH,sT]⟩,b2):=by
  unfold armP;rw[if_neg (by simp;exact⟨hh,ht⟩)];have s0:CL x (Ac b) ([sH,sT],b2) 0=([sH,sT],b2):=if_pos (.inr fun q=>fh q.1);have s1:CL x (Ac b) ([sH,sT],b2) 1=([sH,sT],b2):=if_pos (.inr fun q=>ft q.1);have:Bi x (Ac b) [sH,sT] b2 2=([sH,sT],b2):=by rw[EI,EI];show CL x (Ac b) (CL x (Ac b) ([sH,sT],b2) 0) 1=_;rw[s0,s1]
  show((⟨0,Ap,(Bi x (Ac b) [sH,sT] b2 2).1⟩:ArmH),(Bi x (Ac b) [sH,sT] b2 2).2)=_;rw[this]
 have ha0:armP x (Ac b) (⟨0,sNil,[]⟩,b1)=(⟨0,sNil,[]⟩,b1):=by
  unfold armP;rw[if_neg (by simp)];rfl
 have hp:AT x (Ac b) (cseE s b1 b2)=cseE s b1 b2:=by
  show Exp.mk 8 0 [] 0 [s] [armP x (Ac b) (⟨0,sNil,[]⟩,b1),armP x (Ac b) (⟨0,Ap,[sH,sT]⟩,b2)] tz=_;rw[ha,ha0]
 have hc:subC m (cseE s b1 b2) x b=[if x∈([]:List Str) then s else subN m s x b,if x∈([]:List Str) then b1 else subN m b1 x b,if x∈[sH,sT] then b2 else subN m b2 x b]:=rfl;rw[CM,if_neg (show ¬(cseE s b1 b2).kind=1 from kd rfl),hp,hc,if_neg (by simp),if_neg (by simp),if_neg (by simp;exact⟨hh,ht⟩),h0 m (by omega),h1 m (by omega),h2 m (by omega)];rfl
theorem P7 (f a:Exp)(s:Str):s∈Ac (appE f a)↔s∈Ac f\/s∈Ac a:=by
 rw[BD (show(appE f a).kind≠1 from kd rfl)];constructor
 .rintro ⟨i,x,hx,hs,_⟩
  have hc:(appE f a).children=[f,a]:=rfl;rw[hc]at hx
  match i,hx with
  |0,hx=>exact .inl (by cases hx;exact hs)
  |1,hx=>exact .inr (by cases hx;exact hs)
  |i+2,hx=>simp at hx
 .rintro (h|h)
  .exact⟨0,f,rfl,h,by simp[Exp.bound,Exp.kind]⟩
  .exact⟨1,a,rfl,h,by simp[Exp.bound,Exp.kind]⟩
theorem FD (l:List Nat)(s:Str):s∉Ac (lstE l):=by
 induction l with
 |nil=>show s∉Ac (cE sNil);rw[show Ac (cE sNil)=[]from rfl];simp
 |cons n l ih=>
  show s∉Ac (appE (appE (cE Ap) (iE n)) (lstE l));rw[P7,P7,show Ac (cE Ap)=[]from rfl,show Ac (iE n)=[]from rfl];simp[ih]
def Stp (e:Exp)(p:Exp×Nat):Prop:=∀n,e.weight<=n->AI subP Ah AA n e=some p
def Stn (e:Exp):Prop:=∀n,e.weight<=n->AI subP Ah AA n e=none
theorem QD (m:Nat)(f a:Exp):AI subP Ah AA (m+1) (appE f a)=(if f.kind=4 then (match f.kids with | [k]=>some (subP k f.name a,1) | _=>none) else (AI subP Ah AA m f).map fun p=>(AL (appE f a) (p.1::[a]),p.2)):=rfl
theorem Stp.app {f a:Exp}{p:Exp×Nat}(hf:f.kind≠4)(h:Stp f p):Stp (appE f a) (appE p.1 a,p.2):=by
 intro n hn;obtain⟨m,rfl⟩:=Co hn;rw[Jl]at hn;rw[QD,if_neg hf,h m (by omega)];rfl
theorem Stn.app {f a:Exp}(hf:f.kind≠4)(h:Stn f):Stn (appE f a):=by
 intro n hn;obtain⟨m,rfl⟩:=Co hn;rw[Jl]at hn;rw[QD,if_neg hf,h m (by omega)];rfl
theorem Stp.beta {x:Str}{k a:Exp}:Stp (appE (lamE x k) a) (subP k x a,1):=by
 intro n hn;obtain⟨m,rfl⟩:=Co hn;rfl
theorem Stp.let_ {x:Str}{f a:Exp}:Stp (letE x f a) (subP a x f,2):=by
 intro n hn;obtain⟨m,rfl⟩:=Co hn;rfl
theorem Stp.rec_ {x:Str}{f a:Exp}:Stp (recE x f a) (subP a x (recE x f f),3):=by
 intro n hn;obtain⟨m,rfl⟩:=Co hn;rfl
theorem Stn.con {s:Str}:Stn (cE s):=by
 intro n hn;obtain⟨m,rfl⟩:=Co hn;rfl
theorem Stn.int {k:Nat}:Stn (iE k):=by
 intro n hn;obtain⟨m,rfl⟩:=Co hn;rfl
theorem Stn.lst (l:List Nat):Stn (lstE l):=by
 cases l with
 |nil=>exact .con
 |cons n l=>exact .app (kd rfl) (.app (kd rfl) .con)
theorem Gp {f a:Exp}(hf:shp f)(ha:shp a):shp (appE f a):=by
 rw[B1];refine⟨⟨⟨by simp[Exp.kind],by simp[Exp.arms],by simp[Exp.kind]⟩,by simp[Exp.kind],by simp[Exp.kids,Exp.kind,CO]⟩,fun x hx=>?_⟩;have hc:(appE f a).children=[f,a]:=rfl;rw[hc]at hx;simp at hx;rcases hx with rfl|rfl
 .exact hf
 .exact ha
theorem JO (l:List Nat):shp (lstE l):=by
 have leaf:∀k s n,k=2\/k=3->shp (.mk k 0 s n [] [] tz):=fun k s n hk=>by
  rw[B1];refine⟨⟨⟨?_,by simp[Exp.arms],by simp[Exp.kids]⟩,?_,?_⟩,by simp[Exp.children,Exp.kids,Exp.arms]⟩
  .intro h
   have:k=8:=h;omega
  .intro h
   have:k=1:=h;omega
  .rcases hk with rfl|rfl<;>rfl
 induction l with
 |nil=>exact leaf 2 _ _ (.inl rfl)
 |cons n l ih=>exact Gp (Gp (leaf 2 _ _ (.inl rfl)) (leaf 3 _ _ (.inr rfl))) ih
def noV (e:Exp):Prop:=∀s∈Ah e,s.head?≠some 118
theorem GF {f a:Exp}(hf:noV f)(ha:noV a):noV (appE f a):=by
 intro s hs;rw[E6]at hs;have hc:(appE f a).children=[f,a]:=rfl;rw[hc]at hs;simp at hs;rcases hs with rfl|hs|hs
 .simp[Exp.name]
 .exact absurd hs (by simp[Exp.arms])
 .rcases hs with h|h
  .exact hf s h
  .exact ha s h
theorem Mp (l:List Nat):noV (lstE l):=by
 have c:∀s:Str,s.head?≠some 118->noV (cE s):=fun s h=>by
  intro t ht;rw[show Ah (cE s)=[s]from rfl]at ht;simp at ht;subst ht;exact h
 induction l with
 |nil=>exact c _ (by decide)
 |cons n l ih=>
  refine GF (GF (c _ (by decide)) ?_) ih;intro t ht;rw[show Ah (iE n)=[[]]from rfl]at ht;simp at ht;subst ht;decide
theorem ZbY {e:Exp}(h:noV e)(k:Nat):Av k (Ah e)=Av k []:=by
 refine Lz (fun j=>?_) k;constructor
 .intro q
  exact absurd rfl (h _ q)
 .intro q
  cases q
theorem D7 (k:Int)(s:Str)(n:Int)(hk:k=1/\n=0\/k=2\/k=3):shp (.mk k 0 s n [] [] tz):=by
 rw[B1];refine⟨⟨⟨?_,by simp[Exp.arms],by simp[Exp.kids]⟩,?_,?_⟩,by simp[Exp.children,Exp.kids,Exp.arms]⟩
 .intro h
  have:k=8:=h;omega
 .intro h
  have:k=1:=h;refine⟨?_,rfl⟩;show n=0;omega
 .rcases hk with ⟨rfl,_⟩|rfl|rfl<;>rfl
theorem K5 {x:Str}{k:Exp}(h:shp k):shp (lamE x k):=by
 rw[B1];refine⟨⟨⟨by simp[Exp.kind],by simp[Exp.arms],by simp[Exp.kind]⟩,by simp[Exp.kind],by simp[Exp.kids,Exp.kind,CO]⟩,fun y hy=>?_⟩;have hc:(lamE x k).children=[k]:=rfl;rw[hc]at hy;simp at hy;exact hy▸h
theorem T0 {q:Int}{x:Str}{f a:Exp}(hq:q=6\/q=7)(hf:shp f)(ha:shp a):shp (.mk q 0 x 0 [f,a] [] tz):=by
 rw[B1];refine⟨⟨⟨?_,by simp[Exp.arms],?_⟩,?_,?_⟩,fun y hy=>?_⟩
 .intro h;have:q=8:=h;omega
 .intro h;have:q=1:=h;omega
 .intro h;have:q=1:=h;omega
 .rcases hq with rfl|rfl<;>rfl
 have hc:(Exp.mk q 0 x 0 [f,a] [] tz).children=[f,a]:=rfl;rw[hc]at hy;simp at hy;rcases hy with rfl|rfl
 .exact hf
 .exact ha
theorem Re {s b1 b2:Exp}(h0:shp s)(h1:shp b1)(h2:shp b2):shp (cseE s b1 b2):=by
 rw[B1];refine⟨⟨⟨by simp[Exp.kids],by simp[Exp.kind],by simp[Exp.kind]⟩,by simp[Exp.kind],by simp[Exp.kids,Exp.kind,CO]⟩,fun y hy=>?_⟩;have hc:(cseE s b1 b2).children=[s,b1,b2]:=rfl;rw[hc]at hy;simp at hy;rcases hy with rfl|rfl|rfl
 .exact h0
 .exact h1
 .exact h2
theorem Ry:shp appF:=K5 (K5 (Re (D7 1 _ _ (.inl ⟨rfl,rfl⟩)) (D7 1 _ _ (.inl ⟨rfl,rfl⟩)) (Gp (Gp (D7 2 _ _ (.inr (.inl rfl))) (D7 1 _ _ (.inl ⟨rfl,rfl⟩))) (Gp (Gp (D7 1 _ _ (.inl ⟨rfl,rfl⟩)) (D7 1 _ _ (.inl ⟨rfl,rfl⟩))) (D7 1 _ _ (.inl ⟨rfl,rfl⟩))))))
theorem Mh:shp APP:=T0 (.inr rfl) Ry Ry
theorem Zaz:Ac APP=[]:=by rfl
theorem Fy (s:Str):s∉Ac APP:=by rw[Zaz];simp
theorem subG:subP appF sApp APP=appG:=by
 refine Sub.subP (.lam (by decide) (Fy _) (.lam (by decide) (Fy _) (.cse (by decide) (by decide) (Fy _) (Fy _) (.miss (by decide)) (.miss (by decide)) (.app (.app .con (.miss (by decide))) (.app (.app .hit (.miss (by decide))) (.miss (by decide)))))))
theorem GQ {e:Exp}{x:Str}{b:Exp}(hs:shp e)(h:∀s,s∉Ac e):Sub e x b e:=.none hs (h x)
theorem subX (a:List Nat):subP (lamE sY (cseE (vE sX) (vE sY) (conE APP (vE sY)))) sX (lstE a)=lamE sY (cseE (lstE a) (vE sY) (conE APP (vE sY))):=
 Sub.subP (.lam (by decide) (FD a _) (.cse (by decide) (by decide) (FD a _) (FD a _) .hit (.miss (by decide)) (.app (.app .con (.miss (by decide))) (.app (.app (GQ Mh Fy) (.miss (by decide))) (.miss (by decide))))))
theorem subY (a b:List Nat):subP (cseE (lstE a) (vE sY) (conE APP (vE sY))) sY (lstE b)=cseE (lstE a) (lstE b) (conE APP (lstE b)):=
 Sub.subP (.cse (by decide) (by decide) (FD b _) (FD b _) (GQ (JO a) (FD a)) .hit (.app (.app .con (.miss (by decide))) (.app (.app (GQ Mh Fy) (.miss (by decide))) .hit)))
theorem M8 (n:Nat)(l:List Nat):spine (lstE (n::l))=(cE Ap,[iE n,lstE l]):=by
 show spine (appE (appE (cE Ap) (iE n)) (lstE l))=_;rw[Ez rfl rfl,Ez rfl rfl,DN (kd rfl)];rfl
theorem WH (a b:List Nat):noV (cseE (lstE a) (lstE b) (conE APP (lstE b))):=by
 intro s hs;rw[E6]at hs;have hc:(cseE (lstE a) (lstE b) (conE APP (lstE b))).children=[lstE a,lstE b,conE APP (lstE b)]:=rfl;rw[hc]at hs;have hcc:noV (conE APP (lstE b)):=by
  refine GF (GF ?_ ?_) (GF (GF ?_ ?_) (Mp b))
  .intro t ht;rw[show Ah (cE Ap)=[Ap]from rfl]at ht;simp at ht;subst ht;decide
  .intro t ht;rw[show Ah (vE sH)=[sH]from rfl]at ht;simp at ht;subst ht;decide
  .have:∀ s∈Ah APP,s.head?≠some 118:=by decide
   exact this
  .intro t ht;rw[show Ah (vE sT)=[sT]from rfl]at ht;simp at ht;subst ht;decide
 simp only[qD,qz,qv,qaf,qG,List.flatten_nil,qJ]at hs;rcases hs with rfl|hs|hs|hs|hs
 .simp[Exp.name]
 .simp [Exp.arms] at hs
  rcases hs with rfl|rfl<;>decide
 .exact Mp a s hs
 .exact Mp b s hs
 .exact hcc s hs
def sV1:Str:=[118,49]
def sV2:Str:=[118,50]
theorem ZbE:Av 0 []=sV1:=by
 show AG (Bo 0 [])=_;rw[show Bo 0 []=1 by decide,AG,Cn (by decide)];rfl
theorem Zt:Av 1 []=sV2:=by
 show AG (Bo 1 [])=_;rw[show Bo 1 []=2 by decide,AG,Cn (by decide)];rfl
theorem ZbQ (n:Nat)(a b:List Nat):Ax [(sH,varX sV1),(sT,varX sV2),(sV1,iE n),(sV2,lstE a)] (conE APP (lstE b))=appE (appE (cE Ap) (iE n)) (appE (appE APP (lstE a)) (lstE b)):=by
 have lb:=fun(x:Str) (c:Exp)=>GQ (x:=x) (b:=c) (JO b) (FD b);have ap:=fun(x:Str) (c:Exp)=>GQ (x:=x) (b:=c) Mh Fy;have s1:subP (conE APP (lstE b)) sH (varX sV1)=appE (appE (cE Ap) (vE sV1)) (appE (appE APP (vE sT)) (lstE b)):=
  Sub.subP (.app (.app .con .hit) (.app (.app (ap _ _) (.miss (by decide))) (lb _ _)))
 have s2:subP (appE (appE (cE Ap) (vE sV1)) (appE (appE APP (vE sT)) (lstE b))) sT (varX sV2)=appE (appE (cE Ap) (vE sV1)) (appE (appE APP (vE sV2)) (lstE b)):=
  Sub.subP (.app (.app .con (.miss (by decide))) (.app (.app (ap _ _) .hit) (lb _ _)))
 have s3:subP (appE (appE (cE Ap) (vE sV1)) (appE (appE APP (vE sV2)) (lstE b))) sV1 (iE n)=appE (appE (cE Ap) (iE n)) (appE (appE APP (vE sV2)) (lstE b)):=
  Sub.subP (.app (.app .con .hit) (.app (.app (ap _ _) (.miss (by decide))) (lb _ _)))
 have s4:subP (appE (appE (cE Ap) (iE n)) (appE (appE APP (vE sV2)) (lstE b))) sV2 (lstE a)=appE (appE (cE Ap) (iE n)) (appE (appE APP (lstE a)) (lstE b)):=
  Sub.subP (.app (.app .con .int) (.app (.app (ap _ _) .hit) (lb _ _)))
 rw[CU,s1,CU,s2,CU,s3,CU,s4];rfl
theorem VU (m:Nat)(s b1 b2:Exp):AI subP Ah AA (m+1) (cseE s b1 b2)=(if (CC s.weight s []).1.kind=2 then CK subP Ah (cseE s b1 b2) (CC s.weight s []).1.name (CC s.weight s []).2 else (AI subP Ah AA m s).map fun p=>(AL (cseE s b1 b2) (p.1::(cseE s b1 b2).children.tail),p.2)):=rfl
theorem Zas (a b:List Nat):Stp (cseE (lstE a) (lstE b) (conE APP (lstE b))) ((match a with | []=>lstE b | n::a=>appE (appE (cE Ap) (iE n)) (appE (appE APP (lstE a)) (lstE b))),4):=by
 intro m hm;obtain⟨m,rfl⟩:=Co hm;have hsp:=HW (lstE a).weight (lstE a) [] (qg _) (JO a);rw[qJ]at hsp;rw[VU,hsp];have hfr:=ZbY (WH a b);cases a with
 |nil=>
  have hs0:spine (lstE [])=(cE sNil,[]):=DN (kd rfl);rw[hs0];rw[if_pos (show(cE sNil).kind=2 from rfl)];unfold CK;rfl
 |cons n a=>
  rw[M8];rw[if_pos (show(cE Ap).kind=2 from rfl)];have hl:Ef (Ah (cseE (lstE (n::a)) (lstE b) (conE APP (lstE b)))) [sH,sT] [iE n,lstE a]=[(sH,varX sV1),(sT,varX sV2),(sV1,iE n),(sV2,lstE a)]:=by
   rw[Zbq hfr];show[(sH,varX (Av 0 [])),(sT,varX (Av 1 [])),(Av 0 [],iE n),(Av 1 [],lstE a)]=_;rw[ZbE,Zt]
  have hch:=ZbQ n a b;unfold CK;have hf:(cseE (lstE (n::a)) (lstE b) (conE APP (lstE b))).arms.find? (fun x=>x.1.con==(cE Ap,[iE n,lstE a]).1.name)=some (⟨0,Ap,[sH,sT]⟩,conE APP (lstE b)):=rfl;rw[hf];simp only[qF,qR,if_true];rw[hl];show some (Ax _ _,4)=_;rw[hch]
theorem Dv (f a:Exp):Ai (appE f a)=appE (Ai f) (Ai a):=by rw[DT];rfl
theorem Dt (l:List Nat):Ai (lstE l)=lstE l:=by
 induction l with
 |nil=>rfl
 |cons n l ih=>show Ai (appE (appE (cE Ap) (iE n)) (lstE l))=_;rw[Dv,Dv,ih];rfl
theorem Lx:Ai APP=APP:=by rfl
theorem VL:Ai appG=appG:=by rfl
theorem Ci (f a:Exp):Aj (appE f a)=1+(Aj f+Aj a):=by rw[C2];show 1+([Aj f,Aj a]:List Nat).sum=_;simp
theorem FV (l:List Nat):Aj (lstE l)=1+4*l.length:=by
 induction l with
 |nil=>rfl
 |cons n l ih=>show Aj (appE (appE (cE Ap) (iE n)) (lstE l))=_;rw[Ci,Ci,ih,show Aj (cE Ap)=1 from rfl,show Aj (iE n)=1 from rfl,qF];omega
theorem M3:Aj APP=29:=by rfl
theorem XL:Aj appG=42:=by rfl
theorem GW {e:Exp}{p:Exp×Nat}(h:Stp e p)(hn:Aj e<=2000)(hs:Ai p.1=p.1)(k:Nat):runP (k+1) e=((runP k p.1).1,(runP k p.1).2+1):=by
 rw[Gk (h _ (qg _)) (by omega),hs]
theorem KK {e:Exp}(h:Stn e)(k:Nat):runP k e=(e,0):=Hv (h _ (qg _))
def endE:List Nat->List Nat->Exp
 |[],b=>lstE b
 |n::a,b=>appE (appE (cE Ap) (iE n)) (appE (appE APP (lstE a)) (lstE b))
theorem Zac (a b:List Nat):Stn (endE a b):=by
 cases a with
 |nil=>exact .lst b
 |cons n a=>exact .app (kd rfl) (.app (kd rfl) .con)
theorem VQ (a b:List Nat):Ai (endE a b)=endE a b:=by
 cases a with
 |nil=>exact Dt b
 |cons n a=>show Ai (appE (appE (cE Ap) (iE n)) (appE (appE APP (lstE a)) (lstE b)))=_;rw[Dv,Dv,Dv,Dv,Dt,Dt,Lx];rfl
theorem Pr (a b:List Nat)(ha:a.length<=10)(hb:b.length<=10)(k:Nat):runP (k+4) (appE (appE APP (lstE a)) (lstE b))=(endE a b,4):=by
 have n1:=FV a;have n2:=FV b;have t1:Stp (appE (appE APP (lstE a)) (lstE b)) (appE (appE appG (lstE a)) (lstE b),3):=by
  have h0:Stp APP (subP appF sApp APP,3):=.rec_;rw[subG]at h0;exact .app (kd rfl) (.app (kd rfl) h0)
 have t2:Stp (appE (appE appG (lstE a)) (lstE b)) (appE (lamE sY (cseE (lstE a) (vE sY) (conE APP (vE sY)))) (lstE b),1):=by
  have h0:Stp (appE appG (lstE a)) (subP (lamE sY (cseE (vE sX) (vE sY) (conE APP (vE sY)))) sX (lstE a),1):=.beta;rw[subX]at h0;exact .app (kd rfl) h0
 have t3:Stp (appE (lamE sY (cseE (lstE a) (vE sY) (conE APP (vE sY)))) (lstE b)) (cseE (lstE a) (lstE b) (conE APP (lstE b)),1):=by
  have h0:Stp (appE (lamE sY (cseE (lstE a) (vE sY) (conE APP (vE sY)))) (lstE b)) (subP (cseE (lstE a) (vE sY) (conE APP (vE sY))) sY (lstE b),1):=.beta;rw[subY]at h0;exact h0
 have t4:Stp (cseE (lstE a) (lstE b) (conE APP (lstE b))) (endE a b,4):=by
  have h0:=Zas a b;cases a<;>exact h0
 have c1:Aj (lamE sY (cseE (lstE a) (vE sY) (conE APP (vE sY))))=1+(1+(Aj (lstE a)+(1+Aj (conE APP (vE sY))))):=by
  rw[C2];show 1+([Aj (cseE (lstE a) (vE sY) (conE APP (vE sY)))]:List Nat).sum=_;rw[C2];show 1+([1+([Aj (lstE a),Aj (vE sY),Aj (conE APP (vE sY))]:List Nat).sum]:List Nat).sum=_;simp;rfl
 have c2:Aj (cseE (lstE a) (lstE b) (conE APP (lstE b)))=1+(Aj (lstE a)+(Aj (lstE b)+Aj (conE APP (lstE b)))):=by
  rw[C2];show 1+([Aj (lstE a),Aj (lstE b),Aj (conE APP (lstE b))]:List Nat).sum=_;simp
 have c3:Aj (conE APP (vE sY))=37:=by rfl
 have c4:Aj (conE APP (lstE b))=36+Aj (lstE b):=by
  rw[Ci,Ci,Ci,Ci,M3,show Aj (cE Ap)=1 from rfl,show Aj (vE sH)=1 from rfl,show Aj (vE sT)=1 from rfl];omega
 have e1:Ai (lamE sY (cseE (lstE a) (vE sY) (conE APP (vE sY))))=lamE sY (cseE (lstE a) (vE sY) (conE APP (vE sY))):=by
  have:Ai (lamE sY (cseE (lstE a) (vE sY) (conE APP (vE sY))))=lamE sY (cseE (Ai (lstE a)) (vE sY) (conE APP (vE sY))):=by rw[DT];rfl
  rw[this,Dt]
 have e2:Ai (cseE (lstE a) (lstE b) (conE APP (lstE b)))=cseE (lstE a) (lstE b) (conE APP (lstE b)):=by
  have:Ai (cseE (lstE a) (lstE b) (conE APP (lstE b)))=cseE (Ai (lstE a)) (Ai (lstE b)) (conE APP (Ai (lstE b))):=by rw[DT];rfl
  rw[this,Dt,Dt]
 rw[show k+4=k+3+1 by omega,GW t1 (by rw[Ci,Ci,M3];omega) (by show Ai (appE (appE appG (lstE a)) (lstE b))=_;rw[Dv,Dv,VL,Dt,Dt])];rw[show k+3=k+2+1 by omega,GW t2 (by rw[Ci,Ci,XL];omega) (by show Ai (appE (lamE sY (cseE (lstE a) (vE sY) (conE APP (vE sY)))) (lstE b))=_;rw[Dv,e1,Dt])];rw[show k+2=k+1+1 by omega,GW t3 (by rw[Ci,c1,c3];omega) e2];rw[GW t4 (by rw[c2,c4];omega) (VQ a b),KK (Zac a b)]
theorem LJ (f k n:Nat):Bp (f+1) k (iE n)=(iE n,0):=by
 rw[Gx,KK .int,show spine (iE n)=(iE n,[])from DN (kd rfl),if_neg (show ¬(iE n).kind=2 from kd rfl)]
theorem O5:∀(b:List Nat)(f k:Nat),b.length<f->Bp f k (lstE b)=(lstE b,0)
 |[],f,k,h=>by
  obtain⟨f,rfl⟩:∃m,f=m+1:=⟨f-1,by simp at h;omega⟩;rw[Gx,KK (.lst []),show spine (lstE [])=(cE sNil,[])from DN (kd rfl),if_pos (show(cE sNil).kind=2 from rfl)];rfl
 |n::b,f,k,h=>by
  obtain⟨f,rfl⟩:∃m,f=m+1+1:=⟨f-2,by simp at h;omega⟩;rw[Gx,KK (.lst (n::b)),M8,if_pos (show(cE Ap).kind=2 from rfl)];show Bb (f+1) k ([]++[iE n]++[lstE b]) (cE Ap,0)=_;rw[Gl,Gl];have h0:Bb (f+1) k [] (cE Ap,0)=(cE Ap,0):=rfl;simp only[h0,LJ,O5 b (f+1) _ (by simp at h;omega)];rfl
theorem PJ:∀(a b:List Nat)(e:Exp)(f k m:Nat),a.length<=10->b.length<=10->a.length+b.length+1<f->runP k e=(endE a b,m)->m+4*a.length<=k->Bp f k e=(lstE (a++b),m+4*a.length)
 |[],b,e,f,k,m,ha,hb,hf,hr,hk=>by
  obtain⟨f,rfl⟩:∃m,f=m+1+1:=⟨f-2,by omega⟩;rw[Gx,hr];show(if (spine (lstE b)).1.kind=2 then Bb (f+1) k (spine (lstE b)).2 ((spine (lstE b)).1,m) else (lstE b,m))=_;cases b with
  |nil=>rw[show spine (lstE [])=(cE sNil,[])from DN (kd rfl),if_pos (show(cE sNil).kind=2 from rfl)];rfl
  |cons n b=>
   rw[M8,if_pos (show(cE Ap).kind=2 from rfl)];show Bb (f+1) k ([]++[iE n]++[lstE b]) (cE Ap,m)=_;rw[Gl,Gl];have h0:Bb (f+1) k [] (cE Ap,m)=(cE Ap,m):=rfl;simp only[h0,LJ,O5 b (f+1) _ (by simp at hf;omega)];rfl
 |n::a,b,e,f,k,m,ha,hb,hf,hr,hk=>by
  simp only[qF]at ha hf hk;obtain⟨f,rfl⟩:∃m,f=m+1+1:=⟨f-2,by omega⟩;obtain⟨j,hj⟩:∃j,k-m=j+4:=⟨k-m-4,by omega⟩;have hs:spine (endE (n::a) b)=(cE Ap,[iE n,appE (appE APP (lstE a)) (lstE b)]):=by
   show spine (appE (appE (cE Ap) (iE n)) (appE (appE APP (lstE a)) (lstE b)))=_;rw[Ez rfl rfl,Ez rfl rfl,DN (kd rfl)];rfl
  rw[Gx,hr];simp only[hs];rw[if_pos (show(cE Ap).kind=2 from rfl)];show Bb (f+1) k ([]++[iE n]++[appE (appE APP (lstE a)) (lstE b)]) (cE Ap,m)=_;rw[Gl,Gl];have h0:Bb (f+1) k [] (cE Ap,m)=(cE Ap,m):=rfl;simp only[h0,LJ,qa6];rw[PJ a b _ (f+1) (k-m) 4 (by omega) hb (by omega) (by rw[hj];exact Pr a b (by omega) hb j) (by omega)];simp only[q9,qF,qh];exact⟨rfl,by omega⟩
theorem lstC (l:List Nat){x:Str}{b:Exp}:Sub (lstE l) x b (lstE l):=GQ (JO l) (FD l)
theorem Zr (a b:List Nat)(ha:a.length<=10)(hb:b.length<=10)(f k:Nat)(hf:a.length+b.length+1<f)(hk:4*a.length+6<=k):(Bp f k (Dn (lstE a) (lstE b))).1=lstE (a++b):=by
 obtain⟨j,rfl⟩:∃j,k=j+4+1+1:=⟨k-6,by omega⟩;have n1:=FV a;have n2:=FV b;have t1:Stp (Dn (lstE a) (lstE b)) (letE sN (appE (appE APP (lstE a)) (lstE b)) (vE sN),3):=by
  have h0:Stp (Dn (lstE a) (lstE b)) (subP (letE sN (appE (appE (vE sApp) (lstE a)) (lstE b)) (vE sN)) sApp APP,3):=.rec_;rw[Sub.subP (.let_ (by decide) (Fy _) (.app (.app .hit (lstC a)) (lstC b)) (.miss (by decide)))]at h0;exact h0
 have t2:Stp (letE sN (appE (appE APP (lstE a)) (lstE b)) (vE sN)) (appE (appE APP (lstE a)) (lstE b),2):=by
  have h0:Stp (letE sN (appE (appE APP (lstE a)) (lstE b)) (vE sN)) (subP (vE sN) sN (appE (appE APP (lstE a)) (lstE b)),2):=.let_;rw[Sub.subP .hit]at h0;exact h0
 have c1:Aj (Dn (lstE a) (lstE b))=1+(Aj appF+(1+(Aj (appE (appE (vE sApp) (lstE a)) (lstE b))+1))):=by
  unfold Dn;rw[C2];show 1+([Aj appF,Aj (letE sN (appE (appE (vE sApp) (lstE a)) (lstE b)) (vE sN))]:List Nat).sum=_;rw[C2 (letE _ _ _)];show 1+([Aj appF,1+([Aj (appE (appE (vE sApp) (lstE a)) (lstE b)),1]:List Nat).sum]:List Nat).sum=_;simp
 have c2:Aj (letE sN (appE (appE APP (lstE a)) (lstE b)) (vE sN))=1+(Aj (appE (appE APP (lstE a)) (lstE b))+1):=by
  rw[C2];show 1+([Aj (appE (appE APP (lstE a)) (lstE b)),1]:List Nat).sum=_;simp
 have e1:Ai (letE sN (appE (appE APP (lstE a)) (lstE b)) (vE sN))=letE sN (appE (appE APP (lstE a)) (lstE b)) (vE sN):=by
  have:Ai (letE sN (appE (appE APP (lstE a)) (lstE b)) (vE sN))=letE sN (Ai (appE (appE APP (lstE a)) (lstE b))) (vE sN):=by rw[DT];rfl
  rw[this,Dv,Dv,Dt,Dt,Lx]
 have e2:Ai (appE (appE APP (lstE a)) (lstE b))=appE (appE APP (lstE a)) (lstE b):=by rw[Dv,Dv,Dt,Dt,Lx]
 have hr:runP (j+4+1+1) (Dn (lstE a) (lstE b))=(endE a b,6):=by
  rw[GW t1 (by rw[c1,Ci,Ci,show Aj (vE sApp)=1 from rfl,show Aj appF=14 from rfl];omega) e1,
   GW t2 (by rw[c2,Ci,Ci,M3];omega) e2,Pr a b ha hb j]
 rw[PJ a b _ f _ 6 ha hb hf hr (by omega)]
variable {A:Ab}
def maxL (l:List Nat):Nat:=l.foldl (fun m d=>if 1+d>m then 1+d else m) 0
def Bw (e:Exp):Nat:=e.fold fun _ l=>maxL l
theorem Gh (e:Exp):Bw e=maxL (e.children.map Bw):=Exp.fold_eq _ e
theorem Zcx (l:List Nat)(d:Nat):maxL (l++[d])=if 1+d>maxL l then 1+d else maxL l:=by simp[maxL]
theorem Sr:∀(l:List Nat)(n:Nat),(∀d∈l,d<n)->maxL l<=n:=by
 intro l n h;unfold maxL
 suffices q:∀(l:List Nat) (m:Nat),m<=n->(∀d∈l,d<n)->l.foldl (fun m d=>if 1+d>m then 1+d else m) m<=n from q l 0 (qai _) h
 intro l
 induction l with
 |nil=>intro m hm _;exact hm
 |cons d l ih=>
  intro m hm h;have:=h d (by simp);exact ih _ (by show(if 1+d>m then 1+d else m)<=n;split<;>omega) fun x hx=>h x (by simp[hx])
theorem X8 (e:Exp):Bw e<e.weight:=by
 induction e using Exp.ind with
 |h e ih=>
  rw[Gh];have hp:=e.weight_pos;have:maxL (e.children.map Bw)<=e.weight-1:=Sr _ _ fun d hd=>by
   obtain⟨x,hx,rfl⟩:=qL.1 hd;have h1:=ih x hx;have h2:=Exp.child_lt hx;omega
  omega
theorem U4 (e:Exp):e.weight<=687194767360->(K A).call 133 [expV e] []=some (intV (Bw e),[]):=by
 induction e using Exp.ind with
 |h e ih=>
 intro hl;have hle:=e.children_le;have hlen:=e.children_len;have hc:=H6 (A:=A) e (by omega);rw[hlen]at hc;refine fnO v133 ?_;unfold v133;simp(disch:=try exact zd) [hc];refine Aq (fun i=>⟨[(3,intV (maxL ((e.children.map Bw).take i))),(4,.sc (.arr 352 (e.kids.length+e.arms.length))),(5,intV i)],[(352,some (.arr 11 (wr (Exp.rows e.children)) 0))]⟩) (e.kids.length+e.arms.length) ?_ ?_ ?_
 .simp[maxL]
 .intro i hi
  obtain⟨x,hx⟩:=Ag (l:=e.children) (i:=i) (by rw[hlen];exact hi);have hm:=qd hx;have hrec:=ih x hm (by have:=Exp.child_lt hm;omega);have hxm:(e.children.map Bw)[i]?=some (Bw x):=by rw[qq,hx];rfl
  have hdw:=X8 x;have hcl:=Exp.child_lt hm;have hw:IntKind.i64.wrap (1+(Bw x:Int))=1+(Bw x:Int):=FY _ (by omega);have hib:(i:Int)+1<=687194767360:=by omega
  have hi2:(i:Int)<(e.kids.length:Int)+e.arms.length:=by omega
  rw[Bn hxm,Zcx];generalize maxL ((e.children.map Bw).take i)=S at *
  unfold MV;simp(maxSteps:=9^7) (disch:=try exact zd) [hi2,hi,hx,hrec,hw,-getElem?_pos];split<;>split<;>first | rfl | omega | skip
 .rw [qn (by rw [qba,hlen];exact qg _),<-Gh]
  unfold MV;simp(maxSteps:=9^7) (disch:=try exact zd)
def Ga (e:Exp):Prop:=e.fold fun e l=>e.kind≠9/\∀p∈l,p
theorem Pv (e:Exp):Ga e=(e.kind≠9/\∀x∈e.children,Ga x):=by
 have:=Exp.fold_eq (fun e (l:List Prop)=>e.kind≠9/\∀p∈l,p) e;unfold Ga;rw[this];simp only[qN]
theorem ZbJ (e:Exp):e.weight<=687194767360->Ga e->(K A).call 134 [expV e] []=some (Aa false,[]):=by
 induction e using Exp.ind with
 |h e ih=>
 intro hl hn;rw[Pv]at hn;have hle:=e.children_le;have hlen:=e.children_len;have hc:=H6 (A:=A) e (by omega);rw[hlen]at hc;have h9:=hn.1;refine fnO v134 ?_;unfold v134;simp(disch:=try exact zd) [hc,h9];refine Aq (fun i=>⟨[(3,.sc (.arr 928 (e.kids.length+e.arms.length))),(4,intV i)],[(928,some (.arr 11 (wr (Exp.rows e.children)) 0))]⟩) (e.kids.length+e.arms.length) ?_ ?_ ?_
 .simp
 .intro i hi
  obtain⟨x,hx⟩:=Ag (l:=e.children) (i:=i) (by rw[hlen];exact hi);have hm:=qd hx;have hrec:=ih x hm (by have:=Exp.child_lt hm;omega) (hn.2 x hm);have hib:(i:Int)+1<=687194767360:=by omega
  have hi2:(i:Int)<(e.kids.length:Int)+e.arms.length:=by omega
  unfold L1;simp(maxSteps:=9^7) (disch:=try exact zd) [hi2,hi,hx,hrec,-getElem?_pos]
 .unfold L1
  simp(maxSteps:=9^7) (disch:=try exact zd)
def thin (e:Exp):Prop:=e.fold fun e l=>(∀a∈e.arms,a.1.vars.length<=4)/\∀p∈l,p
theorem Qy (e:Exp):thin e=((∀a∈e.arms,a.1.vars.length<=4)/\∀x∈e.children,thin x):=by
 have:=Exp.fold_eq (fun e (l:List Prop)=>(∀a∈e.arms,a.1.vars.length<=4)/\∀p∈l,p) e;unfold thin;rw[this];simp only[qN]
theorem Lo (e:Exp):e.weight<=687194767360->thin e->(K A).call 79 [expV e] []=some (.tu [intV 0,Aa false],[]):=by
 induction e using Exp.ind with
 |h e ih=>
 intro hl hn;rw[Qy]at hn;have hle:=e.children_le;have hlen:=e.children_len;have hc:=H6 (A:=A) e (by omega);rw[hlen]at hc;refine fnO v79 ?_;unfold v79;simp(disch:=try exact zd);refine Aq (fun i=>⟨[(1,.sc (.ptr 64 0)),(4,intV i)],[(64,some (.box (wc e.row)))]⟩) e.arms.length ?_ ?_ ?_
 .simp
 .intro i hi
  obtain⟨a,ha⟩:=Ag hi;have h4:=hn.1 a (qd ha);have h4':¬(4:Int)<a.1.vars.length:=by omega
  have hib:(i:Int)+1<=687194767360:=by omega
  have hi2:(i:Int)<e.arms.length:=by omega
  unfold KF;simp(maxSteps:=9^7) (disch:=try exact zd) [hi2,hi,ha,h4',-getElem?_pos]
 .unfold KF
  simp(maxSteps:=9^7) (disch:=try exact zd) [hc];refine Aq (fun i=>⟨[(5,.sc (.arr 1952 (e.kids.length+e.arms.length))),(6,intV i)],[(1952,some (.arr 11 (wr (Exp.rows e.children)) 0))]⟩) (e.kids.length+e.arms.length) ?_ ?_ ?_
  .simp
  .intro i hi
   obtain⟨x,hx⟩:=Ag (l:=e.children) (i:=i) (by rw[hlen];exact hi);have hm:=qd hx;have hrec:=ih x hm (by have:=Exp.child_lt hm;omega) (hn.2 x hm);have hib:(i:Int)+1<=687194767360:=(by omega);have hi2:(i:Int)<(e.kids.length:Int)+e.arms.length:=(by omega);unfold Lh;simp(maxSteps:=9^7) (disch:=try exact zd) [hi2,hi,hx,hrec,-getElem?_pos]
  .unfold Lh
   simp(maxSteps:=9^7) (disch:=try exact zd)
theorem M7 (e:Exp)(hl:e.weight<=687194767360)(hn:Ga e)(hd:Bw e<=40):(K A).call 78 [expV e] []=some (Aa false,[]):=by
 have h1:=U4 (A:=A) e hl;have h2:=ZbJ (A:=A) e hl hn;have h3:¬(40:Int)<Bw e:=by omega
 refine fnO v78 ?_;unfold v78;simp(disch:=try exact zd) [h1,h2,h3]
def StL (e:Exp):Prop:=shp1 e/\(∀a∈e.arms,inj a.1.vars)/\(∀a∈e.arms,∀k,a.1.con≠AG k)/\(e.kind=7->e.num=0/\e.ty=tz)/\lowE1 e/\Ge e/\(e.pos=0/\∀a∈e.arms,a.1.pos=0)
theorem Gw {e:Exp}(h:StL e)(hc:∀x∈e.children,StE x):StE e:=by
 obtain⟨h1,h2,h3,h4,h5,h6,h7⟩:=h;refine⟨⟨?_,?_,?_⟩,?_,⟨?_,?_⟩,?_⟩
 .rw[B1];exact⟨h1,fun x hx=>(hc x hx).ok.1⟩
 .rw[DW];exact⟨h2,fun x hx=>(hc x hx).ok.2.1⟩
 .rw[DL];exact⟨h3,fun x hx=>(hc x hx).ok.2.2⟩
 .rw[Eg];exact⟨h4,fun x hx=>(hc x hx).rz⟩
 .rw[D1];exact⟨h5,fun x hx=>(hc x hx).lf.1⟩
 .rw[EK];exact⟨h6,fun x hx=>(hc x hx).lf.2⟩
 .rw[Ie];exact⟨h7,fun x hx=>(hc x hx).ps⟩
def HB (s:Str):Bool:=decide (s.length<=12)&&(match s with | c::_=>decide (97<=c.toNat)&&decide (c.toNat<=122) | []=>false)&&s.all GS && !keyWords.contains s
def J4 (s:Str):Bool:=decide (s.length<=12)&&(match s with | c::_=>decide (65<=c.toNat)&&decide (c.toNat<=90) | []=>false)&&s.all GS && !keyWords.contains s
theorem Ju {s:Str}(h:HB s=true):nameOk 97 122 s:=by
 cases s with
 |nil=>simp[HB]at h
 |cons c s=>
  simp[HB]at h;exact⟨by simpa using h.1.1.1,⟨c,rfl,h.1.1.2⟩,by simpa using h.1.2,h.2⟩
theorem ME {s:Str}(h:J4 s=true):nameOk 65 90 s:=by
 cases s with
 |nil=>simp[J4]at h
 |cons c s=>
  simp[J4]at h;exact⟨by simpa using h.1.1.1,⟨c,rfl,h.1.1.2⟩,by simpa using h.1.2,h.2⟩
theorem C6 {e:Exp}(h:e.ty=tz)(h9:e.kind≠9):e.ty.size<=687194767360/\annT e:=⟨by rw[h];decide,⟨fun _=>h,fun q=>absurd q h9⟩⟩
theorem FF {s:Str}(h:HB s=true):StE (vE s):=by
 refine Gw ⟨?_,by simp[Exp.arms],by simp[Exp.arms],by simp[Exp.kind],?_,?_,by simp[Exp.pos,Exp.arms]⟩ (by simp[Exp.children,Exp.kids,Exp.arms])
 .exact(D7 1 s 0 (.inl ⟨rfl,rfl⟩)).one
 .exact⟨fun _=>Ju h,(fun q=>by cases q),fun q=>absurd (.inl rfl) q,by simp[Exp.arms]⟩
 .exact⟨by simp[Exp.kind],by simp[Exp.kind],by simp[Exp.kind,Exp.num],(C6 rfl (kd rfl)).1,(C6 rfl (kd rfl)).2,by simp[Exp.kind],by simp[Exp.arms]⟩
theorem KW {s:Str}(h:J4 s=true):StE (cE s):=by
 refine Gw ⟨?_,by simp[Exp.arms],by simp[Exp.arms],by simp[Exp.kind],?_,?_,by simp[Exp.pos,Exp.arms]⟩ (by simp[Exp.children,Exp.kids,Exp.arms])
 .exact(D7 2 s 0 (.inr (.inl rfl))).one
 .exact⟨(fun q=>by rcases q with q | q | q | q<;>cases q),fun _=>ME h,fun _ q=>absurd rfl q,by simp[Exp.arms]⟩
 .exact⟨by simp[Exp.kind],by simp[Exp.kind],by simp[Exp.kind,Exp.num],(C6 rfl (kd rfl)).1,(C6 rfl (kd rfl)).2,by simp[Exp.kind],by simp[Exp.arms]⟩
theorem Ur {n:Nat}(h:n<=999999999):StE (iE n):=by
 refine Gw ⟨?_,by simp[Exp.arms],by simp[Exp.arms],by simp[Exp.kind],?_,?_,by simp[Exp.pos,Exp.arms]⟩ (by simp[Exp.children,Exp.kids,Exp.arms])
 .exact(D7 3 [] n (.inr (.inr rfl))).one
 .exact⟨(fun q=>by rcases q with q | q | q | q<;>cases q),(fun q=>by cases q),fun _ _=>rfl,by simp[Exp.arms]⟩
 .exact⟨by simp[Exp.kind],by simp[Exp.kind],by simp[Exp.kind,Exp.num];omega,(C6 rfl (kd rfl)).1,(C6 rfl (kd rfl)).2,by simp[Exp.kind],by simp[Exp.arms]⟩
theorem FQ {f a:Exp}(hf:StE f)(ha:StE a):StE (appE f a):=by
 refine Gw ⟨(Gp hf.ok.1 ha.ok.1).one,by simp[Exp.arms],by simp[Exp.arms],by simp[Exp.kind],?_,?_,by simp[Exp.pos,Exp.arms]⟩ fun x hx=>?_
 .exact⟨(fun q=>by rcases q with q | q | q | q<;>cases q),(fun q=>by cases q),fun _ _=>rfl,by simp[Exp.arms]⟩
 .exact⟨by simp[Exp.kind],by simp[Exp.kind],by simp[Exp.kind,Exp.num],(C6 rfl (kd rfl)).1,(C6 rfl (kd rfl)).2,by simp[Exp.kind],by simp[Exp.arms]⟩
 .have hc:(appE f a).children=[f,a]:=rfl
  rw[hc]at hx;simp at hx;rcases hx with rfl|rfl
  .exact hf
  .exact ha
theorem So {s:Str}{k:Exp}(h:HB s=true)(hk:StE k):StE (lamE s k):=by
 refine Gw ⟨(K5 hk.ok.1).one,by simp[Exp.arms],by simp[Exp.arms],by simp[Exp.kind],?_,?_,by simp[Exp.pos,Exp.arms]⟩ fun x hx=>?_
 .exact⟨fun _=>Ju h,(fun q=>by cases q),fun q=>absurd (.inr (.inl rfl)) q,by simp[Exp.arms]⟩
 .exact⟨by simp[Exp.kind],by simp[Exp.kind],by simp[Exp.kind,Exp.num],(C6 rfl (kd rfl)).1,(C6 rfl (kd rfl)).2,by simp[Exp.kind],by simp[Exp.arms]⟩
 .have hc:(lamE s k).children=[k]:=rfl
  rw[hc]at hx;simp at hx;exact hx▸hk
theorem Ua {q:Int}{s:Str}{f a:Exp}(hq:q=6\/q=7)(h:HB s=true)(hf:StE f)(ha:StE a):StE (.mk q 0 s 0 [f,a] [] tz):=by
 have hlow:lowK q:=by rcases hq with rfl | rfl<;>simp[lowK]
 refine Gw ⟨(T0 hq hf.ok.1 ha.ok.1).one,by simp[Exp.arms],by simp[Exp.arms],fun _=>⟨rfl,rfl⟩,?_,?_,by simp[Exp.pos,Exp.arms]⟩ fun x hx=>?_
 .exact⟨fun _=>Ju h,(fun z=>by have:q=2:=z;omega),fun z=>absurd hlow z,by simp[Exp.arms]⟩
 .have h9:(Exp.mk q 0 s 0 [f,a] [] tz).kind≠9:=by show q≠9;omega
  refine⟨by show 1<=q;omega,by show q<=11;omega,⟨fun _=>rfl,by simp[Exp.num],by simp[Exp.num]⟩,(C6 rfl h9).1,(C6 rfl h9).2,(fun z=>by have:q=8:=z;omega),by simp[Exp.arms]⟩
 .have hc:(Exp.mk q 0 s 0 [f,a] [] tz).children=[f,a]:=rfl
  rw[hc]at hx;simp at hx;rcases hx with rfl|rfl
  .exact hf
  .exact ha
theorem Zx {s b1 b2:Exp}(h0:StE s)(h1:StE b1)(h2:StE b2):StE (cseE s b1 b2):=by
 have hv:∀c:Str,c.head?≠some 118->∀k,c≠AG k:=fun c h k q=>h (by rw[q];rfl);refine Gw ⟨(Re h0.ok.1 h1.ok.1 h2.ok.1).one,?_,?_,by simp[Exp.kind],?_,?_,by simp[Exp.pos,Exp.arms]⟩ fun x hx=>?_
 .intro a ha
  simp[Exp.arms]at ha;rcases ha with rfl|rfl
  .intro i j s h;simp at h
  .intro i j s h h'
   match i,j,h,h' with
   |0,0,_,_=>rfl
   |1,1,_,_=>rfl
   |0,1,h,h'=>cases h;cases h'
   |1,0,h,h'=>cases h;cases h'
   |i+2,_,h,_=>simp at h
   |0,j+2,_,h=>simp at h
   |1,j+2,_,h=>simp at h
 .intro a ha
  simp[Exp.arms]at ha;rcases ha with rfl|rfl
  .exact hv sNil (by decide)
  .exact hv Ap (by decide)
 .refine ⟨(fun q=>by rcases q with q | q | q | q<;>cases q),(fun q=>by cases q),fun _ _=>rfl,fun a ha v hv => ?_⟩
  simp[Exp.arms]at ha;rcases ha with rfl|rfl
  .cases hv
  .simp at hv
   rcases hv with rfl|rfl<;>exact Ju (by decide)
 .refine ⟨by simp [Exp.kind],by simp [Exp.kind],by simp [Exp.kind,Exp.num],(C6 rfl (kd rfl)).1,(C6 rfl (kd rfl)).2,by simp [Exp.arms],fun a ha => ?_⟩
  simp[Exp.arms]at ha;rcases ha with rfl|rfl
  .exact⟨ME (s:=sNil) (by decide),by simp⟩
  .exact⟨ME (s:=Ap) (by decide),by simp⟩
 .have hc:(cseE s b1 b2).children=[s,b1,b2]:=rfl
  rw[hc]at hx;simp at hx;rcases hx with rfl|rfl|rfl
  .exact h0
  .exact h1
  .exact h2
theorem NI {l:List Nat}(h:∀n∈l,n<=999):StE (lstE l):=by
 induction l with
 |nil=>exact KW (by decide)
 |cons n l ih=>exact FQ (FQ (KW (by decide)) (Ur (by have:=h n (by simp);omega))) (ih fun m hm=>h m (by simp[hm]))
theorem Wc:StE appF:=So (by decide) (So (by decide) (Zx (FF (by decide)) (FF (by decide)) (FQ (FQ (KW (by decide)) (FF (by decide))) (FQ (FQ (FF (by decide)) (FF (by decide))) (FF (by decide))))))
theorem ZcJ {a b:List Nat}(ha:∀n∈a,n<=999)(hb:∀n∈b,n<=999):StE (Dn (lstE a) (lstE b)):=
 Ua (.inr rfl) (by decide) Wc (Ua (.inl rfl) (by decide) (FQ (FQ (FF (by decide)) (NI ha)) (NI hb)) (FF (by decide)))
theorem Zbh (a b:List Nat):Aj (Dn (lstE a) (lstE b))=1+(14+(1+(1+(1+(1+(1+4*a.length))+(1+4*b.length))+1))):=by
 unfold Dn;rw[C2];show 1+([Aj appF,Aj (letE sN (appE (appE (vE sApp) (lstE a)) (lstE b)) (vE sN))]:List Nat).sum=_;rw[C2 (letE _ _ _)];show 1+([Aj appF,1+([Aj (appE (appE (vE sApp) (lstE a)) (lstE b)),1]:List Nat).sum]:List Nat).sum=_;rw[Ci,Ci,FV,FV,show Aj appF=14 from rfl,show Aj (vE sApp)=1 from rfl];simp
theorem ZV {a b:List Nat}(ha:∀n∈a,n<=999)(hb:∀n∈b,n<=999)(la:a.length<=10)(lb:b.length<=10):OkR (Dn (lstE a) (lstE b)):=by
 have h:=ZcJ ha hb;have hn:=Zbh a b;have hw:=Jz _ h.lf.2;exact⟨h,2000,HN _ (by omega),by omega,by omega⟩
variable {A:Ab}
structure Tok where
 kind:Int
 text:Str
 pos:Int
def Ca (t:Tok):List Cell:=[.int .i64 t.kind,.str t.text,.int .i64 t.pos]
def Bz (l:List Tok):List (List Cell):=l.map Ca
@[simp] theorem tokRow_len (t:Tok):(Ca t).length=3:=rfl
@[simp] theorem tokRows_len (l:List Tok):(Bz l).length=l.length:=by simp[Bz]
@[simp] theorem tokRows_get (l:List Tok) (i:Nat):(Bz l)[i]?=(l[i]?).map Ca:=by simp[Bz]
@[simp] theorem cut_k0 (t:Tok):cut (Ca t) 0 1=some [.int .i64 t.kind]:=rfl
@[simp] theorem cut_k1 (t:Tok):cut (Ca t) 1 1=some [.str t.text]:=rfl
@[simp] theorem cut_k2 (t:Tok):cut (Ca t) 2 1=some [.int .i64 t.pos]:=rfl
@[simp] theorem cut_k (t:Tok):cut (Ca t) 0 3=some (Ca t):=rfl
@[simp] theorem tokRows_snoc (l:List Tok) (k:Int) (s:Str) (p:Int):wr (Bz l)++[[.c (.int .i64 k),.c (.str s),.c (.int .i64 p)]]=wr (Bz (l++[⟨k,s,p⟩])):=by simp[Bz,wr,Ca]
@[simp] theorem okRows_tok (l:List Tok):AP 3 (wr (Bz l))=true:=Cu l tokRow_len
abbrev rdO (L:List Tok)(I:Nat):Obj:=.box [.c (.sl (Bz L)),.c (.int .i64 I),.c (.bool false),.c (.int .i64 0)]
def isM (t:Tok)(s:Str):Bool:=(decide (t.kind=5)||decide (t.kind=4))&&decide (t.text=s)
def isAt (L:List Tok)(I:Nat)(s:Str):Bool:=match L[I]? with | some t=>isM t s | none=>false
def Ew (L:List Tok)(I:Nat)(k:Int):Bool:=match L[I]? with | some t=>decide (t.kind=k) | none=>false
def Ik (L:List Tok)(I:Nat):Int:=match L[I]? with | some t=>t.pos | none=>0
theorem AX {L:List Tok}{I:Nat}{t:Tok}(h:L[I]?=some t)(s:Str):isAt L I s=isM t s:=by simp only[isAt,h]
theorem Zba {L:List Tok}{I:Nat}(h:L[I]?=none)(s:Str):isAt L I s=false:=by simp only[isAt,h]
theorem BF {L:List Tok}{I:Nat}{t:Tok}(h:L[I]?=some t)(k:Int):Ew L I k=decide (t.kind=k):=by simp only[Ew,h]
theorem TZ {L:List Tok}{I:Nat}(h:L[I]?=none)(k:Int):Ew L I k=false:=by simp only[Ew,h]
theorem Et {L:List Tok}{I:Nat}{t:Tok}(h:L[I]?=some t):Ik L I=t.pos:=by simp only[Ik,h]
theorem IL (L:List Tok)(I:Nat)(s:Str)(hL:L.length<=10000):(K A).call 120 [.sc (.ptr 0 0),strV s] [rdO L I]=some (Aa (isAt L I s),[rdO L I]):=by
 refine fnO v120 ?_;unfold v120;cases h:L[I]? with
 |none=>
  have h1:¬I<L.length:=fun q=>by rw[qm q]at h;cases h
  rw[Zba h];simp(maxSteps:=9^7) (disch:=try exact zd) [h1]
 |some t=>
  have h1:I<L.length:=(qf.1 h).1;rw[AX h];unfold isM;by_cases h5:t.kind=5
  .simp(maxSteps:=9^7) (disch:=try exact zd) [h1,h,h5,-getElem?_pos]
  .by_cases h4:t.kind=4
   .simp(maxSteps:=9^7) (disch:=try exact zd) [h1,h,h4,-getElem?_pos]
   .simp(maxSteps:=9^7) (disch:=try exact zd) [h1,h,h4,h5,-getElem?_pos]
theorem C0 (L:List Tok)(I:Nat)(k:Int)(hL:L.length<=10000):(K A).call 170 [.sc (.ptr 0 0),intV k] [rdO L I]=some (Aa (Ew L I k),[rdO L I]):=by
 refine fnO v170 ?_;unfold v170;cases h:L[I]? with
 |none=>
  have h1:¬I<L.length:=fun q=>by rw[qm q]at h;cases h
  rw[TZ h];simp(maxSteps:=9^7) (disch:=try exact zd) [h1]
 |some t=>
  have h1:I<L.length:=(qf.1 h).1;rw[BF h];simp(maxSteps:=9^7) (disch:=try exact zd) [h1,h,-getElem?_pos]
theorem Fl (L:List Tok)(I:Nat)(hL:L.length<=10000):(K A).call 126 [.sc (.ptr 0 0)] [rdO L I]=some (intV (Ik L I),[rdO L I]):=by
 refine fnO v126 ?_;unfold v126;cases h:L[I]? with
 |none=>
  have h1:¬I<L.length:=fun q=>by rw[qm q]at h;cases h
  have h2:Ik L I=0:=by simp only[Ik,h]
  rw[h2];simp(maxSteps:=9^7) (disch:=try exact zd) [h1]
 |some t=>
  have h1:I<L.length:=(qf.1 h).1;rw[Et h];simp(maxSteps:=9^7) (disch:=try exact zd) [h1,h,-getElem?_pos]
theorem Jn (L:List Tok)(I:Nat)(s:Str)(hL:L.length<=10000)(hI:I<=L.length):(K A).call 127 [.sc (.ptr 0 0),strV s] [rdO L I]=some (Aa (isAt L I s),[rdO L (if isAt L I s then I+1 else I)]):=by
 refine fnO v127 ?_;have hc:=IL (A:=A) L I s hL;unfold v127;cases h:isAt L I s with
 |false=>rw[h]at hc;simp(maxSteps:=9^7) (disch:=try exact zd) [hc]
 |true=>rw[h]at hc;simp(maxSteps:=9^7) (disch:=try exact zd) [hc]
theorem JJ (L:List Tok)(I:Nat)(s:Str)(hL:L.length<=10000)(hI:I<=L.length)(h:isAt L I s=true):(K A).call 127 [.sc (.ptr 0 0),strV s] [rdO L I]=some (Aa true,[rdO L (I+1)]):=by
 rw[Jn L I s hL hI,h,if_pos rfl]
theorem Ey (L:List Tok)(I:Nat)(s:Str)(hL:L.length<=10000)(hI:I<=L.length)(h:isAt L I s=false):(K A).call 127 [.sc (.ptr 0 0),strV s] [rdO L I]=some (Aa false,[rdO L I]):=by
 rw[Jn L I s hL hI,h,if_neg (by decide)]
theorem C7 (L:List Tok)(I:Nat)(s:Str)(hL:L.length<=10000)(hI:I<=L.length)(h:isAt L I s=true):(K A).call 129 [.sc (.ptr 0 0),strV s] [rdO L I]=some (.tu [],[rdO L (I+1)]):=by
 refine fnO v129 ?_;have hc:=JJ (A:=A) L I s hL hI h;unfold v129;simp(maxSteps:=9^7) (disch:=try exact zd) [hc]
theorem Dw (L:List Tok)(I:Nat)(k:Int)(t:Tok)(hL:L.length<=10000)(h:L[I]?=some t)(hk:t.kind=k):(K A).call 128 [.sc (.ptr 0 0),intV k] [rdO L I]=some (strV t.text,[rdO L (I+1)]):=by
 refine fnO v128 ?_;have h1:I<L.length:=(qf.1 h).1;have hc:=C0 (A:=A) L I k hL;rw[BF h,decide_eq_true hk]at hc;have hw:(I:Int)+1-1=I:=by omega
 unfold v128;simp(maxSteps:=9^7) (disch:=try exact zd) [hc,h,hw,-getElem?_pos]
theorem Rv (L:List Tok):(K A).call 75 [.sc (.c (.sl (Bz L))),intV 0] []=some (.sc (.ptr 0 0),[rdO L 0]):=by
 refine fnO v75 ?_;have h0:¬(L.length:Int)<0:=by omega
 unfold v75;simp(maxSteps:=9^7) (disch:=try exact zd) [h0]
def Es (t:Tok):Bool:=decide (t.kind=1)||decide (t.kind=2)||decide (t.kind=3)||decide (t.kind=5)&&(decide (t.text=[63])||decide (t.text=[40])||decide (t.text=[123]))
theorem UP (t:Tok):(K A).call 132 [.ag (wc (Ca t))] []=some (Aa (Es t),[]):=by
 refine fnO v132 ?_;unfold v132 Es;by_cases h1:t.kind=1
 .simp(maxSteps:=9^7) (disch:=try exact zd) [Ca,h1]
 .by_cases h2:t.kind=2
  .simp(maxSteps:=9^7) (disch:=try exact zd) [Ca,h2]
  .by_cases h3:t.kind=3
   .simp(maxSteps:=9^7) (disch:=try exact zd) [Ca,h3]
   .by_cases h5:t.kind=5
    .by_cases h6:t.text=[63]
     .simp(maxSteps:=9^7) (disch:=try exact zd) [Ca,h5,h6]
     .by_cases h7:t.text=[40]
      .simp(maxSteps:=9^7) (disch:=try exact zd) [Ca,h5,h7]
      .simp(maxSteps:=9^7) (disch:=try exact zd) [Ca,h5,h6,h7]
    .simp(maxSteps:=9^7) (disch:=try exact zd) [Ca,h1,h2,h3,h5]
end Go.Vs.Tryz
namespace Go.Vs
open Go
section
variable {C:Ctx}
theorem CF {b:VCode}{Q:Ex->St->Prop}{s:St}(h:wp C b (fun e s'=>(e=.normal/\wp C (.loop b) Q s')\/(e≠.normal/\Q e s')) s):wp C (.loop b) Q s:=by
 obtain⟨n,e,s',h1,h2⟩:=h;rcases h2 with ⟨rfl,m,e2,s2,h3,h4⟩|⟨h2,h3⟩
 .refine ⟨max n m+1,e2,s2,?_,h4⟩
  have h5:=Da (gl:=C.gl) (c:=C.call) (Le.refl _) (show n<=max n m+1 by omega) h1;have h6:=Da (gl:=C.gl) (c:=C.call) (Le.refl _) (show m<=max n m by omega) h3;have h7:∀j i s0 r,j<=i->iter (run C (max n m) b) j s0=some r->iter (run C (max n m+1) b) i s0=some r:=by
   intro j
   induction j with
   |zero=>intro i s0 r _ h;cases h
   |succ j ih=>
    intro i s0 r hi h;obtain⟨i,rfl⟩:∃k,i=k+1:=⟨i-1,by omega⟩;simp only[iter]at h |-;cases hr:run C (max n m) b s0 with
    |none=>rw[hr]at h;cases h
    |some p=>
     have hr2:=Da (gl:=C.gl) (c:=C.call) (Le.refl _) (show max n m<=max n m+1 by omega) hr;rw[hr]at h;rw[show run C (max n m+1) b s0=some p from hr2];obtain⟨e',s3⟩:=p;cases e' with
     |normal=>exact ih i s3 r (by omega) h
     |exit _=>exact h
     |ret=>exact h
  simp only[run]at h6 |-;simp only[iter,show run C (max n m+1) b s=_ from h5];exact h7 _ _ _ _ (qg _) h6
 .refine ⟨n+1,e,s',?_,h3⟩
  have h:=Da (gl:=C.gl) (c:=C.call) (Le.refl _) (show n<=n+1 by omega) h1;simp only[run,iter,show run C (n+1) b s=_ from h];cases e with
  |normal=>exact absurd rfl h2
  |exit _=>rfl
  |ret=>rfl
end
end Go.Vs
namespace Go.Vs.Tryz
open Go Go.Vs
variable {A:Ab}
abbrev Jp (b:UInt8):V:=.sc (.c (.int .u8 b.toNat))
def lowP (b:UInt8):Bool:=decide (97<=b.toNat)&&decide (b.toNat<=122)
def uppP (b:UInt8):Bool:=decide (65<=b.toNat)&&decide (b.toNat<=90)
def digP (b:UInt8):Bool:=decide (48<=b.toNat)&&decide (b.toNat<=57)
def innP (b:UInt8):Bool:=lowP b||uppP b||digP b||decide (b.toNat=95)
theorem Sx (b:UInt8):(K A).call 175 [Jp b] []=some (Aa (lowP b),[]):=by
 refine fnO v175 ?_;unfold v175 lowP;by_cases h:97<=b.toNat
 .have h':(97:Int)<=b.toNat:=by omega
  have h2:decide ((b.toNat:Int)<=122)=decide (b.toNat<=122):=by rw[qaE];simp;omega
  simp(maxSteps:=9^7) (disch:=try exact zd) [h,h',h2]
 .have h':¬(97:Int)<=b.toNat:=by omega
  simp(maxSteps:=9^7) (disch:=try exact zd) [h,h']
theorem RC (b:UInt8):(K A).call 176 [Jp b] []=some (Aa (uppP b),[]):=by
 refine fnO v176 ?_;unfold v176 uppP;by_cases h:65<=b.toNat
 .have h':(65:Int)<=b.toNat:=by omega
  have h2:decide ((b.toNat:Int)<=90)=decide (b.toNat<=90):=by rw[qaE];simp;omega
  simp(maxSteps:=9^7) (disch:=try exact zd) [h,h',h2]
 .have h':¬(65:Int)<=b.toNat:=by omega
  simp(maxSteps:=9^7) (disch:=try exact zd) [h,h']
theorem Um (b:UInt8):(K A).call 177 [Jp b] []=some (Aa (digP b),[]):=by
 refine fnO v177 ?_;unfold v177 digP;by_cases h:48<=b.toNat
 .have h':(48:Int)<=b.toNat:=by omega
  have h2:decide ((b.toNat:Int)<=57)=decide (b.toNat<=57):=by rw[qaE];simp;omega
  simp(maxSteps:=9^7) (disch:=try exact zd) [h,h',h2]
 .have h':¬(48:Int)<=b.toNat:=by omega
  simp(maxSteps:=9^7) (disch:=try exact zd) [h,h']
theorem Ix (b:UInt8):(K A).call 124 [Jp b] []=some (Aa (innP b),[]):=by
 have h1:=Sx (A:=A) b;have h2:=RC (A:=A) b;have h3:=Um (A:=A) b;refine fnO v124 ?_;unfold v124 innP;have h4:decide ((b.toNat:Int)=95)=decide (b.toNat=95):=by rw[qaE];simp;omega
 cases hl:lowP b<;>cases hu:uppP b<;>cases hd:digP b<;>rw[hl]at h1<;>rw[hu]at h2<;>rw[hd]at h3 <;>
  simp(maxSteps:=9^7) (disch:=try exact zd) [h1,h2,h3,h4]
structure NumT (s:Str):Prop where
 dig:∀b∈s,digP b=true
 pos:s≠[]
 len:s.length<=9
 head:s.head?=some 48->s.length=1
theorem H3 {b:UInt8}(h:digP b=true):lowP b=false/\uppP b=false/\innP b=true:=by
 unfold innP lowP uppP;rw[h];unfold digP at h;simp at h;refine⟨?_,?_,by simp⟩<;>simp<;>omega
def kwRows:List Str:=[[100,97,116,97],[108,101,116],[114,101,99],[105,110],[99,97,115,101],[111,102],[101,110,100]]
theorem Ww (s:Str)(h:∀w∈kwRows,w≠s):(K A).call 178 [strV s] []=some (Aa false,[]):=by
 refine fnO v178 ?_;unfold v178;simp(maxSteps:=9^7) (disch:=try exact zd);have hr:[[W.c (.str [100,97,116,97])],[W.c (.str [108,101,116])],[W.c (.str [114,101,99])],[W.c (.str [105,110])],[W.c (.str [99,97,115,101])],[W.c (.str [111,102])],[W.c (.str [101,110,100])]]=wr (Ao kwRows):=rfl;have hl:kwRows.length=7:=rfl;rw[hr]
 refine Aq (fun i=>⟨[(0,strV s),(3,.sc (.arr 128 7)),(4,intV i)],[(128,some (.arr 1 (wr (Ao kwRows)) 0))]⟩) 7 (by simp) ?_ ?_
 .intro i hi
  obtain⟨w,hw⟩:=Ag (l:=kwRows) (i:=i) (by omega);have hne:¬w=s:=h w (qd hw);have hi2:(i:Int)<7:=by omega
  generalize kwRows=K0 at *
  unfold MK;simp(maxSteps:=9^7) (disch:=try exact zd) [hl,hi2,hw,hne,-getElem?_pos]
 .generalize kwRows=K0 at *
  unfold MK;simp(maxSteps:=9^7) (disch:=try exact zd) [hl]
theorem Sg (s:Str)(h:∀b∈s,innP b=true)(hs:s≠[])(hl:s.length<=10000):(K A).call 209 [strV s] []=some (Aa true,[]):=by
 refine fnO v209 ?_;unfold v209;simp(maxSteps:=9^7) (disch:=try exact zd);refine Aq (fun i=>⟨[(0,strV s),(3,intV i)],[]⟩) s.length (by simp) ?_ ?_
 .intro i hi
  obtain⟨b,hb⟩:=Ag hi;have hc:=Ix (A:=A) b;rw[h b (qd hb)]at hc;unfold LL;simp(maxSteps:=9^7) (disch:=try exact zd) [hi,hb,hc,-getElem?_pos]
 .unfold LL
  simp(maxSteps:=9^7) (disch:=try exact zd) [hs]
theorem Xx (s:Str)(h:NumT s):(K A).call 179 [strV s] []=some (Aa false,[]):=by
 obtain⟨b,r,rfl⟩:∃b r,s=b::r:=by
  cases s with
  |nil=>exact absurd rfl h.pos
  |cons b r=>exact⟨b,r,rfl⟩
 have hw:=Sg (A:=A) (b::r) (fun x hx=>(H3 (h.dig x hx)).2.2) h.pos (by have:=h.len;omega);have hc:=Sx (A:=A) b;rw[(H3 (h.dig b (by simp))).1]at hc;refine fnO v179 ?_;unfold v179;simp(maxSteps:=9^7) (disch:=try exact zd) [hw,hc]
theorem Zcd (s:Str)(h:NumT s):(K A).call 180 [strV s] []=some (Aa false,[]):=by
 obtain⟨b,r,rfl⟩:∃b r,s=b::r:=by
  cases s with
  |nil=>exact absurd rfl h.pos
  |cons b r=>exact⟨b,r,rfl⟩
 have hw:=Sg (A:=A) (b::r) (fun x hx=>(H3 (h.dig x hx)).2.2) h.pos (by have:=h.len;omega);have hc:=RC (A:=A) b;rw[(H3 (h.dig b (by simp))).2.1]at hc;refine fnO v180 ?_;unfold v180;simp(maxSteps:=9^7) (disch:=try exact zd) [hw,hc]
theorem V9 (s:Str)(h:NumT s):(K A).call 181 [strV s] []=some (Aa true,[]):=by
 refine fnO v181 ?_;have hs:=h.pos;have hl:=h.len;have hl':¬(9:Int)<s.length:=by omega
 obtain⟨b,hb⟩:=Ag (l:=s) (i:=0) (qa3.2 hs);have hpos:=qa3.2 hs;have hloop:wp (K A) (.loop I9) (fun e st=>e=.exit 0/\st=⟨[(0,strV s),(3,intV s.length),(24,Aa false)],[]⟩) ⟨[(0,strV s),(3,intV 0)],[]⟩:=by
  refine Aq (fun i=>⟨[(0,strV s),(3,intV i)],[]⟩) s.length (by simp) ?_ ?_
  .intro i hi
   obtain⟨b,hb⟩:=Ag hi;have hc:=Um (A:=A) b;rw[h.dig b (qd hb)]at hc;unfold I9;simp(maxSteps:=9^7) (disch:=try exact zd) [hi,hb,hc,-getElem?_pos]
  .unfold I9
   simp(maxSteps:=9^7) (disch:=try exact zd)
 unfold v181;by_cases h48:b.toNat=48
 .have hb48:b=48:=UInt8.toNat_inj.1 h48
  have h1:¬(1:Int)<s.length:=by
   have:=h.head (by rw[List.head?_eq_getElem?,hb,hb48]);omega
  simp(maxSteps:=9^7) (disch:=try exact zd) [hs,hl',hb,h48,h1,-getElem?_pos];refine wp_mono hloop ?_;rintro e st ⟨rfl,rfl⟩;simp
 .have h48':¬(b.toNat:Int)=48:=by omega
  simp(maxSteps:=9^7) (disch:=try exact zd) [hs,hl',hb,h48,h48',-getElem?_pos];refine wp_mono hloop ?_;rintro e st ⟨rfl,rfl⟩;simp
theorem Vh {s:Str}(h:NumT s):∀w∈kwRows,w≠s:=by
 rintro w hw rfl;have:=h.dig;simp only[kwRows,qD,qas,or_false]at hw;rcases hw with rfl|rfl|rfl|rfl|rfl|rfl|rfl<;>exact absurd (this _ (List.mem_cons_self)) (by decide)
theorem Ve (s:Str)(h:NumT s):(K A).call 125 [strV s] []=some (intV 3,[]):=by
 have h1:=Ww (A:=A) s (Vh h);have h2:=Xx (A:=A) s h;have h3:=Zcd (A:=A) s h;have h4:=V9 (A:=A) s h;refine fnO v125 ?_;unfold v125;simp(maxSteps:=9^7) (disch:=try exact zd) [h1,h2,h3,h4]
def numK (s:Str):Nat:=s.foldl (fun n b=>10*n+(b.toNat-48)) 0
theorem ZbO (s:Str)(h:NumT s):(K A).call 183 [strV s] []=some (intV (numK s),[]):=by
 have hb:∀k,k<=9->k<=s.length->numK (s.take k)<10 ^ k:=by
  intro k
  induction k with
  |zero=>intro _ _;simp[numK]
  |succ k ih=>
   intro hk hl;obtain⟨b,hb⟩:=Ag (l:=s) (i:=k) (by omega);have h1:=ih (by omega) (by omega);have h2:=h.dig b (qd hb);unfold digP at h2;simp at h2;rw[Bn hb];unfold numK at *
   rw[qav];simp only[qaU,List.foldl_nil];rw[qa8];omega
 refine fnO v183 ?_;unfold v183;simp(maxSteps:=9^7) (disch:=try exact zd);refine Aq (fun i=>⟨[(0,strV s),(3,intV (numK (s.take i))),(4,intV i)],[]⟩) s.length (by simp[numK]) ?_ ?_
 .intro i hi
  obtain⟨b,hbi⟩:=Ag hi;have hl:=h.len;have h1:=hb i (by omega) (by omega);have h2:=h.dig b (qd hbi);unfold digP at h2;simp at h2;have h3:numK (s.take (i+1))=10*numK (s.take i)+(b.toNat-48):=by
   rw[Bn hbi];unfold numK;rw[qav];rfl
  have hp:10 ^ i<=10 ^ 9:=qaY (by omega) (by omega);have h4:IntKind.u8.wrap ((b.toNat:Int)-48)=((b.toNat-48:Nat):Int):=by rw[wrap_u8 _ (by omega)];omega
  rw[h3];generalize numK (s.take i)=n at *
  unfold KZ;simp(maxSteps:=9^7) (disch:=try exact zd) [hi,hbi,h4,-getElem?_pos]
 .unfold KZ
  simp(maxSteps:=9^7) (disch:=try exact zd)
variable {A:Ab}
inductive Pc where
 |blank
 |tok (k:Nat) (s:Str)
def Pc.text:Pc->Str
 |.blank=>[32]
 |.tok _ s=>s
def Al (l:List Pc):Str:=(l.map Pc.text).flatten
theorem FW (p:Pc)(l:List Pc):Al (p::l)=p.text++Al l:=by simp[Al]
theorem Gs (l m:List Pc):Al (l++m)=Al l++Al m:=by simp[Al]
def Ar:Nat->List Pc->List Tok
 |_,[]=>[]
 |n,.blank::r=>Ar (n+1) r
 |n,.tok k s::r=>⟨k,s,n⟩::Ar (n+s.length) r
def Ho (r:Str):Bool:=match r with | []=>true | c::_=>!innP c
def mrkB (b:UInt8):Bool:=!innP b && !([32,9,13,10,35,45]:Str).contains b
def ZD (A:Ab)(k:Nat)(s r:Str):Prop:=k≠0/\(K A).call 125 [strV s] []=some (intV k,[])/\((s≠[]/\(∀b∈s,innP b=true)/\Ho r=true)\/∃b,s=[b]/\mrkB b=true)
def CY (A:Ab):List Pc->Prop
 |[]=>True
 |.blank::r=>CY A r
 |.tok k s::r=>ZD A k s (Al r)/\CY A r
def scS (src:Str)(ts:List Tok)(p:Nat):St:=⟨[(0,strV src),(3,.sc (.ptr 128 0)),(4,.sc (.arr 577 ts.length)),(5,intV p)],[(128,some (.box [zi,zi])),(577,some (.arr 3 (wr (Bz ts)) 0))]⟩
theorem YI {b:UInt8}(h:innP b=true):b.toNat≠32/\b.toNat≠9/\b.toNat≠13/\b.toNat≠10/\b.toNat≠35:=by
 unfold innP lowP uppP digP at h;simp at h;omega
theorem Za2 (src:Str)(ts:List Tok)(p:Nat)(hs:src.length<=4000)(hb:src[p]?=some 32):wp (K A) DV (fun e s=>e=.normal/\s=scS src ts (p+1)) (scS src ts p):=by
 have hp:p<src.length:=(qf.1 hb).1;unfold DV scS;simp(maxSteps:=9^7) (disch:=try exact zd) [hp,hb,-getElem?_pos]
theorem Rm {pre s r:Str}:((pre++(s++r)).take (pre.length+s.length)).drop pre.length=s:=by
 rw[<-qW,qaV (by simp),List.drop_left]
theorem Zbj (src pre s r:Str)(ts:List Tok)(k:Nat)(hs:src.length<=4000)(he:src=pre++(s++r))(ht:ts.length<=4000)(hk:k≠0)(hc:(K A).call 125 [strV s] []=some (intV k,[]))
 (h0:s≠[]) (hi:∀b∈s,innP b=true) (hr:Ho r=true):wp (K A) DV (fun e st=>e=.normal/\st=scS src (ts++[⟨k,s,pre.length⟩]) (pre.length+s.length)) (scS src ts pre.length):=by
 have hmid:(src.take (pre.length+s.length)).drop pre.length=s:=by rw[he];exact Rm
 have hget:∀j,src[pre.length+j]?=(s++r)[j]?:=fun j=>by rw[he,qH (by omega)];congr 1;omega
 have hlen:pre.length+s.length<=src.length:=by rw[he];simp
 generalize pre.length=p at *
 obtain⟨b,t,rfl⟩:∃b t,s=b::t:=by
  cases s with
  |nil=>exact absurd rfl h0
  |cons b t=>exact⟨b,t,rfl⟩
 have hb:src[p]?=some b:=by have:=hget 0;simpa using this
 have hp:p<src.length:=(qf.1 hb).1;have hib:=hi b (by simp);have h124:=Ix (A:=A) b;rw[hib]at h124;obtain⟨n1,n2,n3,n4,n5⟩:=YI hib;have m1:¬(b.toNat:Int)=32:=by omega
 have m2:¬(b.toNat:Int)=9:=by omega
 have m3:¬(b.toNat:Int)=13:=by omega
 have m4:¬(b.toNat:Int)=10:=by omega
 have m5:¬(b.toNat:Int)=35:=by omega
 have hk':¬(k:Int)=0:=by omega
 have hl1:(b::t).length=t.length+1:=rfl;have hloop:∀x y,wp (K A) (.loop HS) (fun e st=>e=.exit 5/\st=⟨[(0,strV src),(3,.sc (.ptr 128 0)),(4,.sc (.arr 577 ts.length)),(5,intV p),(7,intV ((p:Int)+1+t.length)),(66,Aa false)],[(128,some (.box [zi,zi])),(577,some (.arr 3 (wr (Bz ts)) 0))]⟩)
  ⟨[(0,strV src),(3,.sc (.ptr 128 0)),(4,.sc (.arr 577 ts.length)),(5,intV p),(6,x),(7,intV ((p:Int)+1)),(54,y)],[(128,some (.box [zi,zi])),(577,some (.arr 3 (wr (Bz ts)) 0))]⟩:=by
  intro x y;refine AW (fun j st=>∃ex ey:List (Nat×V),(ex=[(6,x)]/\ey=[(54,y)]\/ex=[]/\ey=[])/\st=⟨(0,strV src)::(3,.sc (.ptr 128 0))::(4,.sc (.arr 577 ts.length))::(5,intV p)::(ex++(7,intV ((p:Int)+1+j))::ey),[(128,some (.box [zi,zi])),(577,some (.arr 3 (wr (Bz ts)) 0))]⟩) t.length ⟨_,_,.inl ⟨rfl,rfl⟩,by simp⟩ ?_ ?_
  .rintro j st hj ⟨ex,ey,hxy,rfl⟩
   obtain⟨c,hcj⟩:=Ag hj;have hgj:src[p+1+j]?=some c:=by
    have:=hget (j+1);rw[show p+(j+1)=p+1+j by omega]at this;rw[this,q9,qaI,qK hj,hcj]
   have hpj:p+1+j<src.length:=(qf.1 hgj).1;have hnb:AE (intV ((p:Int)+1+j)) src.length=some (p+1+j):=natBelow_cast (n:=p+1+j) hpj;have h124c:=Ix (A:=A) c;rw[hi c (qaG _ (qd hcj))]at h124c;have hlt:(p:Int)+1+j<src.length:=(by omega);unfold HS;rcases hxy with ⟨rfl,rfl⟩|⟨rfl,rfl⟩ <;>
    simp(maxSteps:=9^7) (disch:=try exact zd) [hlt,hnb,hgj,h124c,-getElem?_pos] <;>
    exact⟨[],[],.inr ⟨rfl,rfl⟩,by simp[Int.add_assoc]⟩
  .rintro st ⟨ex,ey,hxy,rfl⟩
   unfold HS;have hgt:=hget (t.length+1);rw[show p+(t.length+1)=p+1+t.length by omega,q9,qaI,qH (qg _),qaN]at hgt;cases r with
   |nil=>
    have hnl:¬(p:Int)+1+t.length<src.length:=by
     have:src.length<=p+1+t.length:=by
      by_cases q:p+1+t.length<src.length
      .rw[qm q]at hgt;cases hgt
      .omega
     omega
    rcases hxy with ⟨rfl,rfl⟩|⟨rfl,rfl⟩ <;>
     simp(maxSteps:=9^7) (disch:=try exact zd) [hnl]
   |cons c r=>
    have hgt':src[p+1+t.length]?=some c:=(by rw[hgt];rfl);have hpj:p+1+t.length<src.length:=(qf.1 hgt').1;have hnb:AE (intV ((p:Int)+1+t.length)) src.length=some (p+1+t.length):=natBelow_cast (n:=p+1+t.length) hpj;have h124c:=Ix (A:=A) c;have hcf:innP c=false:=(by simpa[Ho]using hr);rw[hcf]at h124c;have hlt:(p:Int)+1+t.length<src.length:=(by omega);rcases hxy with ⟨rfl,rfl⟩|⟨rfl,rfl⟩ <;>
     simp(maxSteps:=9^7) (disch:=try exact zd) [hlt,hnb,hgt',h124c,-getElem?_pos]
 have hb1:AK (some (intV ((p:Int)+1+t.length))) src.length src.length=some (p+1+t.length):=natBelow_cast (k:=.i64) (n:=p+1+t.length) (by omega);have hb2:AK (some (intV (p:Int))) 0 (p+1+t.length)=some p:=natBelow_cast (k:=.i64) (n:=p) (by omega);rw[show p+(b::t).length=p+1+t.length by simp;omega]at hmid;unfold DV scS;simp(maxSteps:=9^7) (disch:=try exact zd) [hp,hb,h124,m1,m2,m3,m4,m5,-getElem?_pos]
 refine wp_mono (hloop _ _) ?_;rintro e st ⟨rfl,rfl⟩;simp(maxSteps:=9^7) (disch:=try exact zd) [hb1,hb2,hmid,hc,hk,-getElem?_pos];omega
theorem Zce (src pre r:Str)(b:UInt8)(ts:List Tok)(k:Nat)(hs:src.length<=4000)(he:src=pre++([b]++r))(ht:ts.length<=4000)(hk:k≠0)(hc:(K A).call 125 [strV [b]] []=some (intV k,[]))
 (hm:mrkB b=true):wp (K A) DV (fun e st=>e=.normal/\st=scS src (ts++[⟨k,[b],pre.length⟩]) (pre.length+1)) (scS src ts pre.length):=by
 have hmid:(src.take (pre.length+1)).drop pre.length=[b]:=by rw[he];exact Rm (s:=[b])
 have hb:src[pre.length]?=some b:=by rw[he,qH (by omega)];simp
 generalize pre.length=p at *
 have hp:p<src.length:=(qf.1 hb).1;have h124:=Ix (A:=A) b;unfold mrkB at hm;simp at hm;obtain⟨h1,h2⟩:=hm;rw[h1]at h124;have ne:∀n:Nat,n<256->b≠UInt8.ofNat n->¬(b.toNat:Int)=n:=by
  intro n hn h q;refine h (UInt8.toNat_inj.1 ?_);rw[UInt8.toNat_ofNat'];omega
 have m1:¬(b.toNat:Int)=32:=ne 32 (by omega) h2.1;have m2:¬(b.toNat:Int)=9:=ne 9 (by omega) h2.2.1;have m3:¬(b.toNat:Int)=13:=ne 13 (by omega) h2.2.2.1;have m4:¬(b.toNat:Int)=10:=ne 10 (by omega) h2.2.2.2.1;have m5:¬(b.toNat:Int)=35:=ne 35 (by omega) h2.2.2.2.2.1;have m6:¬(b.toNat:Int)=45:=ne 45 (by omega) h2.2.2.2.2.2;have hk':¬(k:Int)=0:=by omega
 have hb1:AK (some (intV ((p:Int)+1))) src.length src.length=some (p+1):=natBelow_cast (k:=.i64) (n:=p+1) (by omega);have hb2:AK (some (intV (p:Int))) 0 (p+1)=some p:=natBelow_cast (k:=.i64) (n:=p) (by omega);unfold DV scS;simp(maxSteps:=9^7) (disch:=try exact zd) [hp,hb,h124,m1,m2,m3,m4,m5,m6,hb1,hb2,hmid,hc,hk,-getElem?_pos]
theorem Vl (src:Str)(hs:src.length<=4000):∀(l:List Pc)(pre:Str)(ts:List Tok),src=pre++Al l->ts.length<=pre.length->CY A l->
 wp (K A) (.loop DV) (fun e st=>e=.exit 0/\st=⟨[(0,strV src),(3,.sc (.ptr 128 0)),(4,.sc (.arr 577 (ts++Ar pre.length l).length)),(5,intV src.length),(16,Aa false)],[(128,some (.box [zi,zi])),(577,some (.arr 3 (wr (Bz (ts++Ar pre.length l))) 0))]⟩) (scS src ts pre.length):=by
 intro l
 induction l with
 |nil=>
  intro pre ts he ht _;rw[show Al []=[]from rfl,qJ]at he;subst he;refine CF ?_
  refine wp_mono (R:=fun e s'=>(e=.normal/\wp (K A) (.loop DV) (fun e st=>e=.exit 0/\st=⟨[(0,strV src),(3,.sc (.ptr 128 0)),(4,.sc (.arr 577 (ts++Ar src.length []).length)),(5,intV src.length),(16,Aa false)],[(128,some (.box [zi,zi])),(577,some (.arr 3 (wr (Bz (ts++Ar src.length []))) 0))]⟩) s')\/(e≠.normal/\(e=.exit 0/\s'=⟨[(0,strV src),(3,.sc (.ptr 128 0)),(4,.sc (.arr 577 (ts++Ar src.length []).length)),(5,intV src.length),(16,Aa false)],[(128,some (.box [zi,zi])),(577,some (.arr 3 (wr (Bz (ts++Ar src.length []))) 0))]⟩)))
   (h:=(?_:wp (K A) DV (fun e st=>e=.exit 0/\st=⟨[(0,strV src),(3,.sc (.ptr 128 0)),(4,.sc (.arr 577 ts.length)),(5,intV src.length),(16,Aa false)],[(128,some (.box [zi,zi])),(577,some (.arr 3 (wr (Bz ts)) 0))]⟩) (scS src ts src.length))) ?_
  .unfold DV scS
   simp(maxSteps:=9^7) (disch:=try exact zd)
  .rintro e st ⟨rfl,rfl⟩
   exact .inr ⟨(fun h=>by cases h),rfl,by simp[Ar]⟩
 |cons p l ih=>
  intro pre ts he ht hok;rw[FW]at he;cases p with
  |blank=>
   have hb:src[pre.length]?=some 32:=(by rw[he,qH (by omega)];simp[Pc.text]);refine CF (wp_mono (Za2 (A:=A) src ts pre.length hs hb) ?_);rintro e st ⟨rfl,rfl⟩;have:=ih (pre++[32]) ts (by rw[he];simp[Pc.text]) (by simp;omega) hok;rw[show(pre++[(32:UInt8)]).length=pre.length+1 by simp]at this;exact .inl ⟨rfl,this⟩
  |tok k s=>
   obtain⟨⟨hk,hc,hw⟩,hok⟩:=hok;have hpl:pre.length<=src.length:=(by rw[he];simp);have hnext:=ih (pre++s) (ts++[⟨k,s,pre.length⟩]) (by rw[he];simp[Pc.text]);rw[show(pre++s).length=pre.length+s.length by simp]at hnext;have hts:Ar pre.length (.tok k s::l)=⟨k,s,pre.length⟩::Ar (pre.length+s.length) l:=rfl;rw[hts]
   rw[show ts++(⟨k,s,pre.length⟩:Tok)::Ar (pre.length+s.length) l=ts++[(⟨k,s,pre.length⟩:Tok)]++Ar (pre.length+s.length) l by simp];rcases hw with ⟨h0,hi,hr⟩|⟨b,rfl,hm⟩
   .refine CF (wp_mono (Zbj (A:=A) src pre s (Al l) ts k hs he (by omega) hk hc h0 hi hr) ?_)
    rintro e st ⟨rfl,rfl⟩;exact .inl ⟨rfl,hnext (by have:=qa3.2 h0;simp;omega) hok⟩
   .refine CF (wp_mono (Zce (A:=A) src pre (Al l) b ts k hs he (by omega) hk hc hm) ?_)
    rintro e st ⟨rfl,rfl⟩;exact .inl ⟨rfl,hnext (by simp;omega) hok⟩
theorem Qc (l:List Pc)(hs:(Al l).length<=4000)(hok:CY A l):(K A).call 74 [strV (Al l)] []=some (.tu [.sc (.c (.sl (Bz (Ar 0 l)))),.ag [zi,zi]],[]):=by
 have h:=Vl (A:=A) (Al l) hs l [] [] rfl (qai _) hok;have hn:¬(4000:Int)<(Al l).length:=by omega
 rw[qae,show([]:Str).length=0 from rfl]at h;have ht:(Bz ([]:List Tok))=[]:=rfl;unfold scS at h;rw[ht]at h;refine fnO v74 ?_;unfold v74;simp(maxSteps:=9^7) (disch:=try exact zd) [hn];refine wp_mono h ?_;rintro e st ⟨rfl,rfl⟩;simp(maxSteps:=9^7) (disch:=try exact zd)
variable {A:Ab}
abbrev Rd:=List Tok->Option (Exp×List Tok)
def rdA (R:Rd):Rd
 |[]=>none
 |t::r=>
  if t.kind=1 then some (.mk 1 t.pos t.text 0 [] [] tz,r)
  else if t.kind=2 then some (.mk 2 t.pos t.text 0 [] [] tz,r)
  else if t.kind=3 then some (.mk 3 t.pos [] (numK t.text) [] [] tz,r)
  else if isM t [40] then (match R r with
   |some (e,c::r')=>if isM c [41] then some (e,r') else none
   |_=>none)
  else none
abbrev appX (e a:Exp):Exp:=.mk 5 e.pos [] 0 [e,a] [] tz
def De (R:Rd):Nat->Exp->Rd
 |0,_,_=>none
 |_+1,e,[]=>some (e,[])
 |n+1,e,t::r=>if Es t then (match rdA R (t::r)with
  |some (a,r')=>De R n (appX e a) r'
  |none=>none) else some (e,t::r)
def AU:List Tok->List Str×List Tok
 |[]=>([],[])
 |t::r=>if t.kind=1 then (t.text::(AU r).1,(AU r).2) else ([],t::r)
def Gv (R:Rd):Nat->List Tok->Option (List (ArmH×Exp)×List Tok)
 |0,_=>none
 |_+1,[]=>none
 |n+1,t::r=>if t.kind=2 then (match (AU r).2 with
  |[]=>none
  |d::r2=>if isM d [46] then (match R r2 with
   |some (b,e::r3)=>if isM e [124] then (if (AU r).1=[] then (match Gv R n r3 with
    |some (ls,r4)=>some ((⟨t.pos,t.text,(AU r).1⟩,b)::ls,r4)
    |none=>none) else none) else some ([(⟨t.pos,t.text,(AU r).1⟩,b)],e::r3)
   |_=>none) else none) else none
def rdE:Nat->Rd
 |0,_=>none
 |_+1,[]=>none
 |n+1,t::r=>
  if isM t [92] then (match r with
   |v::d::r1=>if v.kind=1/\isM d [46]=true then (match rdE n r1 with
    |some (b,r2)=>some (.mk 4 t.pos v.text 0 [b] [] tz,r2)
    |none=>none) else none
   |_=>none)
  else if isM t [108,101,116] then none
  else if isM t [99,97,115,101] then (match rdE n r with
   |some (x,o::r1)=>if isM o [111,102] then (match Gv (rdE n) (r1.length+1) r1 with
    |some (ls,e::r2)=>if isM e [101,110,100] then some (.mk 8 t.pos [] 0 [x] ls tz,r2) else none
    |_=>none) else none
   |_=>none)
  else match rdA (rdE n) (t::r)with
   |some (e,r1)=>De (rdE n) (r1.length+1) e r1
   |none=>none
def FH (A:Ab)(L:List Tok)(f:FuncId)(R:Rd):Prop:=∀(I:Nat)(e:Exp)(r:List Tok),I<=L.length->R (L.drop I)=some (e,r)->∃J,J<=L.length/\L.drop J=r/\(K A).call f [.sc (.ptr 0 0)] [rdO L I]=some (expV e,[rdO L J])
theorem BW {L:List Tok}{I:Nat}{t:Tok}{r:List Tok}(h:L.drop I=t::r):L[I]?=some t/\L.drop (I+1)=r/\I+1<=L.length:=by
 have h1:I<L.length:=by
  by_cases q:I<L.length
  .exact q
  .rw[qag (by omega)]at h;cases h
 rw[qaF h1]at h;simp only[List.cons.injEq]at h;exact⟨by rw[qm h1,h.1],h.2,h1⟩
theorem Sm {L:List Tok}{I:Nat}(h:L.drop I=[]):L[I]?=none/\¬I<L.length:=by
 have:L.length<=I:=by simpa using h
 exact⟨qaj this,by omega⟩
theorem Fz {t:Tok}{a b:Str}(h:isM t a=true)(hn:a≠b):isM t b=false:=by
 unfold isM at *
 simp at h |-;intro _ q;exact hn (h.2▸q)
theorem QO {t:Tok}{a:Str}(h:isM t a=true):t.kind=5\/t.kind=4:=by
 unfold isM at h;simp at h;exact h.1
theorem ZbC (L:List Tok)(hL:L.length<=4000)(hN:∀t∈L,t.kind=3->NumT t.text)(R:Rd)(hR:FH A L 76 R):FH A L 131 (rdA R):=by
 intro I e r hI h;cases hd:L.drop I with
 |nil=>rw[hd]at h;cases h
 |cons t r0=>
  rw[hd]at h;obtain⟨ht,hr0,hI1⟩:=BW hd;have h126:=Fl (A:=A) L I (by omega);rw[Et ht]at h126;have k1:=C0 (A:=A) L I 1 (by omega);have k2:=C0 (A:=A) L I 2 (by omega);have k3:=C0 (A:=A) L I 3 (by omega);rw[BF ht]at k1 k2 k3;simp only[rdA]at h;by_cases e1:t.kind=1
  .rw [if_pos e1] at h
   obtain⟨rfl,rfl⟩:=qaZ (qV h);refine⟨I+1,hI1,hr0,fnO v131 ?_⟩;have hw:=Dw (A:=A) L I 1 t (by omega) ht e1;rw[decide_eq_true e1]at k1;unfold v131;simp(maxSteps:=9^7) (disch:=try exact zd) [h126,k1,hw];rfl
  .rw [if_neg e1] at h
   rw[decide_eq_false e1]at k1;by_cases e2:t.kind=2
   .rw [if_pos e2] at h
    obtain⟨rfl,rfl⟩:=qaZ (qV h);refine⟨I+1,hI1,hr0,fnO v131 ?_⟩;have hw:=Dw (A:=A) L I 2 t (by omega) ht e2;rw[decide_eq_true e2]at k2;unfold v131;simp(maxSteps:=9^7) (disch:=try exact zd) [h126,k1,k2,hw];rfl
   .rw [if_neg e2] at h
    rw[decide_eq_false e2]at k2;by_cases e3:t.kind=3
    .rw [if_pos e3] at h
     obtain⟨rfl,rfl⟩:=qaZ (qV h);refine⟨I+1,hI1,hr0,fnO v131 ?_⟩;have hw:=Dw (A:=A) L I 3 t (by omega) ht e3;have hn:=ZbO (A:=A) t.text (hN t (qd ht) e3);rw[decide_eq_true e3]at k3;unfold v131;simp(maxSteps:=9^7) (disch:=try exact zd) [h126,k1,k2,k3,hw,hn];rfl
    .rw [if_neg e3] at h
     rw[decide_eq_false e3]at k3;by_cases e4:isM t [40]=true
     .rw [if_pos e4] at h
      have a1:isAt L I [40]=true:=(by rw[AX ht,e4]);have s1:=Ey (A:=A) L I [63] (by omega) hI (by rw[AX ht];exact Fz e4 (by decide));have s2:=Ey (A:=A) L I [123] (by omega) hI (by rw[AX ht];exact Fz e4 (by decide));have s3:=C7 (A:=A) L I [40] (by omega) hI a1;cases hq:R r0 with
      |none=>rw[hq]at h;cases h
      |some p=>
       obtain⟨e',r1⟩:=p;rw[hq]at h;cases r1 with
       |nil=>cases h
       |cons c r'=>
        simp only at h;by_cases e5:isM c [41]=true
        .rw [if_pos e5] at h
         obtain⟨rfl,rfl⟩:=qaZ (qV h);obtain⟨J,hJ,hdJ,hcJ⟩:=hR (I+1) e' (c::r') hI1 (by rw[hr0];exact hq);obtain⟨hcJ1,hrJ,hJ1⟩:=BW hdJ;refine⟨J+1,hJ1,hrJ,fnO v131 ?_⟩;have s4:=Ey (A:=A) L J [58] (by omega) hJ (by rw[AX hcJ1];exact Fz e5 (by decide));have s5:=C7 (A:=A) L J [41] (by omega) hJ (by rw[AX hcJ1,e5])
         have hci:(K A).call 76 [.sc (.ptr 0 0)] [.box [.c (.sl (Bz L)),.c (.int .i64 ((I:Int)+1)),.c (.bool false),.c (.int .i64 0)]]=some (expV e',[rdO L J]):=hcJ;unfold v131;simp(maxSteps:=9^7) (disch:=try exact zd) [h126,k1,k2,k3,s1,s2,s3,hci,s4,s5]
        .rw[if_neg e5]at h;cases h
     .rw[if_neg e4]at h;cases h
theorem Vf (L:List Tok)(hL:L.length<=4000)(R:Rd)(hA:FH A L 131 (rdA R)):∀(n:Nat)(I:Nat)(e f:Exp)(r:List Tok)(t:List (Nat×Option Obj)),I<=L.length->De R n e (L.drop I)=some (f,r)->
 (t=[]\/∃(a b c:Exp) (p:Nat),t=[(6912,some (.box (wc a.row))),(7296,some (.arr 11 [wc b.row,wc c.row] p))])->
 ∃J,J<=L.length/\L.drop J=r/\wp (K A) (.loop GR) (fun ex st=>ex=.exit 1/\∃t',st=⟨[(0,.sc (.ptr 0 0)),(2,.sc (.ptr 64 0)),(8,.sc (.ptr 4736 0)),(98,Aa false)],(0,some (rdO L J))::(64,some (.box [zi,zi,zs,zi,.nil,.nil,zi,zs,zi,zi,.nil]))::(4736,some (.box (wc f.row)))::t'⟩)
  ⟨[(0,.sc (.ptr 0 0)),(2,.sc (.ptr 64 0)),(8,.sc (.ptr 4736 0))],(0,some (rdO L I))::(64,some (.box [zi,zi,zs,zi,.nil,.nil,zi,zs,zi,zi,.nil]))::(4736,some (.box (wc e.row)))::t⟩:=by
 intro n
 induction n with
 |zero=>intro I e f r t _ h;cases h
 |succ n ih=>
  intro I e f r t hI h ht;cases hd:L.drop I with
  |nil=>
   rw[hd]at h;obtain⟨hn,hl⟩:=Sm hd;simp only[De]at h;obtain⟨rfl,rfl⟩:=qaZ (qV h);have hl':¬(I:Int)<L.length:=(by omega);refine⟨I,hI,hd,CF (wp_mono (Q:=fun ex st=>ex=.exit 1/\st=⟨[(0,.sc (.ptr 0 0)),(2,.sc (.ptr 64 0)),(8,.sc (.ptr 4736 0)),(98,Aa false)],(0,some (rdO L I))::(64,some (.box [zi,zi,zs,zi,.nil,.nil,zi,zs,zi,zi,.nil]))::(4736,some (.box (wc e.row)))::t⟩) ?_ ?_)⟩
   .unfold GR
    simp(maxSteps:=9^7) (disch:=try exact zd) [hl,hl']
   .rintro ex st ⟨rfl,rfl⟩
    exact .inr ⟨(fun q=>by cases q),rfl,_,rfl⟩
  |cons tk r0=>
   rw[hd]at h;obtain⟨htk,hr0,hI1⟩:=BW hd;have hlt:I<L.length:=hI1;have hst:=UP (A:=A) tk;simp only[De]at h;by_cases hs:Es tk=true
   .rw [if_pos hs] at h
    rw[hs]at hst;cases hq:rdA R (tk::r0)with
    |none=>rw[hq]at h;cases h
    |some p=>
     obtain⟨a,r1⟩:=p;rw[hq]at h;simp only at h;obtain⟨J,hJ,hdJ,hcJ⟩:=hA I a r1 hI (by rw[hd];exact hq);rw[<-hdJ]at h;have hrow:wc (appX e a).row=[.c (.int .i64 5),.c (.int .i64 e.pos),zs,zi,.c (.sl [e.row,a.row]),.c (.sl []),zi,zs,zi,zi,.c (.sl [])]:=(by simp[Exp.row,wc,tz,Ty.kind,Ty.name,Ty.id,Ty.home,Ty.args,Ty.rows])
     have hround:∃t':List (Nat×Option Obj),(t'=[]\/∃(a b c:Exp) (p:Nat),t'=[(6912,some (.box (wc a.row))),(7296,some (.arr 11 [wc b.row,wc c.row] p))])/\wp (K A) GR (fun ex st=>ex=.normal/\st=⟨[(0,.sc (.ptr 0 0)),(2,.sc (.ptr 64 0)),(8,.sc (.ptr 4736 0))],(0,some (rdO L J))::(64,some (.box [zi,zi,zs,zi,.nil,.nil,zi,zs,zi,zi,.nil]))::(4736,some (.box (wc (appX e a).row)))::t'⟩)
      ⟨[(0,.sc (.ptr 0 0)),(2,.sc (.ptr 64 0)),(8,.sc (.ptr 4736 0))],(0,some (rdO L I))::(64,some (.box [zi,zi,zs,zi,.nil,.nil,zi,zs,zi,zi,.nil]))::(4736,some (.box (wc e.row)))::t⟩:=by
      refine⟨[(6912,some (.box (wc a.row))),(7296,some (.arr 11 [wc e.row,wc a.row] 2))],.inr ⟨_,_,_,_,rfl⟩,?_⟩;rw[hrow];unfold GR;rcases ht with rfl|⟨oa,ob,oc,op,rfl⟩ <;>
       simp(maxSteps:=9^7) (disch:=try exact zd) [hlt,htk,hst,hcJ,-getElem?_pos]
     obtain⟨t',ht',hw⟩:=hround;obtain⟨J2,hJ2,hdJ2,hw2⟩:=ih J (appX e a) f r t' hJ h ht';refine⟨J2,hJ2,hdJ2,CF (wp_mono hw ?_)⟩;rintro ex st ⟨rfl,rfl⟩;exact .inl ⟨rfl,hw2⟩
   .rw [if_neg hs] at h
    rw[Bool.not_eq_true]at hs;rw[hs]at hst;obtain⟨rfl,rfl⟩:=qaZ (qV h);refine⟨I,hI,hd,CF (wp_mono (Q:=fun ex st=>ex=.exit 1/\st=⟨[(0,.sc (.ptr 0 0)),(2,.sc (.ptr 64 0)),(8,.sc (.ptr 4736 0)),(98,Aa false)],(0,some (rdO L I))::(64,some (.box [zi,zi,zs,zi,.nil,.nil,zi,zs,zi,zi,.nil]))::(4736,some (.box (wc e.row)))::t⟩) ?_ ?_)⟩
    .unfold GR
     simp(maxSteps:=9^7) (disch:=try exact zd) [hlt,htk,hst,-getElem?_pos]
    .rintro ex st ⟨rfl,rfl⟩
     exact .inr ⟨(fun q=>by cases q),rfl,_,rfl⟩
variable {A:Ab}
abbrev armW (pos:Int)(con:Str)(n:Nat):List W:=[.c (.int .i64 pos),.c (.str con),.arr 1091 n,zi,zi,zs,zi,.nil,.nil,zi,zs,zi,zi,.nil]
abbrev Db (L:List Tok)(I:Nat)(pos:Int)(x:Exp)(ls:List (ArmH×Exp))(t:List (Nat×Option Obj)):List (Nat×Option Obj):=
 (0,some (rdO L I))::(64,some (.box [zi,zi,zs,zi,.nil,.nil,zi,zs,zi,zi,.nil]))::(320,some (.arr 11 [wc x.row] 0)) ::
   (448,some (.box [.c (.int .i64 8),.c (.int .i64 pos),zs,zi,.arr 320 1,.arr 518 ls.length,zi,zs,zi,zi,.nil]))::(518,some (.arr 14 (wr (Exp.armRows ls)) 0))::t
theorem U8 (L:List Tok)(hL:L.length<=4000)(P:Int)(x:Exp)(ls:List (ArmH×Exp))(pos:Int)(con:Str):∀(l0:List Tok)(I:Nat)(vs:List Str)(t:List (Nat×Option Obj)),I<=L.length->L.drop I=l0->vs.length<=I->
 (t=[]\/∃(a:Str) (p:Nat),t=[(1536,some (.arr 1 [[.c (.str a)]] p))])->
 ∃J,J<=L.length/\L.drop J=(AU l0).2/\wp (K A) (.loop F6) (fun ex st=>ex=.exit 2/\∃t',(t'=[]\/∃(a:Str) (p:Nat),t'=[(1536,some (.arr 1 [[.c (.str a)]] p))])/\((AU l0).1=[]->t=[]->t'=[])/\st=⟨[(0,.sc (.ptr 0 0)),(4,.sc (.ptr 64 0)),(5,.sc (.ptr 448 0)),(6,.sc (.ptr 1024 0)),(20,Aa false)],
  Db L J P x ls ((1024,some (.box (armW pos con (vs++(AU l0).1).length)))::(1091,some (.arr 1 (wr (Ao (vs++(AU l0).1))) 0))::t')⟩)
  ⟨[(0,.sc (.ptr 0 0)),(4,.sc (.ptr 64 0)),(5,.sc (.ptr 448 0)),(6,.sc (.ptr 1024 0))],Db L I P x ls ((1024,some (.box (armW pos con vs.length)))::(1091,some (.arr 1 (wr (Ao vs)) 0))::t)⟩:=by
 intro l0
 induction l0 with
 |nil=>
  intro I vs t hI hd hv ht;obtain⟨hn,hl⟩:=Sm hd;have hk:=C0 (A:=A) L I 1 (by omega);rw[TZ hn]at hk;refine⟨I,hI,hd,CF (wp_mono (Q:=fun ex st=>ex=.exit 2/\st=⟨[(0,.sc (.ptr 0 0)),(4,.sc (.ptr 64 0)),(5,.sc (.ptr 448 0)),(6,.sc (.ptr 1024 0)),(20,Aa false)],Db L I P x ls ((1024,some (.box (armW pos con vs.length)))::(1091,some (.arr 1 (wr (Ao vs)) 0))::t)⟩) ?_ ?_)⟩
  .unfold F6
   simp(maxSteps:=9^7) (disch:=try exact zd) [hk]
  .rintro ex st ⟨rfl,rfl⟩
   exact .inr ⟨(fun q=>by cases q),rfl,t,ht,fun _ h=>h,by simp[AU]⟩
 |cons tk r0 ih=>
  intro I vs t hI hd hv ht;obtain⟨htk,hr0,hI1⟩:=BW hd;have hk:=C0 (A:=A) L I 1 (by omega);rw[BF htk]at hk;by_cases e1:tk.kind=1
  .rw [decide_eq_true e1] at hk
   have hw:=Dw (A:=A) L I 1 tk (by omega) htk e1;have hsn:=strRows_snoc vs tk.text;obtain⟨J,hJ,hdJ,hwl⟩:=ih (I+1) (vs++[tk.text]) [(1536,some (.arr 1 [[.c (.str tk.text)]] 0))] hI1 hr0 (by simp;omega) (.inr ⟨_,_,rfl⟩);have hv1:(AU (tk::r0)).1=tk.text::(AU r0).1:=(by simp only[AU,if_pos e1]);have hv2:(AU (tk::r0)).2=(AU r0).2:=(by simp only[AU,if_pos e1]);rw[hv1,hv2]
   refine⟨J,hJ,hdJ,CF (wp_mono (Q:=fun ex st=>ex=.normal/\st=⟨[(0,.sc (.ptr 0 0)),(4,.sc (.ptr 64 0)),(5,.sc (.ptr 448 0)),(6,.sc (.ptr 1024 0))],Db L (I+1) P x ls ((1024,some (.box (armW pos con (vs++[tk.text]).length)))::(1091,some (.arr 1 (wr (Ao (vs++[tk.text]))) 0))::[(1536,some (.arr 1 [[.c (.str tk.text)]] 0))])⟩) ?_ ?_)⟩
   .unfold F6
    rcases ht with rfl|⟨a,p,rfl⟩ <;>
     simp(maxSteps:=9^7) (disch:=try exact zd) [hk,hw,-getElem?_pos]
   .rintro ex st ⟨rfl,rfl⟩
    refine .inl ⟨rfl,wp_mono hwl ?_⟩;rintro ex st ⟨rfl,t',h1,_,rfl⟩;exact⟨rfl,t',h1,(fun h=>by cases h),by rw[qW];rfl⟩
  .rw [decide_eq_false e1] at hk
   have hv1:(AU (tk::r0)).1=[]:=(by simp only[AU,if_neg e1]);have hv2:(AU (tk::r0)).2=tk::r0:=(by simp only[AU,if_neg e1]);rw[hv1,hv2,qJ];refine⟨I,hI,hd,CF (wp_mono (Q:=fun ex st=>ex=.exit 2/\st=⟨[(0,.sc (.ptr 0 0)),(4,.sc (.ptr 64 0)),(5,.sc (.ptr 448 0)),(6,.sc (.ptr 1024 0)),(20,Aa false)],Db L I P x ls ((1024,some (.box (armW pos con vs.length)))::(1091,some (.arr 1 (wr (Ao vs)) 0))::t)⟩) ?_ ?_)⟩
   .unfold F6
    simp(maxSteps:=9^7) (disch:=try exact zd) [hk]
   .rintro ex st ⟨rfl,rfl⟩
    exact .inr ⟨(fun q=>by cases q),rfl,t,ht,fun _ h=>h,rfl⟩
def c1of:VCode->VCode
 |.block _ (.seq a _)=>a
 |c=>c
def c3of:VCode->VCode
 |.block _ (.seq _ (.seq _ c))=>c
 |c=>c
def Pp:VCode:=G (c1of Gy)
def N2:VCode:=G (c3of Gy)
def ArmK (L:List Tok)(P:Int)(x:Exp)(ls:List (ArmH×Exp))(vs:List Str)(more:Bool)(J:Nat)(ex:Ex)(st:St):Prop:=∃t',(vs=[]->∃a,t'=[(1091,some a)])/\
 ((more=true/\ex=.normal/\st=⟨[(0,.sc (.ptr 0 0)),(4,.sc (.ptr 64 0)),(5,.sc (.ptr 448 0)),(46,Aa false)],Db L (J+1) P x ls t'⟩) \/
   (more=false/\ex=.exit 0/\st=⟨[(0,.sc (.ptr 0 0)),(4,.sc (.ptr 64 0)),(5,.sc (.ptr 448 0)),(46,Aa true)],Db L J P x ls t'⟩))
theorem UM (L:List Tok)(hL:L.length<=4000)(R:Rd)(hR:FH A L 76 R)(P:Int)(x:Exp)(ls:List (ArmH×Exp))(I:Nat)(tk d e:Tok)(r r2 r3:List Tok)(b:Exp)(t:List (Nat×Option Obj))(x46:List (Nat×V))
 (hI:I<=L.length) (h46:x46=[]\/x46=[(46,Aa false)]) (has:ls.length<=4000) (hd:L.drop I=tk::r) (h2:tk.kind=2) (hv:(AU r).2=d::r2) (hdot:isM d [46]=true) (hb:R r2=some (b,e::r3)) (ht:t=[]\/∃a,t=[(1091,some a)]):
 ∃J,J<=L.length/\L.drop J=e::r3/\
  wp (K A) Gy (ArmK L P x (ls++[(⟨tk.pos,tk.text,(AU r).1⟩,b)]) (AU r).1 (isM e [124]) J)
  ⟨(0,.sc (.ptr 0 0))::(4,.sc (.ptr 64 0))::(5,.sc (.ptr 448 0))::x46,Db L I P x ls t⟩:=by
 obtain⟨htk,hr,hI1⟩:=BW hd;have h126:=Fl (A:=A) L I (by omega);rw[Et htk]at h126;have hw:=Dw (A:=A) L I 2 tk (by omega) htk h2;obtain⟨J1,hJ1,hdJ1,hvl⟩:=U8 (A:=A) L hL P x ls tk.pos tk.text r (I+1) [] [] hI1 hr (qai _) (.inl rfl);rw[hv]at hdJ1;obtain⟨hd1,hr2,hJ11⟩:=BW hdJ1;have hnd:=C7 (A:=A) L J1 [46] (by omega) hJ1 (by rw[AX hd1,hdot])
 obtain⟨J,hJ,hdJ,hcb⟩:=hR (J1+1) b (e::r3) hJ11 (by rw[hr2];exact hb);obtain⟨he,hr3,hJe⟩:=BW hdJ;have hcb':(K A).call 76 [.sc (.ptr 0 0)] [.box [.c (.sl (Bz L)),.c (.int .i64 ((J1:Int)+1)),.c (.bool false),.c (.int .i64 0)]]=some (expV b,[rdO L J]):=hcb;simp only[qae]at hvl;refine⟨J,hJ,hdJ,?_⟩;have hsk:=Jn (A:=A) L J [124] (by omega) hJ;rw[AX he]at hsk
 have hrow:wr (Exp.armRows ls)++[W.c (.int .i64 tk.pos)::W.c (.str tk.text)::W.c (.sl (Ao (AU r).1))::wc b.row]=wr (Exp.armRows (ls++[(⟨tk.pos,tk.text,(AU r).1⟩,b)])):=Exp.armRows_snoc ls ((⟨tk.pos,tk.text,(AU r).1⟩:ArmH),b)
 have after:∀ex st,(ex=.exit 2/\∃t',(t'=[]\/∃(a:Str) (p:Nat),t'=[(1536,some (.arr 1 [[.c (.str a)]] p))])/\((AU r).1=[]->True->t'=[])/\st=⟨[(0,.sc (.ptr 0 0)),(4,.sc (.ptr 64 0)),(5,.sc (.ptr 448 0)),(6,.sc (.ptr 1024 0)),(20,Aa false)],
  Db L J1 P x ls ((1024,some (.box (armW tk.pos tk.text (AU r).1.length)))::(1091,some (.arr 1 (wr (Ao (AU r).1)) 0))::t')⟩)->DA 2 (FL (K A) N2 (DA 1 (ArmK L P x (ls++[(⟨tk.pos,tk.text,(AU r).1⟩,b)]) (AU r).1 (isM e [124]) J))) ex st:=by
  rintro ex st ⟨rfl,t',ht',hn',rfl⟩;generalize (AU r).1=vs at *
  unfold N2;cases hm:isM e [124]with
  |true=>
   rw[hm,if_pos rfl]at hsk;rcases ht' with rfl|⟨a,p,rfl⟩
   .simp (maxSteps:=9^7) (disch:=try exact zd) [hnd,hcb',hsk,hrow,-getElem?_pos]
    exact⟨[(1091,some (.arr 1 (wr (Ao vs)) vs.length))],fun _=>⟨_,rfl⟩,.inl ⟨rfl,rfl,by simp⟩⟩
   .simp (maxSteps:=9^7) (disch:=try exact zd) [hnd,hcb',hsk,hrow,-getElem?_pos]
    exact⟨_,fun h=>(by cases hn' h trivial),.inl ⟨rfl,rfl,by simp;rfl⟩⟩
  |false=>
   rw[hm,if_neg (by decide)]at hsk;rcases ht' with rfl|⟨a,p,rfl⟩
   .simp (maxSteps:=9^7) (disch:=try exact zd) [hnd,hcb',hsk,hrow,-getElem?_pos]
    exact⟨[(1091,some (.arr 1 (wr (Ao vs)) vs.length))],fun _=>⟨_,rfl⟩,.inr ⟨rfl,rfl,by simp⟩⟩
   .simp (maxSteps:=9^7) (disch:=try exact zd) [hnd,hcb',hsk,hrow,-getElem?_pos]
    exact⟨_,fun h=>(by cases hn' h trivial),.inr ⟨rfl,rfl,by simp;rfl⟩⟩
 have hcode:Gy=.block 1 (.seq Pp (.seq (.block 2 (.loop F6)) N2)):=rfl;rw[hcode];unfold Pp;rcases ht with rfl|⟨a,rfl⟩<;>rcases h46 with rfl|rfl <;>
  simp(maxSteps:=9^7) (disch:=try exact zd) [h126,hw,-getElem?_pos] <;>
  exact wp_mono hvl after
theorem Zbu (L:List Tok)(hL:L.length<=4000)(R:Rd)(hR:FH A L 76 R)(P:Int)(x:Exp):∀(n:Nat)(I:Nat)(ls ms:List (ArmH×Exp))(r:List Tok)(t:List (Nat×Option Obj))(x46:List (Nat×V)),I<=L.length->ls.length+n<=4001->Gv R n (L.drop I)=some (ms,r)->
 (x46=[]\/x46=[(46,Aa false)])->(t=[]\/∃a,t=[(1091,some a)])->
 ∃J,J<=L.length/\L.drop J=r/\wp (K A) (.loop Gy) (fun ex st=>ex=.exit 0/\∃t',st=⟨[(0,.sc (.ptr 0 0)),(4,.sc (.ptr 64 0)),(5,.sc (.ptr 448 0)),(46,Aa true)],Db L J P x (ls++ms) t'⟩)
  ⟨(0,.sc (.ptr 0 0))::(4,.sc (.ptr 64 0))::(5,.sc (.ptr 448 0))::x46,Db L I P x ls t⟩:=by
 intro n
 induction n with
 |zero=>intro I ls ms r t x46 _ _ h;cases h
 |succ n ih=>
  intro I ls ms r t x46 hI hls h h46 ht;cases hd:L.drop I with
  |nil=>rw[hd]at h;cases h
  |cons tk r0=>
   rw[hd]at h;simp only[Gv]at h;have hI1:=(BW hd).2.2;by_cases h2:tk.kind=2
   .rw [if_pos h2] at h
    cases hv:(AU r0).2 with
    |nil=>rw[hv]at h;cases h
    |cons d r2=>
     rw[hv]at h;simp only at h;by_cases hdot:isM d [46]=true
     .rw [if_pos hdot] at h
      cases hb:R r2 with
      |none=>rw[hb]at h;cases h
      |some p=>
       obtain⟨b,q⟩:=p;rw[hb]at h;cases q with
       |nil=>cases h
       |cons e r3=>
        simp only at h;obtain⟨J,hJ,hdJ,hw⟩:=UM (A:=A) L hL R hR P x ls I tk d e r0 r2 r3 b t x46 hI h46 (by omega) hd h2 hv hdot hb ht;by_cases hm:isM e [124]=true
        .rw [if_pos hm] at h
         by_cases hz:(AU r0).1=[]
         .rw [if_pos hz] at h
          cases hq:Gv R n r3 with
          |none=>rw[hq]at h;cases h
          |some p=>
           obtain⟨ms',r4⟩:=p;rw[hq]at h;obtain⟨rfl,rfl⟩:=qaZ (qV h);obtain⟨_,hr3,hJ1⟩:=BW hdJ;have nxt:∀a,∃J2,J2<=L.length/\L.drop J2=r4/\wp (K A) (.loop Gy) (fun ex st=>ex=.exit 0/\∃t',st=⟨[(0,.sc (.ptr 0 0)),(4,.sc (.ptr 64 0)),(5,.sc (.ptr 448 0)),(46,Aa true)],Db L J2 P x ((ls++[(⟨tk.pos,tk.text,(AU r0).1⟩,b)])++ms') t'⟩)
            ⟨(0,.sc (.ptr 0 0))::(4,.sc (.ptr 64 0))::(5,.sc (.ptr 448 0))::[(46,Aa false)],Db L (J+1) P x (ls++[(⟨tk.pos,tk.text,(AU r0).1⟩,b)]) [(1091,some a)]⟩:=fun a=>
            ih (J+1) (ls++[(⟨tk.pos,tk.text,(AU r0).1⟩,b)]) ms' r4 [(1091,some a)] [(46,Aa false)] hJ1 (by simp;omega) (by rw[hr3];exact hq) (.inr rfl) (.inr ⟨a,rfl⟩)
           have hJ2:∀J2,J2<=L.length->L.drop J2=r4->J2=L.length-r4.length:=fun J2 h1 h2=>by rw[<-h2,qaa];omega
           obtain⟨K2,hK,hdK,_⟩:=nxt (.box []);refine⟨K2,hK,hdK,CF (wp_mono hw ?_)⟩;rintro ex st ⟨t',h1,⟨_,rfl,rfl⟩|⟨h,_⟩⟩
           .obtain ⟨a,rfl⟩:=h1 hz
            obtain⟨K3,hK3,hdK3,hw3⟩:=nxt a;have:K3=K2:=(by rw[hJ2 K3 hK3 hdK3,hJ2 K2 hK hdK]);subst this;rw[qW]at hw3;exact .inl ⟨rfl,hw3⟩
           .rw[hm]at h;cases h
         .rw[if_neg hz]at h;cases h
        .rw [if_neg hm] at h
         obtain⟨rfl,rfl⟩:=qaZ (qV h);refine⟨J,hJ,hdJ,CF (wp_mono hw ?_)⟩;rintro ex st ⟨t',_,⟨h,_⟩|⟨_,rfl,rfl⟩⟩
         .exact absurd h hm
         .exact .inr ⟨(fun q=>by cases q),rfl,t',rfl⟩
     .rw[if_neg hdot]at h;cases h
   .rw[if_neg h2]at h;cases h
theorem VZ (L:List Tok)(hL:L.length<=4000)(R:Rd)(hR:FH A L 76 R)(P:Int)(I:Nat)(x:Exp)(o e:Tok)(r1 r2:List Tok)(ms:List (ArmH×Exp))(hI:I<=L.length)(hx:R (L.drop I)=some (x,o::r1))(ho:isM o [111,102]=true)
 (hm:Gv R (r1.length+1) r1=some (ms,e::r2)) (he:isM e [101,110,100]=true):
 ∃J,J<=L.length/\L.drop J=r2/\(K A).call 130 [.sc (.ptr 0 0),intV P] [rdO L I]=some (expV (.mk 8 P [] 0 [x] ms tz),[rdO L J]):=by
 obtain⟨J1,hJ1,hdJ1,hcx⟩:=hR I x (o::r1) hI hx;obtain⟨ho1,hr1,hJ2⟩:=BW hdJ1;have hl1:r1.length<=4000:=by rw[<-hr1,qaa];omega
 have hno:=C7 (A:=A) L J1 [111,102] (by omega) hJ1 (by rw[AX ho1,ho]);obtain⟨J3,hJ3,hdJ3,hw⟩:=Zbu (A:=A) L hL R hR P x (r1.length+1) (J1+1) [] ms (e::r2) [] [] hJ2 (by simp;omega) (by rw[hr1];exact hm) (.inl rfl) (.inl rfl);obtain⟨he1,hr2,hJ4⟩:=BW hdJ3;have hne:=C7 (A:=A) L J3 [101,110,100] (by omega) hJ3 (by rw[AX he1,he]);refine⟨J3+1,hJ4,hr2,fnO v130 ?_⟩;unfold v130
 simp(maxSteps:=9^7) (disch:=try exact zd) [hcx,hno,-getElem?_pos];refine wp_mono hw ?_;rintro ex st ⟨rfl,t',rfl⟩;simp(maxSteps:=9^7) (disch:=try exact zd) [hne,-getElem?_pos];rfl
theorem ZO (L:List Tok)(hL:L.length<=4000)(R:Rd)(hR:FH A L 76 R)(I:Nat)(t v d:Tok)(r1 r2:List Tok)(b:Exp)(hI:I<=L.length)(hd:L.drop I=t::v::d::r1)(ht:isM t [92]=true)(hv:v.kind=1)(hdot:isM d [46]=true)(hb:R r1=some (b,r2)):
 ∃J,J<=L.length/\L.drop J=r2/\(K A).call 76 [.sc (.ptr 0 0)] [rdO L I]=some (expV (.mk 4 t.pos v.text 0 [b] [] tz),[rdO L J]):=by
 obtain⟨htI,hd1,hI1⟩:=BW hd;obtain⟨hvI,hd2,hI2⟩:=BW hd1;obtain⟨hdI,hd3,hI3⟩:=BW hd2;obtain⟨J,hJ,hdJ,hcb⟩:=hR (I+1+1+1) b r2 hI3 (by rw[hd3];exact hb);refine⟨J,hJ,hdJ,fnO v76 ?_⟩;have h126:=Fl (A:=A) L I (by omega);rw[Et htI]at h126;have s1:=JJ (A:=A) L I [92] (by omega) hI (by rw[AX htI,ht]);have w1:=Dw (A:=A) L (I+1) 1 v (by omega) hvI hv
 have n1:=C7 (A:=A) L (I+1+1) [46] (by omega) (by omega) (by rw[AX hdI,hdot]);have hrow:wc (Exp.mk 4 t.pos v.text 0 [b] [] tz).row=[.c (.int .i64 4),.c (.int .i64 t.pos),.c (.str v.text),zi,.c (.sl [b.row]),.c (.sl []),zi,zs,zi,zi,.c (.sl [])]:=rfl;simp[rdO]at w1 n1 hcb;rw[show expV (.mk 4 t.pos v.text 0 [b] [] tz)=.ag (wc (Exp.mk 4 t.pos v.text 0 [b] [] tz).row)from rfl,hrow];unfold v76
 simp(maxSteps:=9^7) (disch:=try exact zd) [h126,s1,w1,n1,hcb,-getElem?_pos]
 trace_state
theorem RN (L:List Tok)(hL:L.length<=4000)(hN:∀t∈L,t.kind=3->NumT t.text):∀n,FH A L 76 (rdE n):=by
 intro n
 induction n with
 |zero=>intro I e r _ h;cases h
 |succ n ih=>
  intro I e r hI h;cases hd:L.drop I with
  |nil=>rw[hd]at h;cases h
  |cons t r0=>
   rw[hd]at h;obtain⟨htI,hr0,hI1⟩:=BW hd;simp only[rdE]at h;by_cases e1:isM t [92]=true
   .rw [if_pos e1] at h
    match r0,h with
    |v::d::r1,h=>
     simp only at h;by_cases hvd:v.kind=1/\isM d [46]=true
     .rw [if_pos hvd] at h
      cases hb:rdE n r1 with
      |none=>rw[hb]at h;cases h
      |some p=>
       obtain⟨b,r2⟩:=p;rw[hb]at h;obtain⟨rfl,rfl⟩:=qaZ (qV h);exact ZO L hL (rdE n) ih I t v d r1 r2 b hI hd e1 hvd.1 hvd.2 hb
     .rw[if_neg hvd]at h;cases h
    |[_],h=>cases h
    |[],h=>cases h
   .rw [if_neg e1] at h
    rw[Bool.not_eq_true]at e1;have s1:=Ey (A:=A) L I [92] (by omega) hI (by rw[AX htI,e1]);have h126:=Fl (A:=A) L I (by omega);rw[Et htI]at h126;by_cases e2:isM t [108,101,116]=true
    .rw[if_pos e2]at h;cases h
    .rw [if_neg e2] at h
     rw[Bool.not_eq_true]at e2;have s2:=Ey (A:=A) L I [108,101,116] (by omega) hI (by rw[AX htI,e2]);by_cases e3:isM t [99,97,115,101]=true
     .rw [if_pos e3] at h
      have s3:=JJ (A:=A) L I [99,97,115,101] (by omega) hI (by rw[AX htI,e3]);cases hx:rdE n r0 with
      |none=>rw[hx]at h;cases h
      |some p=>
       obtain⟨x,q⟩:=p;rw[hx]at h;cases q with
       |nil=>cases h
       |cons o r1=>
        simp only at h;by_cases ho:isM o [111,102]=true
        .rw [if_pos ho] at h
         cases hm:Gv (rdE n) (r1.length+1) r1 with
         |none=>rw[hm]at h;cases h
         |some p=>
          obtain⟨ms,q⟩:=p;rw[hm]at h;cases q with
          |nil=>cases h
          |cons e' r2=>
           simp only at h;by_cases he:isM e' [101,110,100]=true
           .rw [if_pos he] at h
            obtain⟨rfl,rfl⟩:=qaZ (qV h);obtain⟨J,hJ,hdJ,hc⟩:=VZ (A:=A) L hL (rdE n) ih t.pos (I+1) x o e' r1 r2 ms hI1 (by rw[hr0];exact hx) ho hm he;simp[rdO]at hc;refine⟨J,hJ,hdJ,fnO v76 ?_⟩;unfold v76;simp(maxSteps:=9^7) (disch:=try exact zd) [h126,s1,s2,s3,hc,-getElem?_pos]
           .rw[if_neg he]at h;cases h
        .rw[if_neg ho]at h;cases h
     .rw [if_neg e3] at h
      rw[Bool.not_eq_true]at e3;have s3:=Ey (A:=A) L I [99,97,115,101] (by omega) hI (by rw[AX htI,e3]);have hA:=ZbC (A:=A) L hL hN (rdE n) ih;cases hq:rdA (rdE n) (t::r0)with
      |none=>rw[hq]at h;cases h
      |some p=>
       obtain⟨a,r1⟩:=p;rw[hq]at h;simp only at h;obtain⟨J1,hJ1,hdJ1,hca⟩:=hA I a r1 hI (by rw[hd];exact hq);obtain⟨J,hJ,hdJ,hw⟩:=Vf (A:=A) L hL (rdE n) hA (r1.length+1) J1 a e r [] hJ1 (by rw[hdJ1];exact h) (.inl rfl);refine⟨J,hJ,hdJ,fnO v76 ?_⟩;unfold v76;simp(maxSteps:=9^7) (disch:=try exact zd) [h126,s1,s2,s3,hca,-getElem?_pos];refine wp_mono hw ?_;rintro ex st ⟨rfl,t',rfl⟩
       simp(maxSteps:=9^7) (disch:=try exact zd) [-getElem?_pos]
end Go.Vs.Tryz
namespace Go.Vs
open Go
section
variable {C:Ctx}
theorem Za7 {b:VCode}{Q:Ex->St->Prop}{s:St}(s1:St)(h1:wp C b (fun e s'=>e=.normal/\s'=s1) s)(h2:wp C (.loop b) Q s1):wp C (.loop b) Q s:=by
 refine CF (wp_mono h1 ?_);rintro e s' ⟨rfl,rfl⟩;exact .inl ⟨rfl,h2⟩
theorem Dj {b:VCode}{Q:Ex->St->Prop}{s:St}(h:wp C b (fun e s'=>e≠.normal/\Q e s') s):wp C (.loop b) Q s:=CF (wp_mono h fun _ _ h=>.inr h)
end
end Go.Vs
namespace Go.Vs.Tryz
open Go Go.Vs
variable {A:Ab}
abbrev Pl (o:Ab):Prop:=∀(f:FuncId)(args:List V)(objs:List Obj)(rv:V)(objs':List Obj),o f args objs=some (rv,objs')->FnOk Go.Proofs.Tryz.prog gl0 f args objs rv objs'
theorem EZ {o0:Ab}(hO:Pl o0){f:FuncId}{vf:VFun}{args:List V}{objs:List Obj}{rv:V}{objs':List Obj}(hT:T2 f=some vf)(hn:args.length=vf.nparams)(ho:objs.length<=64)
 (h:wp ⟨o0,gl0⟩ vf.body (fun e s=>e=.ret/\BS vf.keep objs.length vf.results s=some (rv,objs')) ⟨A2 0 args,A2 0 (objs.map some)⟩):FnOk Go.Proofs.Tryz.prog gl0 f args objs rv objs':=by
 obtain⟨n,e,s,h1,rfl,h2⟩:=h;refine PK (gl:=gl0) (o0:=o0) (n:=n) follows hO (Sz f vf hT) ⟨hn,qO ho⟩ ?_;rw[h1];exact h2
theorem ZM (s:Str):(K A).call 115 [strV s] []=some (tyV (.mk 5 s 0 0 []),[]):=by
 refine fnO v115 ?_;unfold v115;simp(maxSteps:=9^7) (disch:=try exact zd) [Ty.row]
theorem Zan (s:Str):FnOk Go.Proofs.Tryz.prog gl0 90 [strV s,.sc .nil] [] (.ag [.c (.int .i64 4),.c (.str s),zi,zi,.nil]) []:=by
 refine EZ (o0:=fun _ _ _=>none) (fun _ _ _ _ _ h=>by cases h) (vf:=v90) (by kernel_rfl) rfl (by simp) ?_;unfold v90;simp(maxSteps:=9^7) (disch:=try exact zd)
theorem Hr (L:List Tok)(I:Nat)(hL:L.length<=4000):(K A).call 171 [.sc (.ptr 0 0)] [rdO L I]=some (Aa (Ew L I 1||Ew L I 2||isAt L I [40]),[rdO L I]):=by
 have h1:=C0 (A:=A) L I 1 (by omega);have h2:=C0 (A:=A) L I 2 (by omega);have h3:=IL (A:=A) L I [40] (by omega);refine fnO v171 ?_;unfold v171;cases e1:Ew L I 1<;>cases e2:Ew L I 2<;>cases e3:isAt L I [40]<;>rw[e1]at h1<;>rw[e2]at h2<;>rw[e3]at h3 <;>
  simp(maxSteps:=9^7) (disch:=try exact zd) [h1,h2,h3]
theorem Su (L:List Tok)(I:Nat)(t:Tok)(hL:L.length<=4000)(ht:L[I]?=some t)(h1:t.kind=1):(K A).call 172 [.sc (.ptr 0 0)] [rdO L I]=some (tyV (.mk 5 t.text 0 0 []),[rdO L (I+1)]):=by
 have hk:=C0 (A:=A) L I 1 (by omega);rw[BF ht,decide_eq_true h1]at hk;have hw:=Dw (A:=A) L I 1 t (by omega) ht h1;have hn:=ZM (A:=A) t.text;refine fnO v172 ?_;unfold v172;simp(maxSteps:=9^7) (disch:=try exact zd) [hk,hw,hn]
noncomputable def spO (A:Ab)(f0:FuncId)(a0:List V)(o0:List Obj)(r0:V×List Obj):Ab:=fun f a o=>open Classical in if f=f0/\a=a0/\o=o0 then some r0 else (K A).call f a o
abbrev EQ (A:Ab):Prop:=∀f args objs rv objs',skip f=true->A f args objs=some (rv,objs')->FnOk Go.Proofs.Tryz.prog gl0 f args objs rv objs'
theorem He (hA:EQ A){f0:FuncId}{a0:List V}{o0:List Obj}{r0:V×List Obj}(h0:FnOk Go.Proofs.Tryz.prog gl0 f0 a0 o0 r0.1 r0.2):Pl (spO A f0 a0 o0 r0):=by
 intro f a o rv o' h;unfold spO at h;split at h
 .rename_i hq
  obtain⟨rfl,rfl,rfl⟩:=hq;cases h;exact h0
 .exact K_ok hA h
theorem G5 {f0:FuncId}{a0:List V}{o0:List Obj}{r0:V×List Obj}:spO A f0 a0 o0 r0 f0 a0 o0=some r0:=if_pos ⟨rfl,rfl,rfl⟩
theorem H0 {f0:FuncId}{a0:List V}{o0:List Obj}{r0:V×List Obj}{f:FuncId}{a:List V}{o:List Obj}(h:f≠f0):spO A f0 a0 o0 r0 f a o=(K A).call f a o:=if_neg fun q=>h q.1
theorem Xr {f0:FuncId}{a0:List V}{o0:List Obj}{r0:V×List Obj}{f:FuncId}{a:List V}{o:List Obj}(h:o≠o0):spO A f0 a0 o0 r0 f a o=(K A).call f a o:=if_neg fun q=>h q.2.2
theorem Vz (hA:EQ A)(L:List Tok)(I:Nat)(t u v:Tok)(hL:L.length<=4000)(ht:L[I]?=some t)(h1:t.kind=2)(hu:L[I+1]?=some u)(h2:u.kind=1)(hv:L[I+2]?=some v)(h3:isM v [41]=true):
 FnOk Go.Proofs.Tryz.prog gl0 173 [.sc (.ptr 0 0)] [rdO L I] (tyV (.mk 4 t.text 0 0 [.mk 5 u.text 0 0 []])) [rdO L (I+2)]:=by
 have hI2:I+2<L.length:=(qf.1 hv).1;have S:=fun {f:FuncId} {a:List V} {o:List Obj} (h:f≠90)=>H0 (A:=A) (f0:=90) (a0:=[strV t.text,.sc .nil]) (o0:=[]) (r0:=(.ag [.c (.int .i64 4),.c (.str t.text),zi,zi,.nil],[])) (f:=f) (a:=a) (o:=o) h;have k2:=C0 (A:=A) L I 2 (by omega);rw[BF ht,decide_eq_true h1,<-S (by decide)]at k2;have hw:=Dw (A:=A) L I 2 t (by omega) ht h1;rw[<-S (by decide)]at hw
 have hc:=G5 (A:=A) (f0:=90) (a0:=[strV t.text,.sc .nil]) (o0:=[]) (r0:=(.ag [.c (.int .i64 4),.c (.str t.text),zi,zi,.nil],[]));have ha:=Hr (A:=A) L (I+1) hL;rw[BF hu,decide_eq_true h2,Bool.true_or,Bool.true_or,<-S (by decide)]at ha;have hat:=Su (A:=A) L (I+1) u hL hu h2;rw[show I+1+1=I+2 from rfl,<-S (by decide)]at hat;have hb:=Hr (A:=A) L (I+2) hL;have hk5:=QO h3
 rw[BF hv,BF hv,AX hv,Fz h3 (by decide),decide_eq_false (by omega),decide_eq_false (by omega),<-S (by decide)]at hb;have hs:=Ey (A:=A) L (I+2) [45,62] (by omega) (by omega) (by rw[AX hv];exact Fz h3 (by decide));rw[<-S (by decide)]at hs;simp[rdO]at k2 hw ha hat hb hs;have hO:=He hA (Zan t.text) (r0:=(_,_));clear S
 generalize spO A 90 [strV t.text,.sc .nil] [] (.ag [.c (.int .i64 4),.c (.str t.text),zi,zi,.nil],[])=O at *
 refine EZ hO (vf:=v173) (by kernel_rfl) rfl (by simp) ?_;unfold v173;simp(maxSteps:=9^7) (disch:=try exact zd) [k2,hw,hc];have hrow:wc (Ty.mk 5 u.text 0 0 []).row=[.c (.int .i64 5),.c (.str u.text),zi,zi,.c (.sl [])]:=rfl;have hrow2:wc (Ty.mk 4 t.text 0 0 [.mk 5 u.text 0 0 []]).row=[.c (.int .i64 4),.c (.str t.text),zi,zi,.c (.sl [(Ty.mk 5 u.text 0 0 []).row])]:=rfl
 refine Za7 ⟨[(0,.sc (.ptr 0 0)),(2,.sc (.ptr 64 0)),(3,.sc (.ptr 128 0))],[(0,some (rdO L (I+2))),(64,some (.box [zi,zs,zi,zi,.nil])),(128,some (.box [.c (.int .i64 4),.c (.str t.text),zi,zi,.arr 517 1])),(517,some (.arr 5 [wc (Ty.mk 5 u.text 0 0 []).row] 0)),(960,some (.arr 5 [wc (Ty.mk 5 u.text 0 0 []).row] 0))]⟩ ?_ ?_
 .unfold Ls
  simp(maxSteps:=9^7) (disch:=try exact zd) [ha,hat]
 .refine Dj ?_
  unfold Ls;simp(maxSteps:=9^7) (disch:=try exact zd) [hb,hs];rfl
theorem YK (hA:EQ A)(L:List Tok)(I:Nat)(c t u v:Tok)(hL:L.length<=4000)(hcI:L[I]?=some c)(hc:isM c [40]=true)(ht:L[I+1]?=some t)(h1:t.kind=2)(hu:L[I+2]?=some u)(h2:u.kind=1)(hv:L[I+3]?=some v)(h3:isM v [41]=true):
 FnOk Go.Proofs.Tryz.prog gl0 172 [.sc (.ptr 0 0)] [rdO L I] (tyV (.mk 4 t.text 0 0 [.mk 5 u.text 0 0 []])) [rdO L (I+4)]:=by
 have hI2:I+3<L.length:=(qf.1 hv).1;have hk5:=QO hc;have hty:=Vz hA L (I+1) t u v hL ht h1 hu h2 hv h3;have S:=fun {f:FuncId} {a:List V} {o:List Obj} (h:f≠173)=>H0 (A:=A) (f0:=173) (a0:=[.sc (.ptr 0 0)]) (o0:=[rdO L (I+1)]) (r0:=(tyV (.mk 4 t.text 0 0 [.mk 5 u.text 0 0 []]),[rdO L (I+3)])) (f:=f) (a:=a) (o:=o) h;have k1:=C0 (A:=A) L I 1 (by omega)
 rw[BF hcI,decide_eq_false (by omega),<-S (by decide)]at k1;have k2:=C0 (A:=A) L I 2 (by omega);rw[BF hcI,decide_eq_false (by omega),<-S (by decide)]at k2;have n1:=C7 (A:=A) L I [40] (by omega) (by omega) (by rw[AX hcI,hc]);rw[<-S (by decide)]at n1;have hcc:=G5 (A:=A) (f0:=173) (a0:=[.sc (.ptr 0 0)]) (o0:=[rdO L (I+1)]) (r0:=(tyV (.mk 4 t.text 0 0 [.mk 5 u.text 0 0 []]),[rdO L (I+3)]))
 have n2:=C7 (A:=A) L (I+3) [41] (by omega) (by omega) (by rw[AX hv,h3]);rw[show I+3+1=I+4 from rfl,<-S (by decide)]at n2;have hO:=He hA hty (r0:=(_,_));clear S;simp only[show I+1+2=I+3 from rfl]at hO;generalize spO A 173 [.sc (.ptr 0 0)] [rdO L (I+1)] (tyV (.mk 4 t.text 0 0 [.mk 5 u.text 0 0 []]),[rdO L (I+3)])=O at *
 simp[rdO]at k1 k2 n1 hcc n2;refine EZ hO (vf:=v172) (by kernel_rfl) rfl (by simp) ?_;unfold v172;simp(maxSteps:=9^7) (disch:=try exact zd) [k1,k2,n1,hcc,n2]
end Go.Vs.Tryz
