/- Chapter 11's laws on substitution, walked: free variables; alpha equality. (Parts of one proof, put together.) -/
import Derived.Test.YtlcncicmkkelcaaGreatDoorRJa
import Derived.Test.YtlcncicmkkelcaaGreatDoorX0a
set_option linter.unusedSimpArgs false
set_option linter.unusedVariables false
set_option linter.deprecated false
set_option maxHeartbeats 32000000
namespace Go.Vs.Tryz
open Go Go.Vs
variable {A:Zac}
theorem ZpT {x:Str}{free:List Str}{e:Exp}(hs:shp e)(hp:properP e)(hn:nmL e)(hl:e.weight+free.length≤67108864):nmL (ZcQ x free e):=by
 have hal:=Zeq e hs.wf;unfold ZcQ
 by_cases h:e.kind=4∨e.kind=6∨e.kind=7
 ·rw [if_pos h];obtain ⟨ha,hc⟩:=Zbw (by omega) hs.one;unfold ZcP;split
  ·exact hn
  ·have hf:=ZdY 0 (allP e++free++[x]) (by simp;omega);generalize ZaX 0 (allP e++free++[x])=to at hf ⊢;intro s hs';rcases Zat.1 hs' with h1|⟨i,y,hy,h1⟩
   ·rw [h1,ZfI];exact hf
   ·have hc':∀ ks,(Exp.mk e.kind e.pos to e.num ks e.arms e.ty).children=ks:=fun ks=>by rw [Za3,ha];simp
    rw [hc'] at hy;have hlt:=(List.getElem?_eq_some_iff.1 hy).1;simp only [List.length_map,List.length_zipIdx] at hlt;obtain ⟨z,hz⟩:=Zaa hlt;simp only [List.getElem?_map,List.getElem?_zipIdx,hz,Option.map_some,Nat.zero_add,Option.some.injEq] at hy;have hnz:nmL z:=hn.child (i:=i) (by rw [hc];exact hz);rcases h1 with h1|h1
    ·rw [ZdH] at h1;split at h1
     ·rw [List.mem_singleton] at h1;exact h1▸hf
     ·rw [if_neg (by omega)] at h1;simp at h1
    ·subst hy;split at h1
     ·exact hnz s h1
     ·exact ZiB hnz hf s h1
 ·rw [if_neg h]
  by_cases h8:e.kind=8
  ·rw [if_pos h8];have hk1:=hs.one.1.1 h8
   have harm:∀ p∈e.arms,nmL (armP x free p).2∧∀ s∈(armP x free p).1.vars,s.length≤1000:=by
    intro p hm;obtain ⟨j,hj⟩:=List.mem_iff_getElem?.1 hm;have hnp:nmL p.2:=hn.child (Zdk hj)
    have hv:∀ s∈p.1.vars,s.length≤1000:=fun s hs'=>by
     refine hn s (Zat.2 (.inr ⟨e.kids.length+j,p.2,Zdk hj,.inl ?_⟩));rw [ZaH,if_neg (by omega),if_pos ⟨h8,by omega⟩,hk1,show 1+j-1=j by omega,hj];exact hs'
    have hvl:=Exp.vars_le hm;have hwl:=Exp.child_lt (Zc7 hm);unfold armP;split
    ·exact ⟨hnp,hv⟩
    ·rename_i hx;exact Zft (hp.one p hm) hx (hs.child (Zc7 hm)) (hp.child (Zc7 hm)) (by omega) hnp hv p.1.vars.length (Nat.le_refl _)
   intro s hs';rcases Zat.1 hs' with h1|⟨i,y,hy,h1⟩
   ·rw [h1,ZfI];exact hn _ (Zat.2 (.inl rfl))
   ·rw [Za3] at hy;rcases Nat.lt_or_ge i e.kids.length with hk|hk
    ·rw [List.getElem?_append_left hk] at hy;rcases h1 with h1|h1
     ·rw [ZdH,if_neg (by omega),if_neg (by omega)] at h1;simp at h1
     ·exact hn.child (i:=i) (Zji hy) s h1
    ·rw [List.getElem?_append_right hk,List.getElem?_map] at hy;obtain ⟨q,hq,rfl⟩:=Option.map_eq_some_iff.1 hy;have hq':=hq;rw [List.getElem?_map] at hq;obtain ⟨p,hp',rfl⟩:=Option.map_eq_some_iff.1 hq;obtain ⟨g1,g2⟩:=harm p (List.mem_of_getElem? hp');rcases h1 with h1|h1
     ·rw [ZdH,if_neg (by omega),if_pos ⟨h8,by omega⟩,show i-1=i-e.kids.length by omega,hq'] at h1;exact g2 s h1
     ·exact g1 s h1
  ·rw [if_neg h8];exact hn
theorem Zlh {x:Str}{b:Exp}(hb:nmL b)(hbl:b.weight≤16777216):∀ (n:Nat) (e:Exp),e.weight≤n→e.weight≤16777216→shp e→properP e→nmL e→nmL (subN n e x b)
 | 0,e,_,_,_,_,hn=>hn
 | n+1,e,h,hl,hs,hp,hn=>by
  rw [Zdf]
  by_cases hk:e.kind=1
  ·rw [if_pos hk];split
   ·exact hb
   ·exact hn
  ·rw [if_neg hk];have hP:=ZfO (x:=x) (b:=b) hs hp;have hfl:=ZcK b;have hN:=ZpT (x:=x) (free:=Zag b) hs hp hn (by omega);generalize ZcQ x (Zag b) e=e' at hP hN ⊢;intro s hs';rcases Zat.1 hs' with h1|⟨i,y,hy,h1⟩
   ·exact hN s (Zat.2 (.inl h1))
   ·rw [(Zbo (subC_len n e' x b)).2.2.1] at hy;rw [Zev (subC_len n e' x b)] at h1;obtain ⟨x1,hx1⟩:=Zaa (l:=e'.children) (i:=i) (by have:=(List.getElem?_eq_some_iff.1 hy).1;rw [subC_len,←e'.children_len] at this;exact this);obtain ⟨x0,hx0⟩:=Zaa (l:=e.children) (i:=i) (by rw [←ZbL hP];exact (List.getElem?_eq_some_iff.1 hx1).1);have hK:=hP.kids i x0 x1 hx0 hx1;have hlt:=Exp.child_lt (List.mem_of_getElem? hx0);have hw:=hK.weight;rw [ZdD hx1] at hy;cases hy;rcases h1 with h1|h1
    ·exact hN s (Zat.2 (.inr ⟨i,x1,hx1,.inl h1⟩))
    ·split at h1
     ·exact hN s (Zat.2 (.inr ⟨i,x1,hx1,.inr h1⟩))
     ·exact Zlh hb hbl n x1 (by omega) (by omega) hK.shape hK.proper (hN.child hx1) s h1
theorem ZkN {x:Str}{e b:Exp}(hs:shp e)(_:shp b)(hp:properP e)(hn:nmL e)(hb:nmL b)(hl:e.weight≤16777216)(hbl:b.weight≤16777216)(_:x.length≤1000):nmL (subP e x b):=Zlh hb hbl _ e (Nat.le_refl _) hl hs hp hn
theorem instR.tyBd (a:Exp):∀ (c:Exp) (V:Rep),instR a c V→tyBd a→(∀ s d,V s d→tyBd d)→tyBd c:=by
 induction a using Exp.ind with
 | h a ih =>
  intro c V h ht hv
  by_cases hk:a.kind=1
  ·exact hv _ _ (h.var hk)
  ·obtain ⟨h1,h2,h3,h4⟩:=h.node hk;rw [Zc6];refine ⟨h1.2.2.1▸ht.one,fun y hy => ?_⟩;obtain ⟨i,hi⟩:=List.mem_iff_getElem?.1 hy;obtain ⟨x,hx⟩:=Zaa (l:=a.children) (i:=i) (by rw [h1.children];exact (List.getElem?_eq_some_iff.1 hi).1);refine ih x (List.mem_of_getElem? hx) y _ (h4 i x y hx hi) (ht.child (List.mem_of_getElem? hx)) fun s d hd => ?_;rcases hd with ⟨_,t,_,_,hvv⟩|⟨_,q,_⟩
   ·obtain ⟨_,_,_,ty,ks,am⟩:=hvv;rw [Zc6,ty];refine ⟨by decide,fun z hz => ?_⟩;simp [Exp.children,ks,am] at hz
   ·exact hv s d q
theorem ZlC {x:Str}{e b:Exp}(hs:shp e)(hp:properP e)(ht:tyBd e)(hb:tyBd b)(hsb:shp b:=by assumption):tyBd (subP e x b):=by
 refine instR.tyBd e _ _ (ZcE x b hsb e.weight e (Nat.le_refl _) hs hp) ht fun s d hd => ?_;unfold subV at hd;split at hd
 ·exact hd▸hb
 ·obtain ⟨_,_,_,ty,ks,am⟩:=hd;rw [Zc6,ty];refine ⟨by decide,fun z hz => ?_⟩;simp [Exp.children,ks,am] at hz
def names5:List Str:=[[120],[121],[122],[102],[118,49]]
theorem ZiO (bits:Int)(L:List Int)(n:Int)(ds7:List DataD)(h7:ds7.length=7)(hg:∀ d∈ds7,ZkG d)(hc7:Zfo ds7)(h27:Zly ds7)(h55:(K A).call 71 [] []=some (ZaS ds7,[]))(hf:(K A).call 19 [] []=some (Zah true,[])) :
 (K A).call 8 [intV bits,.sc (.c (.sl (Zbd L))),intV n] []=some (Zah true,[]):=by
 refine Zas (vf:=v8) (by kernel_rfl) rfl (by simp) ?_;have h8:(K A).call 13 [.sc (.c (.sl (Zbd L)))] []=some (Zah (decide (L.length≤60)),[]):=few8 L;unfold v8
 by_cases hL:L.length≤60
 case neg=>simp (disch:=first|omega|(simp;done)|(simp;omega)) [hf,h8,hL]
 have hw4:wS 4=281:=rfl;have hw3:wS 3=92:=rfl;have hw1:wS 1=8:=rfl;obtain ⟨_,⟨a,b,J,ds,hsub,hdsg,ha,haw,hb,hbw,hJ,rfl⟩,hm⟩:=Zsn (A:=A) bits L (by omega) h27 (Zox bits ds7 h7 hg h55);obtain ⟨_,⟨ds2,hsub2,hds2,rfl⟩,h23⟩:=Zox (A:=A) bits ds7 h7 hg h55;obtain ⟨_,⟨c,J2,hc,hcw,hJ2,rfl⟩,hr⟩:=ZoT (A:=A) L ds2 (by omega) hds2 (fun d hd=>h27 d (hsub2 d hd)) 1 J (by omega) hJ;have hcn:Zfo ds:=fun d hd=>hc7 d (hsub d hd);have hcn2:Zfo ds2:=fun d hd=>hc7 d (hsub2 d hd);obtain ⟨_,⟨va,hva,rfl⟩,hpa⟩:=ZgW (A:=A) a (by omega);obtain ⟨_,⟨vb,hvb,rfl⟩,hpb⟩:=ZgW (A:=A) b (by omega);obtain ⟨_,⟨vc,hvc,rfl⟩,hpc⟩:=ZgW (A:=A) c (by omega)
 cases va with
 | false=>simp (maxSteps:=4000000) (disch:=first|omega|(simp;done)|(simp;omega)) [hf,h8,hL,hm,hpa,-getElem?_pos]
 | true =>
  cases vb with
  | false=>simp (maxSteps:=4000000) (disch:=first|omega|(simp;done)|(simp;omega)) [hf,h8,hL,hm,hpa,hpb,-getElem?_pos]
  | true =>
   simp [Zbi,intV,ZaS] at hr hm h23
   cases vc with
   | false=>simp (maxSteps:=4000000) (disch:=first|omega|(simp;done)|(simp;omega)) [hf,h8,hL,hm,hpa,hpb,h23,hr,hpc,-getElem?_pos]
   | true =>
    have pa:=hva rfl;have pb:=hvb rfl;have pc:=hvc rfl;have sa:=ha.shp;have sb:=hb.shp;have sc:=hc.shp;have na:=ha.nmL hcn;have nb:=hb.nmL hcn;have nc:=hc.nmL hcn2;obtain ⟨_,⟨ka,_,rfl⟩,hra⟩:=Zjj (A:=A) a n ha.wf (by omega);obtain ⟨_,⟨kb,_,rfl⟩,hrb⟩:=Zjj (A:=A) b (IntKind.i64.wrap (n+1)) hb.wf (by omega);have hrl:∀ k,(Zdy k).length=2:=fun k=>rfl;have aa:=Zf0 a (Zdy ka) ha.wf;have ab:=Zf0 b (Zdy kb) hb.wf;have sa':=ZhQ (Zdy ka) sa;have sb':=ZhQ (Zdy kb) sb;have pa':=Ze5 (Zdy ka) ha.wf;have pb':=Ze5 (Zdy kb) hb.wf;have na':=ZhU (taken:=Zdy ka) ha.wf na (by rw [hrl];omega);have nb':=ZhU (taken:=Zdy kb) hb.wf nb (by rw [hrl];omega);have wa':=Zfu (Zdy ka) ha.wf;have wb':=Zfu (Zdy kb) hb.wf;have ta':=Zkw (Zdy ka) ha.wf ha.tyBd;generalize Zdq a (Zdy ka)=a' at *;generalize Zdq b (Zdy kb)=b' at *
    have key:∀ (x:Str) (e d:Exp),x.length≤1000→shp e→properP e→nmL e→shp d→properP d→nmL d→e.weight≤281*92→d.weight≤92*8 →
     (K A).call 31 [expV e,strV x,expV d] []=some (expV (subP e x d),[])∧shp (subP e x d)∧properP (subP e x d)∧(subP e x d).weight≤e.weight*d.weight:=by
     intro x e d hx se pe ne sd pd nd we wd;exact ⟨Zto (A:=A) e x d sd (by omega) nd hx (by omega) se pe ne,ZdE x d sd _ e (Nat.le_refl _) se pe,Zeu x d pd _ e (Nat.le_refl _) se pe,Zh8 x d _ e (Nat.le_refl _) se pe⟩
    obtain ⟨c1,s1,p1,w1⟩:=key [120] a b (by decide) sa pa na sb pb nb (by omega) (by omega);obtain ⟨c2,s2,p2,w2⟩:=key [120] a' b' (by decide) sa' pa' na' sb' pb' nb' (by omega) (by omega);have m1:a.weight*b.weight≤281*92:=Nat.mul_le_mul (by omega) (by omega);have m2:a'.weight*b'.weight≤281*92:=Nat.mul_le_mul (by omega) (by omega);have n1:=ZkN (x:=[120]) sa sb pa na nb (by omega) (by omega) (by decide);obtain ⟨c3,s3,p3,w3⟩:=key [121] (subP a [120] b) c (by decide) s1 p1 n1 sc pc nc (by omega) (by omega);obtain ⟨c4,s4,p4,w4⟩:=key [121] a c (by decide) sa pa na sc pc nc (by omega) (by omega);obtain ⟨c5,s5,p5,w5⟩:=key [121] b c (by decide) sb pb nb sc pc nc (by omega) (by omega);have m4:a.weight*c.weight≤281*8:=Nat.mul_le_mul (by omega) (by omega);have m5:b.weight*c.weight≤92*8:=Nat.mul_le_mul (by omega) (by omega);have n4:=ZkN (x:=[121]) sa sc pa na nc (by omega) (by omega) (by decide);have n5:=ZkN (x:=[121]) sb sc pb nb nc (by omega) (by omega) (by decide);obtain ⟨c6,s6,p6,w6⟩:=key [120] (subP a [121] c) (subP b [121] c) (by decide) s4 p4 n4 s5 p5 n5 (by omega) (by omega);have m3:(subP a [120] b).weight*c.weight≤(281*92)*8:=Nat.mul_le_mul (by omega) (by omega);have m6:(subP a [121] c).weight*(subP b [121] c).weight≤(281*8)*(92*8):=Nat.mul_le_mul (by omega) (by omega);have t1:=ZlC (x:=[120]) sa pa ha.tyBd hb.tyBd;have t3:=ZlC (x:=[121]) s1 p1 t1 hc.tyBd;obtain ⟨x1,i1,e1⟩:=Znp (A:=A) (subP a [120] b) (subP a' [120] b') s1.wf s2.wf t1 (by omega) (by omega);obtain ⟨x2,i2,e2⟩:=Znp (A:=A) (subP (subP a [120] b) [121] c) (subP (subP a [121] c) [120] (subP b [121] c)) s3.wf s6.wf t3 (by omega) (by omega);have f1:=Zrc (A:=A) c hc.wf (by omega);rw [ZiY c hc.wf] at f1;have f2:=has33 (A:=A) (Zag c) [120] (by have:=ZcK c;omega);rw [i1.get (ZmW sa sa' sb sb' pa pa' aa ab)] at e1
    by_cases hx:([120]:Str)∈Zag c
    ·simp (maxSteps:=4000000) (disch:=first|omega|(simp;done)|(simp;omega)) [hf,h8,hL,hm,hpa,hpb,h23,hr,hpc,hra,hrb,c1,c2,e1,f1,f2,hx,-getElem?_pos]
    ·rw [i2.get (Zpu (by decide) sa sb sc pa pb pc hx)] at e2;simp (maxSteps:=4000000) (disch:=first|omega|(simp;done)|(simp;omega)) [hf,h8,hL,hm,hpa,hpb,h23,hr,hpc,hra,hrb,c1,c2,c3,c4,c5,c6,e1,e2,f1,f2,hx,-getElem?_pos]
variable {A:Zac}
theorem con7f:Zfo ds7:=by
 intro d hd c hc;simp only [ds7,List.mem_cons,List.not_mem_nil,or_false] at hd;rcases hd with rfl|rfl|rfl|rfl|rfl|rfl|rfl<;>simp only [List.mem_cons,List.not_mem_nil,or_false] at hc
 ·rcases hc with rfl|rfl<;>exact ⟨by decide,⟨_,rfl,by decide,by decide⟩,by decide,by decide⟩
 ·rcases hc with rfl|rfl<;>exact ⟨by decide,⟨_,rfl,by decide,by decide⟩,by decide,by decide⟩
 ·rcases hc with rfl|rfl<;>exact ⟨by decide,⟨_,rfl,by decide,by decide⟩,by decide,by decide⟩
 ·rcases hc with rfl<;>exact ⟨by decide,⟨_,rfl,by decide,by decide⟩,by decide,by decide⟩
 ·rcases hc with rfl|rfl<;>exact ⟨by decide,⟨_,rfl,by decide,by decide⟩,by decide,by decide⟩
 ·rcases hc with rfl<;>exact ⟨by decide,⟨_,rfl,by decide,by decide⟩,by decide,by decide⟩
 ·rcases hc with rfl|rfl<;>exact ⟨by decide,⟨_,rfl,by decide,by decide⟩,by decide,by decide⟩
theorem small7:Zly ds7:=by
 intro d hd;simp only [ds7,List.mem_cons,List.not_mem_nil,or_false] at hd;rcases hd with rfl|rfl|rfl|rfl|rfl|rfl|rfl<;>exact ⟨by decide,by decide⟩
theorem Zhs (bits:Int)(L:List Int)(n:Int)(d7:List DataD)(_:d7.length=7)(_:∀ d∈d7,ZkG d)(h55:(K A).call 71 [] []=some (ZaS ds7,[]))(hf:(K A).call 19 [] []=some (Zah true,[])) :
 (K A).call 8 [intV bits,.sc (.c (.sl (Zbd L))),intV n] []=some (Zah true,[]):=ZiO bits L n ds7 rfl good7 con7f small7 h55 hf
end Go.Vs.Tryz
