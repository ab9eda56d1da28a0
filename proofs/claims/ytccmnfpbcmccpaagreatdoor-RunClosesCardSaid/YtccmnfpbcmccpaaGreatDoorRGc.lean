/- A part put in another's place, changed programs, walked. (Parts of one proof, put together.) -/
import Derived.Test.YtccmnfpbcmccpaaGreatDoorRCc
import Derived.Test.YtccmnfpbcmccpaaGreatDoorRFc
import Derived.Test.YtccmnfpbcmccpaaGreatDoorR4c
import Derived.Test.YtccmnfpbcmccpaaGreatDoorR5c
import Derived.Test.YtccmnfpbcmccpaaGreatDoorR1c
import Derived.Test.YtccmnfpbcmccpaaGreatDoorR0c
set_option linter.unusedSimpArgs false
set_option linter.unusedVariables false
set_option linter.deprecated false
set_option maxHeartbeats 16000000
namespace Go.Vs.Tryz
open Go Go.Vs
variable {A:Zac}
def wfT (e:Exp):Prop:=e.wf∧tyBd e
theorem mkE.wfT {ds:List DataD}{e:Exp}(h:mkE ds e):wfT e:=⟨h.wf,h.tyBd⟩
theorem rawE.wfT {ds:List DataD}{e:Exp}(h:rawE ds e):wfT e:=⟨h.wf,h.tyBd⟩
theorem wfT.child {e x:Exp}(h:wfT e)(hx:x∈e.children):wfT x:=⟨h.1.child hx,h.2.child hx⟩
theorem ZoR {e:Exp}{cs:List Exp}(hl:cs.length=e.kids.length+e.arms.length)(he:wfT e)(hc:∀ c∈cs,wfT c):wfT (Zeg e cs):=by
 obtain ⟨h1,h2,h3,h4⟩:=Zge hl
 refine ⟨?_,?_⟩
 ·rw [Exp.wf_eq,h3]
  exact ⟨⟨fun k=>by rw [h1];exact he.1.one.1 k,fun k=>List.length_eq_zero_iff.1 (by rw [h2,he.1.one.2.1 k];rfl),fun k=>List.length_eq_zero_iff.1 (by rw [h1,he.1.one.2.2 k];rfl)⟩,fun c hcm=>(hc c hcm).1⟩
 ·rw [ZcA,h3]
  exact ⟨he.2.one,fun c hcm=>(hc c hcm).2⟩
theorem ZkS {l:List Exp}{i:Nat}{x y:Exp}(hx:l[i]?=some x):((l.set i y).map Exp.weight).sum+x.weight=(l.map Exp.weight).sum+y.weight:=by
 induction l generalizing i with
 | nil=>cases hx
 | cons a r ih =>
  cases i with
  | zero =>
   simp only [List.getElem?_cons_zero,Option.some.injEq] at hx
   subst hx
   simp only [List.set_cons_zero,List.map_cons,List.sum_cons]
   omega
  | succ i =>
   have:=ih (i:=i) (by simpa using hx)
   simp only [List.set_cons_succ,List.map_cons,List.sum_cons]
   omega
theorem Zf8 {e x y:Exp}{i:Nat}(hx:e.children[i]?=some x):(Zeg e (e.children.set i y)).weight+x.weight=e.weight+y.weight:=by
 have hl:(e.children.set i y).length=e.kids.length+e.arms.length:=by rw [List.length_set,e.children_len]
 have:=ZkS (y:=y) hx
 rw [Zje hl,e.weight_eq]
 omega
def PutR (B:Nat)(r:V × List Obj):Prop:=∃ e b,wfT e∧e.weight≤B∧r=(.tu [expV e,ZaG b],[])
theorem put113 (x:Exp)(hx:wfT x)(hxw:x.weight≤1000000):∀ (path:List Int) (e:Exp),wfT e→e.weight≤1000000→path.length≤1000000 →
 ∃ r,PutR (e.weight+x.weight) r∧(K A).call 113 [expV e,Zci path,expV x] []=some r:=by
 intro path
 induction path with
 | nil =>
  intro e he hw _
  have hn:Zao []=[]:=rfl
  refine Zap _ (vf:=v113) (by kernel_rfl) rfl (by simp) ?_
  unfold v113
  simp (disch:=first|omega|(simp;done)|(simp;omega)) [hn,-getElem?_pos]
  exact ⟨x,true,hx,by omega,rfl⟩
 | cons k path ih =>
  intro e he hw hpl
  have hpl':path.length+1≤1000000:=by simpa using hpl
  have hp0:¬(path.length:Int)+1=0:=by omega
  have hle:=e.children_le
  have hcl:=e.children_len
  have hc:=Zch (A:=A) e (by omega)
  have hir:Zao (k::path)=ZcJ k::Zao path:=rfl
  have hir0:∀ k,([Cell.int .i64 k]::Zao path)[0]?=some [Cell.int .i64 k]:=fun _=>rfl
  have hirk:∀ k,ZcJ k=[.int .i64 k]:=fun _=>rfl
  have bad:PutR (e.weight+x.weight) (.tu [expV e,ZaG false],[]):=⟨e,false,he,by omega,rfl⟩
  refine Zap _ (vf:=v113) (by kernel_rfl) rfl (by simp) ?_
  unfold v113
  by_cases hk0:k<0
  ·simp (disch:=first|omega|(simp;done)|(simp;omega)) [hir,hir0,hirk,hp0,hc,hk0,-getElem?_pos]
   exact bad
  ·by_cases hk1:(e.kids.length:Int)+e.arms.length≤k
   ·simp (disch:=first|omega|(simp;done)|(simp;omega)) [hir,hir0,hirk,hp0,hc,hk0,hk1,-getElem?_pos]
    exact bad
   ·obtain ⟨j,rfl⟩:∃ j:Nat,k=j:=⟨k.toNat,by omega⟩
    obtain ⟨y,hy⟩:=Zaa (l:=e.children) (i:=j) (by omega)
    have hym:=List.mem_of_getElem? hy
    have hyw:=Exp.child_lt hym
    obtain ⟨_,⟨z,b,z1,z2,rfl⟩,hz⟩:=ih y (he.child hym) (by omega) (by omega)
    have hsl1:∀ L,Zbb L 1 (.sc (.c (.sl ([.int .i64 j]::Zao path)))) (some (.sc (.c (.int .i64 1)))) none none=some (Zci path,[]):=fun L=>by
     have hfit:Za0 1 ([Cell.int .i64 (j:Int)]::Zao path)=true:=Zc9 (f:=ZcJ) (fun _=>rfl) ((j:Int)::path)
     have:=slice_from (L:=L) (s:=1) (n:=1) (k:=.i64) (rows:=[Cell.int .i64 (j:Int)]::Zao path) (by simp)
     rw [hfit] at this
     simpa using this
    have hk1':¬(e.children.length≤j):=by omega
    have hk2':¬(e.kids.length+e.arms.length≤j):=by omega
    cases b with
    | false =>
     simp (disch:=first|omega|(simp;done)|(simp;omega)) [hir,hir0,hirk,hp0,hc,hk0,hk1,hk1',hk2',hsl1,hy,hz,-getElem?_pos]
     exact bad
    | true =>
     have hsl:(e.children.set j z).length=e.kids.length+e.arms.length:=by rw [List.length_set,hcl]
     have hwi:=ZpG (A:=A) e (e.children.set j z) hsl (by omega)
     have hset:(Exp.rows e.children).set j z.row=Exp.rows (e.children.set j z):=by simp [Exp.rows_map]
     have hres:PutR (e.weight+x.weight) (.tu [expV (Zeg e (e.children.set j z)),ZaG true],[]):=⟨_,true,ZoR hsl he fun c hcm=>by
      rcases List.mem_or_eq_of_mem_set hcm with hcm|hcm
      ·exact he.child hcm
      ·exact hcm▸z1,by have:=Zf8 (y:=z) hy;omega,rfl⟩
     simp (disch:=first|omega|(simp;done)|(simp;omega)) [hir,hir0,hirk,hp0,hc,hk0,hk1,hk1',hk2',hsl1,hy,hz,hwi,Zfj,hset,-getElem?_pos]
     exact hres
variable {A:Zac}
theorem end112 (L:List Int)(I:Nat):(K A).call 112 [.sc (.ptr 0 0)] [Zan L I]=some (ZaG (decide (L.length≤I)),[Zan L I]):=by
 refine ZaW (vf:=v112) (by kernel_rfl) rfl (by simp) ?_
 unfold v112
 simp (disch:=first|omega|(simp;done)|(simp;omega)) [-getElem?_pos]
def Zij (B:Nat)(b:BindD):Prop:=wfT b.body∧b.body.weight≤B
def setB (b:BindD)(x:Exp):BindD:=⟨b.isRec,b.name,b.sig,b.ty,x⟩
theorem ZhP (b:BindD)(x:Exp):splice (wc (ZaP b)) 9 (wc x.row)=some (wc (ZaP (setB b x))):=by
 rw [Exp.row_eq]
 rfl
theorem ZhA (bs:List BindD)(i:Nat)(b:BindD):(ZaE bs).set i (ZaP b)=ZaE (bs.set i b):=by simp [ZaE,List.map_set]
def MutR (ds:List DataD)(n B:Nat)(r:V × List Obj):Prop:=∃ bs:List BindD,bs.length=n∧(∀ b∈bs,Zij B b)∧r=(ZhJ ds bs,[])
def PathI (L:List Int)(ds:List DataD)(bs:List BindD)(i n r:Nat)(s:St):Prop:=∃ (path:List Int) (e:Exp) (J:Nat),path.length≤r∧wfT e∧e.weight≤100000∧J≤L.length ∧
 s=⟨[(2,.sc (.ptr 64 0)),(4,.sc (.ptr 128 0)),(5,.sc (.ptr 320 0)),(6,intV i),(7,.sc (.arr 1473 path.length)),(8,.sc (.ptr 1920 0)),(9,intV ((n:Int)-r))],
  [(64,some (.box [.c (.sl (Zah ds)),.c (.sl (ZaE bs))])),(128,some (.box [.nil,.nil])),(320,some (Zan L J)),(1473,some (.arr 1 (wr (Zao path)) 0)),(1920,some (.box (wc e.row)))]⟩
theorem ZlG (L:List Int)(ds:List DataD)(hL:L.length≤1073741824)(hds:Zdz ds)(h2:Zh6 ds)(bs:List BindD)(hb:bs.length≤4)(hbs:∀ b∈bs,Zij 100000 b) :
 ∃ r,MutR ds bs.length 200000 r∧(K A).call 60 [ZhJ ds bs,Zci L] []=some r:=by
 have same:MutR ds bs.length 200000 (ZhJ ds bs,[]):=⟨bs,rfl,fun b hm=>⟨(hbs b hm).1,by have:=(hbs b hm).2;omega⟩,rfl⟩
 have hend:=end112 (A:=A) L 0
 have hend0:(K A).call 112 [.sc (.ptr 0 0)] [.box [.c (.sl (Zao L)),.c (.int .i64 0)]]=some (ZaG (decide (L.length≤0)),[Zan L 0]):=hend
 refine Zap _ (vf:=v60) (by kernel_rfl) rfl (by simp) ?_
 unfold v60
 by_cases hz:bs=[]
 ·subst hz
  simp (disch:=first|omega|(simp;done)|(simp;omega)) [-getElem?_pos]
  exact same
 ·have hpos:=List.length_pos_iff.2 hz
  by_cases hl0:L=[]
  ·subst hl0
   have hn0:Zao []=[]:=rfl
   simp only [hn0] at hend0
   simp (disch:=first|omega|(simp;done)|(simp;omega)) [hz,hn0,hend0,-getElem?_pos]
   exact same
  ·have hlp:=List.length_pos_iff.2 hl0
   obtain ⟨i,J1,hi,hJ1,hc1⟩:=ZaL (A:=A) L 0 bs.length (by omega) hL (by omega) (by omega)
   have hc10:(K A).call 62 [.sc (.ptr 0 0),intV bs.length] [.box [.c (.sl (Zao L)),.c (.int .i64 0)]]=some (intV i,[Zan L J1]):=hc1
   obtain ⟨b,hbi⟩:=Zaa (l:=bs) (i:=i) (by omega)
   obtain ⟨hb1,hb2⟩:=hbs b (List.mem_of_getElem? hbi)
   obtain ⟨n,J2,hn,hJ2,hc2⟩:=ZaL (A:=A) L J1 5 hJ1 hL (by omega) (by omega)
   have hid:i<bs.length:=by omega
   simp (disch:=first|omega|(simp;done)|(simp;omega)) [hz,hl0,hend0,hc10,hbi,hc2,hid,-getElem?_pos]
   have rest:∀ (path:List Int) (J:Nat),path.length≤10→J≤L.length→∃ (x z:Exp) (bz:Bool) (J3:Nat),wfT z∧z.weight≤200000∧(K A).call 43 [.sc (.ptr 0 0),Zal ds,intV 2] [Zan L J]=some (expV x,[Zan L J3]) ∧
    (K A).call 113 [expV b.body,Zci path,expV x] []=some (.tu [expV z,ZaG bz],[]):=by
    intro path J hp hJ
    obtain ⟨_,⟨x,J3,hx,hxw,hJ3,rfl⟩,hr⟩:=raw22S (A:=A) L ds hL hds h2 2 J (by omega) hJ
    have hx29:x.weight≤29:=hxw
    obtain ⟨_,⟨z,bz,z1,z2,rfl⟩,hpt⟩:=put113 (A:=A) x hx.wfT (by omega) path b.body hb1 (by omega) (by omega)
    exact ⟨x,z,bz,J3,z1,by omega,hr,hpt⟩
   have hrow:(wr (ZaE bs))[i]?=some (wc (ZaP b)):=by rw [wr_get,bindRows_get,hbi];rfl
   have hres:∀ z,wfT z→z.weight≤200000→MutR ds bs.length 200000 (ZhJ ds (bs.set i (setB b z)),[]):=fun z h1 h2=>⟨_,by simp,fun y hy=>by
    rcases List.mem_or_eq_of_mem_set hy with hy|hy
    ·exact ⟨(hbs y hy).1,by have:=(hbs y hy).2;omega⟩
    ·exact hy▸⟨h1,h2⟩,rfl⟩
   have hset:∀ z,setRow (wr (ZaE bs)) i (wc (ZaP (setB b z)))=wr (ZaE (bs.set i (setB b z))):=fun z=>by rw [Zfj,ZhA]
   refine Zaf (fun r s=>PathI L ds bs i n r s) n ⟨[],b.body,J2,by simp,hb1,hb2,hJ2,by simp [Zao]⟩ ?_ ?_
   ·rintro r s hr ⟨path,e,J,p1,p2,p3,p4,rfl⟩
    have hgt:(0:Int)<(n:Int)-r:=by omega
    have hcl:=e.children_len
    have hcle:=e.children_le
    have hch:=Zch (A:=A) e (by omega)
    by_cases h0:e.children=[]
    ·have hk0:e.kids.length+e.arms.length=0:=by rw [←hcl,h0];rfl
     have hk0':(e.kids.length:Int)+e.arms.length=0:=by omega
     obtain ⟨x,z,bz,J3,z1,z2,hraw,hput⟩:=rest path J (by omega) p4
     unfold Zoo
     simp (maxSteps:=4000000) (disch:=first|omega|(simp;done)|(simp;omega)) [hgt,hr,hch,hk0',hraw,hput,hbi,hid,hrow,ZhP,hset,-getElem?_pos]
     exact hres z z1 z2
    ·have hcp:=List.length_pos_iff.2 h0
     have hk0':¬(e.kids.length:Int)+e.arms.length=0:=by omega
     obtain ⟨k,J3,hk,hJ3,hcn⟩:=ZaL (A:=A) L J e.children.length p4 hL (by omega) (by omega)
     obtain ⟨y,hy⟩:=Zaa (l:=e.children) (i:=k) (by omega)
     have hym:=List.mem_of_getElem? hy
     have hyw:=Exp.child_lt hym
     have hcn':(K A).call 62 [.sc (.ptr 0 0),intV ((e.kids.length:Int)+e.arms.length)] [Zan L J]=some (intV k,[Zan L J3]):=by
      rw [←show (e.children.length:Int)=(e.kids.length:Int)+e.arms.length by omega]
      exact hcn
     have hkl:k<e.kids.length+e.arms.length:=by omega
     unfold Zoo
     simp (maxSteps:=4000000) (disch:=first|omega|(simp;done)|(simp;omega)) [hgt,hr,hch,hk0',hcn',hy,hkl,-getElem?_pos]
     have h9:(n:Int)-r-1=(n:Int)-((r+1:Nat):Int):=by omega
     refine ⟨path++[(k:Int)],y,J3,by simp;omega,p2.child hym,by omega,hJ3,?_⟩
     rw [h9]
     simp [Zao,ZcJ,wr]
   ·rintro s ⟨path,e,J,p1,p2,p3,p4,rfl⟩
    have hgt:¬(0:Int)<(n:Int)-n:=by omega
    obtain ⟨x,z,bz,J3,z1,z2,hraw,hput⟩:=rest path J (by omega) p4
    unfold Zoo
    simp (maxSteps:=4000000) (disch:=first|omega|(simp;done)|(simp;omega)) [hgt,hraw,hput,hbi,hid,hrow,ZhP,hset,-getElem?_pos]
    exact hres z z1 z2
variable {A:Zac}
theorem back61 (l:List BindD):(K A).call 61 [.sc (.c (.sl (ZaE l)))] []=some (.sc (.clo 114 [true] [[.ptr 0 0]]),[.box [.c (.sl (ZaE l))]]):=by
 refine ZaW (vf:=v61) (by kernel_rfl) rfl (by simp) ?_
 unfold v61
 simp (disch:=first|omega|(simp;done)|(simp;omega))
theorem Zgj {g:Exp→Exp}{l:List BindD}(h:∀ b∈l,wfT (g b.body))(nm:Str):wfT (Zbp g l nm):=by
 induction l with
 | nil =>
  refine ⟨?_,?_⟩
  ·show (Exp.mk 1 0 nm 0 [] [] tz).wf
   rw [Exp.wf_eq]
   exact ⟨⟨fun h=>absurd (show (1:Int)=8 from h) (by decide),fun _=>rfl,fun _=>rfl⟩,fun x hx=>by cases hx⟩
  ·show tyBd (Exp.mk 1 0 nm 0 [] [] tz)
   rw [ZcA]
   exact ⟨by show tz.size≤_;decide,fun x hx=>by cases hx⟩
 | cons b l ih =>
  have h1:=h b (by simp)
  have h2:=ih fun b hb=>h b (by simp [hb])
  have hk:∀ k:Int,k=(if b.isRec then 7 else 6)→k≠8∧k≠1:=fun k hk=>by
   cases hb:b.isRec<;>rw [hb] at hk<;>simp at hk<;>omega
  rw [ZbV]
  have hc:(Exp.mk (if b.isRec then 7 else 6) 0 b.name 0 [g b.body,Zbp g l nm] [] tz).children=[g b.body,Zbp g l nm]:=rfl
  refine ⟨?_,?_⟩
  ·rw [Exp.wf_eq,hc]
   refine ⟨⟨fun q=>absurd (show (if b.isRec=true then (7:Int) else 6)=8 from q) (hk _ rfl).1,fun _=>rfl,fun q=>absurd (show (if b.isRec=true then (7:Int) else 6)=1 from q) (hk _ rfl).2⟩,fun x hx => ?_⟩
   simp only [List.mem_cons,List.not_mem_nil,or_false] at hx
   rcases hx with rfl|rfl
   ·exact h1.1
   ·exact h2.1
  ·rw [ZcA,hc]
   refine ⟨by show tz.size≤_;decide,fun x hx => ?_⟩
   simp only [List.mem_cons,List.not_mem_nil,or_false] at hx
   rcases hx with rfl|rfl
   ·exact h1.2
   ·exact h2.2
theorem ZoJ (ds:List DataD)(bs:List BindD)(hb:bs.length≤1000)(hw:∀ b∈bs,Zij 1000000 b):(K A).call 27 [ZhJ ds bs] []=some (expV (Zbj Zag bs),[]):=by
 refine ZaW (vf:=v27) (by kernel_rfl) rfl (by simp) ?_
 unfold v27
 by_cases hz:bs=[]
 ·subst hz
  simp (disch:=first|omega|(simp;done)|(simp;omega)) [-getElem?_pos]
  simp [Zbj,expV,Zbu]
 ·obtain ⟨n,hn⟩:∃ n,bs.length=n+1:=⟨bs.length-1,by have:=List.length_pos_iff.2 hz;omega⟩
  obtain ⟨b0,hb0⟩:=Zaa (l:=bs) (i:=n) (by omega)
  have hlast:=ZjG hb0 hn.symm
  have hcl:Zbj Zag bs=Zag (Zbp id bs b0.name):=by rw [ZeP];unfold Zbj;rw [if_neg hz,hlast]
  have hcw:=Zej (g:=id) (B:=1000000) (fun b h=>(hw b h).2) b0.name
  have hmul:bs.length*(1000000+1)≤1000*1000001:=Nat.mul_le_mul_right _ hb
  have hst:=Zp6 (A:=A) (Zbp id bs b0.name) (Zgj (fun b h=>(hw b h).1) _).1 (by omega)
  rw [hcl]
  have hn0:¬((n:Int)+1=0):=by omega
  have hbk:=back61 (A:=A) bs
  simp (disch:=first|omega|(simp;done)|(simp;omega)) [hn,hn0,hb0,hz,hbk,-getElem?_pos]
  refine ZmP (by simp;rfl) (by omega) (by simp;rfl) (by simp;omega) (fun i st=>∃ (cs:List W) (tail:List (Nat × Option Obj)),(cs=wc (Zbp id (bs.drop i) b0.name).row∨(cs=Zfz 1 b0.name∧Zbp id (bs.drop i) b0.name=.mk 1 0 b0.name 0 [] [] tz)) ∧
   (tail=[]∨∃ a b,tail=[(1536,some a),(2304,some b)])∧st=⟨[(2,.sc (.ptr 128 0)),(4,.sc (.ptr 1216 0)),(24,.sc (.clo 114 [true] [[.un]]))],[(64,some (.box [.c (.sl (Zah ds)),.c (.sl (ZaE bs))])),(128,some (.box [zi,zi,zs,zi,.nil,.nil,zi,zs,zi,zi,.nil])),(1216,some (.box cs))]++tail⟩) ?_ ?_ ?_
  ·exact ⟨Zfz 1 b0.name,[],.inr ⟨rfl,by rw [bindRows_len,List.drop_of_length_le (by omega)];rfl⟩,.inl rfl,by simp⟩
  ·rintro i st' row ⟨cs,tail,hcs,htl,rfl⟩ hrow
   have hi:i<bs.length:=by
    have:=(List.getElem?_eq_some_iff.1 hrow).1
    simpa using this
   obtain ⟨b,hbi⟩:=Zaa (l:=bs) (i:=i) hi
   simp [hbi] at hrow
   subst hrow
   have hd:bs.drop i=b::bs.drop (i+1):=by
    rw [List.drop_eq_getElem_cons hi]
    congr 1
    have:=List.getElem?_eq_getElem (l:=bs) hi
    rw [hbi] at this
    exact (Option.some.inj this).symm
   have hcl2:Zbp id (bs.drop i) b0.name=.mk (if b.isRec then 7 else 6) 0 b.name 0 [b.body,Zbp id (bs.drop (i+1)) b0.name] [] tz:=by rw [hd,ZbV];rfl
   refine ⟨rfl,.ag (wc (ZaP b)),by simp [asV],?_⟩
   generalize Zbp id (bs.drop (i+1)) b0.name=E at *
   cases hr:b.isRec with
   | true =>
    simp only [hr,if_true] at hcl2
    rcases htl with rfl|⟨oa,ob,rfl⟩<;>rcases hcs with rfl|⟨rfl,rfl⟩
    all_goals
     unfold ZqA
     simp (disch:=first|omega|(simp;done)|(simp;omega)) [hr,-getElem?_pos]
     rw [hcl2]
     simp [Zbk,Zbu,wc]
   | false =>
    simp only [hr,Bool.false_eq_true,if_false] at hcl2
    rcases htl with rfl|⟨oa,ob,rfl⟩<;>rcases hcs with rfl|⟨rfl,rfl⟩
    all_goals
     unfold ZqA
     simp (disch:=first|omega|(simp;done)|(simp;omega)) [hr,-getElem?_pos]
     rw [hcl2]
     simp [Zbk,Zbu,wc]
  ·rintro st' ⟨cs,tail,hcs,htl,rfl⟩
   rw [List.drop_zero] at hcs
   rcases htl with rfl|⟨oa,ob,rfl⟩<;>rcases hcs with rfl|⟨rfl,hE⟩
   all_goals
    first
     | (rw [hE] at hst; have hst':(K A).call 49 [.ag [.c (.int .i64 1),.c (.int .i64 0),.c (.str b0.name),.c (.int .i64 0),.c (.sl []),.c (.sl []),.c (.int .i64 0),.c (.str []),.c (.int .i64 0),.c (.int .i64 0),.c (.sl [])]] []=some (expV (Zag (Exp.mk 1 0 b0.name 0 [] [] tz)),[]):=(by simpa [expV,Zbu,wc] using hst); simp (disch:=first|omega|(simp;done)|(simp;omega)) [hst',hE,-getElem?_pos])
     | simp (disch:=first|omega|(simp;done)|(simp;omega)) [hst,-getElem?_pos]
variable {A:Zac}
def SomeR (r:V × List Obj):Prop:=∃ (ds:List DataD) (bs:List BindD),bs.length≤4∧(∀ b∈bs,Zij 200000 b)∧r=(ZhJ ds bs,[])
theorem some26 (bits:Int)(codes:List Int)(way:Int)(hL:codes.length≤1073741824)(ds7:List DataD)(h7:ds7.length=7)(hg:∀ d∈ds7,fitD d)(h2:Zh6 ds7)(h55:(K A).call 81 [] []=some (Zal ds7,[])) :
 ∃ r,SomeR r∧(K A).call 26 [intV bits,Zci codes,intV way] []=some r:=by
 obtain ⟨_,⟨ds,bs,hd,hgd,hb,hbs,rfl⟩,hp⟩:=Zlf (A:=A) bits codes hL ds7 h7 hg h55
 have hbo:∀ b∈bs,Zij 100000 b:=fun b hm=>⟨(hbs b hm).2.1.wfT,by have:=(hbs b hm).2.2.1;omega⟩
 obtain ⟨k,hk,hm⟩:=mod10 (A:=A) way 3 (by omega) (by omega)
 refine Zap _ (vf:=v26) (by kernel_rfl) rfl (by simp) ?_
 unfold v26
 by_cases h1:k=1
 ·subst h1
  obtain ⟨m,hmm,hml⟩:∃ m:Nat,m≤codes.length∧(if (3:Int)<(codes.length:Int) then (3:Int) else codes.length)=m:=by
   by_cases h3:(3:Int)<codes.length
   ·exact ⟨3,by omega,by rw [if_pos h3];rfl⟩
   ·exact ⟨codes.length,Nat.le_refl _,by rw [if_neg h3]⟩
  obtain ⟨_,⟨bs2,g1,g2,rfl⟩,hmu⟩:=ZlG (A:=A) (codes.drop m) ds (by simp;omega) hgd (fun d h=>h2 d (hd d h)) bs hb hbo
  have hfit:Za0 1 (Zao codes)=true:=Zc9 (f:=ZcJ) (fun _=>rfl) codes
  have hsl:∀ L,Zbb L 1 (.sc (.c (.sl (Zao codes)))) (some (.sc (.c (.int .i64 m)))) none none=some (Zci (codes.drop m),[]):=fun L=>by
   have:=slice_from (L:=L) (s:=1) (n:=m) (k:=.i64) (rows:=Zao codes) (by simp [Zao];exact hmm)
   rw [hfit] at this
   rw [this]
   simp [Zao,List.map_drop]
  simp (disch:=first|omega|(simp;done)|(simp;omega)) [hp,hm,hml,hsl,hmu,-getElem?_pos]
  exact ⟨ds,bs2,by omega,g2,rfl⟩
 ·have h1':¬(k:Int)=1:=by omega
  simp (disch:=first|omega|(simp;done)|(simp;omega)) [hp,hm,h1,h1',-getElem?_pos]
  exact ⟨ds,bs,hb,fun b h=>⟨(hbo b h).1,by have:=(hbo b h).2;omega⟩,rfl⟩
theorem Zjj {g:Exp→Exp}{bs:List BindD}(h:∀ b∈bs,wfT (g b.body)):wfT (Zbj g bs):=by
 unfold Zbj
 split
 ·refine ⟨?_,?_⟩
  ·rw [Exp.wf_eq]
   exact ⟨⟨fun h=>absurd (show (3:Int)=8 from h) (by decide),fun _=>rfl,fun _=>rfl⟩,fun x hx=>by cases hx⟩
  ·rw [ZcA]
   exact ⟨by show tz.size≤_;decide,fun x hx=>by cases hx⟩
 ·exact Zgj h _
theorem ZfZ {g:Exp→Exp}{B:Nat}{bs:List BindD}(h:∀ b∈bs,(g b.body).weight≤B):(Zbj g bs).weight≤1+bs.length*(B+1):=by
 unfold Zbj
 split
 ·have:=ZbC 3 0 []
  omega
 ·exact Zej h _
theorem ZmL (bits:Int)(codes:List Int)(way:Int)(ds7:List DataD)(h7:ds7.length=7)(hg:∀ d∈ds7,fitD d)(h2:Zh6 ds7)(h55:(K A).call 81 [] []=some (Zal ds7,[]))(h25:(K A).call 25 [] []=some (ZaG true,[])) :
 (K A).call 5 [intV bits,Zci codes,intV way] []=some (ZaG true,[]):=by
 refine ZaW (vf:=v5) (by kernel_rfl) rfl (by simp) ?_
 have hf:(K A).call 12 [Zci codes] []=some (ZaG (decide (codes.length≤60)),[]):=few8 (A:=A) codes
 unfold v5
 by_cases hl:codes.length≤60
 ·obtain ⟨_,⟨ds,bs,hb,hbs,rfl⟩,hs⟩:=some26 (A:=A) bits codes way (by omega) ds7 h7 hg h2 h55
  have h27:=ZoJ (A:=A) ds bs (by omega) fun b hm=>⟨(hbs b hm).1,by have:=(hbs b hm).2;omega⟩
  have h28:=Zn9 (A:=A) ds bs (by omega) fun b hm=>by have:=(hbs b hm).2;omega
  have hw:=ZfZ (g:=Zag) (B:=200000) (bs:=bs) fun b hm=>by rw [ZhT];exact (hbs b hm).2
  have hm4:bs.length*(200000+1)≤4*200001:=Nat.mul_le_mul_right _ hb
  have hty:tyBd (Zbj Zag bs):=by
   rw [←Zhg]
   exact ZkY _ (Zjj (g:=id) fun b hm=>(hbs b hm).1).2
  obtain ⟨_,⟨q,hq,rfl⟩,heq⟩:=ZqU (A:=A) (Zbj Zag bs) (Zbj Zag bs) hty (by omega) (by omega)
  have hqt:q=true:=hq.2 (ZkE _)
  subst hqt
  simp (disch:=first|omega|(simp;done)|(simp;omega)) [h25,hf,hl,hs,h27,h28,heq,-getElem?_pos]
 ·simp (disch:=first|omega|(simp;done)|(simp;omega)) [h25,hf,hl,-getElem?_pos]
end Go.Vs.Tryz
