/- One head with some arguments, walked. -/
import Derived.Test.YtccmnfpbcmccpaaGreatDoorRCp
set_option linter.unusedSimpArgs false
set_option linter.unusedVariables false
set_option linter.deprecated false
set_option maxHeartbeats 32000000
namespace Go.Vs.Tryz
open Go Go.Vs
variable {A:Af}
@[simp] theorem cutw_sc0 (c:Int) (t:Ty):cut (wc (AU c t)) 0 1=some [.c (.int .i64 c)]:=by rw[AU,Ty.row_eq];rfl
@[simp] theorem cutw_sc1 (c:Int) (t:Ty):cut (wc (AU c t)) 1 5=some (wc t.row):=by rw[AU,Ty.row_eq];rfl
theorem ZfF (t:Ty):wc t.row=[.c (.int .i64 t.kind),.c (.str t.name),.c (.int .i64 t.id),.c (.int .i64 t.home),.c (.sl (Ty.rows t.args))]:=by rw[Ty.row_eq];rfl
def SpineOk (s:StoD)(w:Ty)(ar:List Ty)(u:Ty):Prop:=∀s',ext s s'->∀U,Res s' w U->U.size<=200->(∀x∈ar,∃v,Res s' x v/\v.size<=200)/\∃v,Res s' u v/\v.size<=200
theorem SpineOk.nil (s:StoD)(w:Ty):SpineOk s w [] w:=fun s' _ U hU hl=>⟨by simp,U,hU,hl⟩
theorem SpineOk.push {n:Nat}{s s1:StoD}{w u a b:Ty}{ar:List Ty}(h:SpineOk s w ar u)(he:ext s s1)(hs1:stoOk n s1)(hu:tyS n u)(hk:(AZ s1 u).kind≠1)(hab:(AZ s1 u).args=[a,b]):SpineOk s1 w (ar++[a]) b:=fun s' hs' U hU hl=>by
 obtain⟨h1,v,hv,hvl⟩:=h s' (he.trans hs') U hU hl;obtain⟨v1,v2,g1,g2,g3,g4⟩:=hv.two (by rw[Zfr hs1 hs' hu hk];exact hab);refine⟨fun x hx=>?_,v2,g2,by omega⟩;rcases qp.1 hx with hx|hx
 .exact h1 x hx
 .simp only [qk] at hx
  exact⟨v1,hx▸g1,by omega⟩
def F8 (r:V×List Obj):Prop:=∃(b:Bool) (l2:List Ty),l2.length<=3/\(∀x∈l2,∃M,tyS M x/\x.size<=4000)/\r=(.tu [.sc (.c (.sl [])),tysV l2,Ac b],[])
theorem stoOk.fresh {n:Nat}{s:StoD}(hs:stoOk n s)(hn:n<1000)(ht:s.trail.length<1000000){h:Int}{b:Bool}{c:ChgD}:stoOk (n+1) ⟨s.slots++[AL h b],s.trail++[c]⟩:=by
 obtain⟨h1,h2,h3,h4⟩:=hs;refine⟨by simp[h1],by omega,by simp;omega,?_⟩;intro x hx;rcases qp.1 hx with hx|hx
 .exact fun hb=>⟨(h4 x hx hb).1.mono (by omega),(h4 x hx hb).2⟩
 .simp only [qk] at hx
  subst hx;intro hb;cases hb
theorem WH (a b:Ty):(K A).call 84 [tyV (.mk 4 [45,62] 0 0 [a,b])] []=some (.tu [tyV a,tyV b,Ac true],[]):=by
 have hr:Ty.rows [a,b]=[a.row,b.row]:=by simp[Ty.rows]
 refine fnO v84 ?_;unfold v84;simp(disch:=try exact zd) [Ty.kind,Ty.name,Ty.args,hr]
def I0 (c n:Nat)(goal w:Ty)(is:List Ty)(j:Nat)(st:St):Prop:=∃(m:Nat) (s:StoD) (u:Ty) (ar:List Ty) (tail:List (Nat×Option Obj)),stoOk m s/\c<=m/\m<=c+2*j/\s.trail.length<=c+3*j/\tyS m u/\u.size<=687194767360/\ar.length=j/\(∀x∈ar,tyS m x/\x.size<=687194767360)/\SpineOk s w ar u/\
 (tail=[]\/∃a b rows q,tail=[(6976,some (.box a)),(7040,some (.box b)),(7744,some (.arr 5 rows q))])/\
 st=⟨[(3,CM []),(4,intV n),(5,.sc (.ptr 64 0)),(7,.sc (.ptr 192 0)),(16,.sc (.ptr 2112 0)),(17,.sc (.ptr 2304 0)),(18,.sc (.arr 2433 j))],
  [(64,some (.box [.c (.sl (Bb s.slots)),.c (.sl (Bi s.trail))])),(192,some (.box (wc goal.row))),(449,some (.arr 5 (wr (Ty.rows is)) c)),(2112,some (.box (wc w.row))),(2304,some (.box (wc u.row))),(2433,some (.arr 5 (wr (Ty.rows ar)) 0))]++tail⟩
theorem Hf:F8 (.tu [.sc (.c (.sl [])),.sc (.c (.sl [])),Ac false],[]):=⟨false,[],by simp,by simp,by simp⟩
theorem Zci (c:Nat)(hc:c<=900)(goal w:Ty)(is:List Ty)(n:Nat)(hn:n<=3)(rest:VCode)(j:Nat)(st:St)(hj:j<n)(hI:I0 c n goal w is j st):
 wp (K A) El (fun e st=>(e=.normal/\I0 c n goal w is (j+1) st)\/(e≠.normal/\Bx 2 (BN (K A) rest (BP false 0 [.tmp 10,.tmp 11,.tmp 12] F8)) e st)) st:=by
 obtain⟨m,s,u,ar,tail,q1,q2,q3,q4,q5,q6,q7,q8,q10,q9,rfl⟩:=hI;unfold I0;obtain⟨w1,w2⟩:=Jk q1 q5 q6;have hw:=Jz (A:=A) s q1 u q5;obtain⟨u',hu'⟩:∃u',u'=AZ s u:=⟨_,rfl⟩;rw[<-hu']at w1 w2 hw;have hsl:=q1.1;rcases q9 with rfl|⟨ta,tb,tr,tq,rfl⟩
 all_goals
  by_cases hk:u'.kind=1
  .obtain ⟨g1,g2,g0⟩:=w1.one.1 hk
   obtain⟨i,hi⟩:∃i:Nat,u'.id=i:=⟨u'.id.toNat,by omega⟩;obtain⟨y,hy⟩:=Ae (l:=s.slots) (i:=i) (by omega);have hin:i<s.slots.length:=(by omega);cases hb:y.base with
   |true=>
    rcases Gk (A:=A) u' with ⟨a,b,hab,har⟩|har
    .have:=(w1.one.1 hk).2.2
     rw[hab]at this;cases this
    .unfold El
     simp(maxSteps:=9^7) (disch:=try exact zd) [hj,q7,hw,hk,hi,hin,hy,hb,har,-getElem?_pos];exact Hf
   |false=>
    have hm3:m<=906:=(by omega);have hf1:=MS (A:=A) s (by omega) (by omega) 1000000 false;rw[hsl]at hf1;have k1:=q1.fresh (h:=1000000) (b:=false) (c:=⟨m,AL 0 false,true⟩) (by omega) (by omega);have hf2:=MS (A:=A) ⟨s.slots++[AL 1000000 false],s.trail++[⟨m,AL 0 false,true⟩]⟩ (by simp;omega) (by simp;omega) 1000000 false;have hl1:(s.slots++[AL 1000000 false]).length=m+1:=(by simp[hsl]);simp only[hl1]at hf2
    have k2:=k1.fresh (h:=1000000) (b:=false) (c:=⟨(m+1:Nat),AL 0 false,true⟩) (by omega) (by simp;omega);have hy2:(s.slots++[AL 1000000 false]++[AL 1000000 false])[i]?=some y:=by
     rw[qF (by simp;omega),qF (by omega)];exact hy
    have ha2:=H5 (A:=A) (.mk 1 [] m 0 []) (.mk 1 [] (m+1:Nat) 0 []);have hi2:=WH (A:=A) (.mk 1 [] m 0 []) (.mk 1 [] (m+1:Nat) 0 []);have hset:=LW (A:=A) ⟨s.slots++[AL 1000000 false]++[AL 1000000 false],s.trail++[⟨m,AL 0 false,true⟩]++[⟨(m+1:Nat),AL 0 false,true⟩]⟩ (by simp;omega) (by simp;omega) i y hy2 ⟨true,.mk 4 [45,62] 0 0 [.mk 1 [] m 0 [],.mk 1 [] (m+1:Nat) 0 []],y.home,y.base⟩;rw[EA]at hset
    simp only[hb]at hset;have hin2:i<(s.slots++[AL 1000000 false]++[AL 1000000 false]).length:=(by simp;omega);have hvaS:tyS (m+1+1) (.mk 1 [] m 0 [])/\(Ty.mk 1 [] m 0 []).size<=1:=⟨H9 (by omega),by simp[Ty.size_leaf]⟩;have hvbS:tyS (m+1+1) (.mk 1 [] (m+1:Nat) 0 [])/\(Ty.mk 1 [] (m+1:Nat) 0 []).size<=1:=⟨H9 (by omega),by simp[Ty.size_leaf]⟩
    have hfaS:tyS (m+1+1) (.mk 4 [45,62] 0 0 [.mk 1 [] m 0 [],.mk 1 [] (m+1:Nat) 0 []])/\(Ty.mk 4 [45,62] 0 0 [.mk 1 [] m 0 [],.mk 1 [] (m+1:Nat) 0 []]).size<=10:=by
     refine⟨JM Hk ?_,?_⟩
     .intro x hx
      simp only[qD,qY,or_false]at hx;rcases hx with rfl|rfl
      .exact hvaS.1
      .exact hvbS.1
     .rw [Ty.size_eq]
      simp[Ty.args,Ty.size_leaf]
    have hbu:y.bound=false:=by
     obtain⟨f1,_,i',z,f2,_,f3,f4⟩:=JR q1 q5 (by rw[<-hu'];exact hk);rw[<-hu']at f1;rw[<-f1]at f2;have:i'=i:=(by omega);subst this;rw[hy]at f3;cases f3;exact f4
    have hue:u=u':=by
     obtain⟨f1,_⟩:=JR q1 q5 (by rw[<-hu'];exact hk);rw[<-f1,<-hu']
    have he1:ext s ⟨(s.slots++[AL 1000000 false]++[AL 1000000 false]).set i ⟨true,.mk 4 [45,62] 0 0 [.mk 1 [] m 0 [],.mk 1 [] (m+1:Nat) 0 []],y.home,false⟩,s.trail++[⟨m,AL 0 false,true⟩]++[⟨(m+1:Nat),AL 0 false,true⟩]++[⟨i,y,false⟩]⟩:=by
     have e1:ext s ⟨s.slots++[AL 1000000 false]++[AL 1000000 false],[]⟩:=by
      have:=ext.app (s:=s) (l:=[AL 1000000 false]++[AL 1000000 false]) (T:=[]);rwa[<-qau]at this
     refine e1.trans (ext.set fun z hz hb2=>?_);rw[hy2]at hz;cases hz;rw[hbu]at hb2;cases hb2
    have hwk:AZ ⟨(s.slots++[AL 1000000 false]++[AL 1000000 false]).set i ⟨true,.mk 4 [45,62] 0 0 [.mk 1 [] m 0 [],.mk 1 [] (m+1:Nat) 0 []],y.home,false⟩,s.trail++[⟨m,AL 0 false,true⟩]++[⟨(m+1:Nat),AL 0 false,true⟩]++[⟨i,y,false⟩]⟩ u=.mk 4 [45,62] 0 0 [.mk 1 [] m 0 [],.mk 1 [] (m+1:Nat) 0 []]:=
     G8 (i:=i) (x:=⟨true,.mk 4 [45,62] 0 0 [.mk 1 [] m 0 [],.mk 1 [] (m+1:Nat) 0 []],y.home,false⟩) (by rw[hue];exact hk) (by rw[hue];exact hi) (by rw[qa6 (qf.1 hy2).1]) rfl
    have hTl:(s.trail++[(⟨m,AL 0 false,true⟩:ChgD)]++[(⟨(m+1:Nat),AL 0 false,true⟩:ChgD)]).length=s.trail.length+2:=(by simp);generalize hva:Ty.mk 1 [] m 0 []=va at *
    generalize hvb:Ty.mk 1 [] (m+1:Nat) 0 []=vb at *
    generalize hfa:Ty.mk 4 [45,62] 0 0 [va,vb]=fa at *
    generalize hS2:s.slots++[AL 1000000 false]++[AL 1000000 false]=S2 at *
    generalize hT2:s.trail++[⟨m,AL 0 false,true⟩]++[⟨(m+1:Nat),AL 0 false,true⟩]=T2 at *
    generalize hS1:s.slots++[AL 1000000 false]=S1 at *
    generalize hT1:s.trail++[⟨m,AL 0 false,true⟩]=T1 at *
    rw[tyV,ZfF fa]at hi2;unfold El;simp(maxSteps:=9^7) (disch:=try exact zd) [hj,q7,hw,hk,hi,hin,hy,hb,hf1,hf2,hin2,hy2,ha2,EA y,OC,hset,hi2,-getElem?_pos];have hst:=k2.set (i:=i) (x:=⟨true,fa,y.home,false⟩) (c:=⟨i,y,false⟩) (fun _=>⟨hfaS.1,by show fa.size<=687194767360;omega,by show fa.kind≠1;rw[<-hfa];show(4:Int)≠1;decide⟩) (by show T2.length<1000000;omega)
    refine⟨m+1+1,⟨S2.set i ⟨true,fa,y.home,false⟩,T2++[⟨i,y,false⟩]⟩,hst,by omega,by omega,by simp;omega,vb,hvbS.1,by omega,ar++[va],by simp[q7],?_,q10.push (n:=m+1+1) he1 hst (q5.mono (by omega)) (by rw[hwk,<-hfa];show(4:Int)≠1;decide) (by rw[hwk,<-hfa];rfl),_,⟨_,_,_,_,rfl⟩,⟨rfl,rfl⟩,rfl,rfl,rfl⟩;intro x hx;rcases qp.1 hx with hx|hx
    .exact⟨(q8 x hx).1.mono (by omega),(q8 x hx).2⟩
    .simp only [qk] at hx
     subst hx;exact⟨hvaS.1,by omega⟩
  .rcases Gk (A:=A) u' with ⟨a,b,hab,har⟩|har
   .unfold El
    simp(maxSteps:=9^7) (disch:=try exact zd) [hj,q7,hw,hk,har,-getElem?_pos];refine⟨m,s,q1,q2,by omega,by omega,b,w1.arg (by rw[hab];simp),by have:=Ty.arg_lt (t:=u') (x:=b) (by rw[hab];simp);omega,ar++[a],by simp[q7],?_,q10.push (ext.refl s) q1 q5 (by rw[<-hu'];exact hk) (by rw[<-hu'];exact hab),_,⟨_,_,_,_,rfl⟩,⟨rfl,rfl⟩,rfl,rfl,rfl⟩;intro x hx;rcases qp.1 hx with hx|hx
    .exact q8 x hx
    .simp only [qk] at hx
     subst hx;exact⟨w1.arg (by rw[hab];simp),by have:=Ty.arg_lt (t:=u') (x:=x) (by rw[hab];simp);omega⟩
   .unfold El
    simp(maxSteps:=9^7) (disch:=try exact zd) [hj,q7,hw,hk,har,-getElem?_pos];exact Hf
variable {A:Af}
theorem ZeP {L:Nat->Option Obj}{s:Nat}{k:IntKind}{rows:List (List Cell)}(h:BI s rows=true):Bk L s (.sc (.c (.sl rows))) none (some (.sc (.c (.int k 0)))) none=some (.sc (.c (.sl [])),[]):=by
 have:=slice_to (L:=L) (s:=s) (n:=0) (k:=k) (rows:=rows) (qac _);rw[h]at this;simpa using this
theorem W7 {L:Nat->Option Obj}{s:Nat}{k:IntKind}{rows:List (List Cell)}(h:BI s rows=true):Bk L s (.sc (.c (.sl rows))) (some (.sc (.c (.int k 0)))) none none=some (.sc (.c (.sl rows)),[]):=by
 have:=slice_from (L:=L) (s:=s) (n:=0) (k:=k) (rows:=rows) (qac _);rw[h]at this;simpa using this
theorem TW (l:List Ty):BI 5 (Ty.rows l)=true:=by rw[Ty.rows_map];exact Gw Ty.row_len l
theorem Jv {L:Nat->Option Obj}{k:IntKind}(l:List Ty):Bk L 5 (.sc (.c (.sl (Ty.rows l)))) none (some (.sc (.c (.int k 0)))) none=some (.sc (.c (.sl [])),[]):=ZeP (TW l)
theorem Ki {L:Nat->Option Obj}{k:IntKind}(l:List Ty):Bk L 5 (.sc (.c (.sl (Ty.rows l)))) (some (.sc (.c (.int k 0)))) none none=some (.sc (.c (.sl (Ty.rows l))),[]):=W7 (TW l)
def HX (mid:List (Nat×Option Obj)):Prop:=mid=[]\/∃a b rows q,mid=[(6976,some (.box a)),(7040,some (.box b)),(7744,some (.arr 5 rows q))]
theorem Ke:HX []:=.inl rfl
theorem IA (a b:List W)(rows:List (List W))(q:Nat):HX [(6976,some (.box a)),(7040,some (.box b)),(7744,some (.arr 5 rows q))]:=.inr ⟨a,b,rows,q,rfl⟩
theorem RJ {m n c:Nat}(s:StoD)(hs:stoOk m s)(is ar:List Ty)(hn:n<=3)(hal:ar.length=n)(ha:∀x∈ar,tyS m x/\x.size<=687194767360)(hres:∀x∈ar,∃v,Res s x v/\v.size<=200)(mid:List (Nat×Option Obj))(hm:HX mid):
 wp (K A) (.loop Hd) (Bx 4 (BN (K A) (.seq (.seq (.region [] [o 33 (.mv (ki 0))] [] [3,5,18,29,33]) (.block 6 (.loop GN)))
  (.seq (.region [] [o 197 (.mv (tv 29)),oa 198 (.call (kf 236) [(false,tv 197)] []) 15040,o 29 (.mv (tv 198))] [] [3,29])
    (.seq (.region [] [o 199 (.mv (tv 29)),o 200 (.mv (tv 3)),o 201 (.len false (tv 200)),o 202 (.sl 5 (tv 199) none (some (tv 201)) none),o 203 (.mv (tv 29)),o 204 (.mv (tv 3)),o 205 (.len false (tv 204)),o 206 (.sl 5 (tv 203) (some (tv 205)) none none),
      o 10 (.mv (tv 202)),o 11 (.mv (tv 206)),o 12 (.mv kt)] [(2,6),(3,6),(2,7),(3,7)] [10,11,12]) .ret))) (BP false 0 [.tmp 10,.tmp 11,.tmp 12] F8)))
  ⟨[(3,.sc (.c (.sl []))),(5,.sc (.ptr 64 0)),(18,.sc (.arr 2433 n)),(29,.sc (.arr 10945 0)),(30,intV 0)],
    (64,some (.box [.c (.sl (Bb s.slots)),.c (.sl (Bi s.trail))]))::(449,some (.arr 5 (wr (Ty.rows is)) c))::(2433,some (.arr 5 (wr (Ty.rows ar)) 0))::(mid++[(10945,some (.arr 5 [] 0))])⟩:=by
 rcases hm with rfl|⟨ta,tb,tr,tq,rfl⟩
 .refine Ap (fun _=>_) 0 rfl (fun i hi=>by omega) ?_
  unfold Hd;simp(maxSteps:=9^7) (disch:=try exact zd) [-getElem?_pos];refine Ak (fun i st=>∃(l:List Ty) (mid:List (Nat×Option Obj)),l.length=i/\(∀x∈l,tyS m x/\x.size<=4000)/\HX mid/\st=⟨[(3,.sc (.c (.sl []))),(5,.sc (.ptr 64 0)),(18,.sc (.arr 2433 n)),(29,.sc (.arr 10945 i)),(33,intV i)],
   (64,some (.box [.c (.sl (Bb s.slots)),.c (.sl (Bi s.trail))]))::(449,some (.arr 5 (wr (Ty.rows is)) c))::(2433,some (.arr 5 (wr (Ty.rows ar)) 0))::(mid++[(10945,some (.arr 5 (wr (Ty.rows l)) 0))])⟩) n
   ⟨[],[],rfl,by simp,Ke,by simp⟩ ?_ ?_
  .rintro i st hi ⟨l,mid,hl,hq,hmd,rfl⟩
   obtain⟨x,hx⟩:=Ae (l:=ar) (i:=i) (by omega);obtain⟨hx1,hx2⟩:=ha x (qc hx);obtain⟨v,hv,hvl⟩:=hres x (qc hx);obtain⟨_,⟨u,hu1,hu2,rfl⟩,hr⟩:=RP (A:=A) s hs x hx1 hx2 v hv (by omega);have mem:∀y∈l++[u],tyS m y/\y.size<=4000:=by
    intro y hy;rcases qp.1 hy with hy|hy
    .exact hq y hy
    .simp only [qk] at hy
     exact hy▸⟨hu1,hu2⟩
   unfold GN;rcases hmd with rfl|⟨ua,ub,ur,uq,rfl⟩
   .simp (maxSteps:=9^7) (disch:=try exact zd) [hi,hal,hl,hx,hr,-getElem?_pos]
    exact⟨l++[u],by simp[hl],mem,[],Ke,by simp⟩
   .simp (maxSteps:=9^7) (disch:=try exact zd) [hi,hal,hl,hx,hr,-getElem?_pos]
    exact⟨l++[u],by simp[hl],mem,_,IA _ _ _ _,rfl⟩
  .rintro st ⟨l,mid,hl,hq,hmd,rfl⟩
   have hsz:=NG (fun x hx=>(hq x hx).2) (show l.length<=3 by omega);obtain⟨_,⟨M,l2,c1,c2,rfl⟩,hcn⟩:=QW (A:=A) l (by omega) (fun x hx=>(hq x hx).1);have res:F8 (.tu [.sc (.c (.sl [])),tysV l2,Ac true],[]):=by
    refine⟨true,l2,by omega,fun x hx=>?_,rfl⟩;obtain⟨j,hj,he⟩:=qO hx;obtain⟨y,hy⟩:=Ae (l:=l) (i:=j) (by omega);obtain⟨d1,d2⟩:=c2 j y x hy (by rw[qi hj,he]);exact⟨M,d1,by have:=(hq y (qc hy)).2;omega⟩
   unfold GN;rcases hmd with rfl|⟨ua,ub,ur,uq,rfl⟩
   .simp (maxSteps:=9^7) (disch:=try exact zd) [hal,hl,hcn,Jv,Ki,-getElem?_pos]
    exact res
   .simp (maxSteps:=9^7) (disch:=try exact zd) [hal,hl,hcn,Jv,Ki,-getElem?_pos]
    exact res
 .refine Ap (fun _=>_) 0 rfl (fun i hi=>by omega) ?_
  unfold Hd;simp(maxSteps:=9^7) (disch:=try exact zd) [-getElem?_pos];refine Ak (fun i st=>∃(l:List Ty) (mid:List (Nat×Option Obj)),l.length=i/\(∀x∈l,tyS m x/\x.size<=4000)/\HX mid/\st=⟨[(3,.sc (.c (.sl []))),(5,.sc (.ptr 64 0)),(18,.sc (.arr 2433 n)),(29,.sc (.arr 10945 i)),(33,intV i)],
   (64,some (.box [.c (.sl (Bb s.slots)),.c (.sl (Bi s.trail))]))::(449,some (.arr 5 (wr (Ty.rows is)) c))::(2433,some (.arr 5 (wr (Ty.rows ar)) 0))::(mid++[(10945,some (.arr 5 (wr (Ty.rows l)) 0))])⟩) n
   ⟨[],[(6976,some (.box ta)),(7040,some (.box tb)),(7744,some (.arr 5 tr tq))],rfl,by simp,IA _ _ _ _,by simp⟩ ?_ ?_
  .rintro i st hi ⟨l,mid,hl,hq,hmd,rfl⟩
   obtain⟨x,hx⟩:=Ae (l:=ar) (i:=i) (by omega);obtain⟨hx1,hx2⟩:=ha x (qc hx);obtain⟨v,hv,hvl⟩:=hres x (qc hx);obtain⟨_,⟨u,hu1,hu2,rfl⟩,hr⟩:=RP (A:=A) s hs x hx1 hx2 v hv (by omega);have mem:∀y∈l++[u],tyS m y/\y.size<=4000:=by
    intro y hy;rcases qp.1 hy with hy|hy
    .exact hq y hy
    .simp only [qk] at hy
     exact hy▸⟨hu1,hu2⟩
   unfold GN;rcases hmd with rfl|⟨ua,ub,ur,uq,rfl⟩
   .simp (maxSteps:=9^7) (disch:=try exact zd) [hi,hal,hl,hx,hr,-getElem?_pos]
    exact⟨l++[u],by simp[hl],mem,[],Ke,by simp⟩
   .simp (maxSteps:=9^7) (disch:=try exact zd) [hi,hal,hl,hx,hr,-getElem?_pos]
    exact⟨l++[u],by simp[hl],mem,_,IA _ _ _ _,rfl⟩
  .rintro st ⟨l,mid,hl,hq,hmd,rfl⟩
   have hsz:=NG (fun x hx=>(hq x hx).2) (show l.length<=3 by omega);obtain⟨_,⟨M,l2,c1,c2,rfl⟩,hcn⟩:=QW (A:=A) l (by omega) (fun x hx=>(hq x hx).1);have res:F8 (.tu [.sc (.c (.sl [])),tysV l2,Ac true],[]):=by
    refine⟨true,l2,by omega,fun x hx=>?_,rfl⟩;obtain⟨j,hj,he⟩:=qO hx;obtain⟨y,hy⟩:=Ae (l:=l) (i:=j) (by omega);obtain⟨d1,d2⟩:=c2 j y x hy (by rw[qi hj,he]);exact⟨M,d1,by have:=(hq y (qc hy)).2;omega⟩
   unfold GN;rcases hmd with rfl|⟨ua,ub,ur,uq,rfl⟩
   .simp (maxSteps:=9^7) (disch:=try exact zd) [hal,hl,hcn,Jv,Ki,-getElem?_pos]
    exact res
   .simp (maxSteps:=9^7) (disch:=try exact zd) [hal,hl,hcn,Jv,Ki,-getElem?_pos]
    exact res
variable {A:Af}
theorem Zcn (c:Nat)(hc:c<=900)(t goal:Ty)(ht:tyB 0 c t)(htl:t.size<=1000000)(hg:tyS 0 goal)(hgl:goal.size<=900000)(n:Nat)(hn:n<=3):
 ∃r,F8 r/\(K A).call 216 [stoV ⟨[],[]⟩,schV c t,tyV goal,CM [],intV n] []=some r:=by
 refine fnE v216 ?_;unfold v216;simp(disch:=try exact zd) [AU];refine Ak (fun i st=>∃(s:StoD) (is:List Ty),stoOk i s/\s.trail.length<=i/\is.length=i/\(∀x∈is,tyS i x/\x.size<=1)/\st=⟨[(3,CM []),(4,intV n),(5,.sc (.ptr 64 0)),(6,.sc (.ptr 128 0)),(7,.sc (.ptr 192 0)),(13,.sc (.arr 449 i)),(14,intV i)],
  [(64,some (.box [.c (.sl (Bb s.slots)),.c (.sl (Bi s.trail))])),(128,some (.box (wc (AU c t)))),(192,some (.box (wc goal.row))),(449,some (.arr 5 (wr (Ty.rows is)) 0))]⟩) c ⟨⟨[],[]⟩,[],⟨rfl,by omega,by simp,by simp⟩,by simp,rfl,by simp,by simp[AU]⟩ ?_ ?_
 .rintro i st hi ⟨s,is,h1,h2,h3,h4,rfl⟩
  have hf:=MS (A:=A) s (by have:=h1.1;omega) (by have:=h1.2.2.1;omega) 1000000 false;have hsl:=h1.1;rw[hsl]at hf;unfold Gp;simp(disch:=try exact zd) [hi,hf,h3,-getElem?_pos];refine⟨⟨s.slots++[AL 1000000 false],s.trail++[⟨i,AL 0 false,true⟩]⟩,h1.fresh (by omega) (by omega),by simp;omega,is++[.mk 1 [] i 0 []],by simp[h3],?_,⟨rfl,rfl⟩,rfl⟩;intro x hx;rcases qp.1 hx with hx|hx
  .exact⟨(h4 x hx).1.mono (by omega),(h4 x hx).2⟩
  .simp only [qk] at hx
   subst hx;exact⟨H9 (by omega),by simp[Ty.size_leaf]⟩
 .rintro st ⟨s,is,h1,h2,h3,h4,rfl⟩
  have hop:=KY (A:=A) is (by omega) t (by omega);have hoS:tyS c (Cp is t):=Oz (fun x hx=>(h4 x hx).1) (by rw[h3];exact ht.mono (qac _) (qg _));have hoZ:=NU (qg 1) (fun x hx=>(h4 x hx).2) t;generalize Cp is t=w at *
  unfold Gp;simp(disch:=try exact zd) [hop,h3,-getElem?_pos];refine Ak (I0 c n goal w is) n ⟨c,s,w,[],[],h1,by omega,by omega,by omega,hoS,by omega,rfl,by simp,SpineOk.nil s w,.inl rfl,by simp⟩ ?_ ?_
  .intro j st hj hI
   exact Zci c hc goal w is n hn _ j st hj hI
  .rintro st ⟨m,s,u,ar,tail,q1,q2,q3,q4,q5,q6,q7,q8,q10,q9,rfl⟩
   obtain⟨_,⟨u1,w1,w2,_,rfl⟩,hw⟩:=MC (A:=A) s q1 u q5 q6;obtain⟨_,⟨s1,m1,m2,x1,rfl⟩,hm1⟩:=TO (A:=A) s u1 q1 w1 w2 (by omega);obtain⟨_,⟨s2,m3,m4,x2,rfl⟩,hm2⟩:=TO (A:=A) s1 goal m1 (hg.mono (qac _)) (by omega) (by omega);obtain⟨_,⟨s3,e,m5,m6,x3,rfl⟩,hun⟩:=ZdF (A:=A) s2 u1 goal m3 w1 w2 hg (by omega) (by omega);obtain⟨k,_,_,hsz,hszr,_⟩:=HN (A:=A) s3 m5 200 (by omega) w (hoS.mono q2) (by omega)
   have hsz':(K A).call 234 [stoV s3,tyV w,intV 200] []=some (intV k,[]):=hsz;unfold El;rcases q9 with rfl|⟨ta,tb,tr,tq,rfl⟩
   all_goals
    rcases Gk (A:=A) u1 with ⟨a,b,hab,har⟩|har
    .simp (maxSteps:=9^7) (disch:=try exact zd) [q7,hw,har,-getElem?_pos]
     exact Hf
    .by_cases he:e=0
     .by_cases hk:200<k
      .have hki:(200:Int)<k:=by omega
       simp(maxSteps:=9^7) (disch:=try exact zd) [q7,hw,har,hm1,hm2,hun,he,hsz',hk,hki,-getElem?_pos];exact Hf
      .have hki:¬(200:Int)<k:=by omega
       obtain⟨U,_,hU,hUk,_⟩:=hszr (by omega);have hres:=(q10 s3 ((x1.trans x2).trans x3) U hU (by omega)).1;simp(maxSteps:=9^7) (disch:=try exact zd) [q7,hw,har,hm1,hm2,hun,he,hsz',hk,hki,-getElem?_pos]
       first
        |exact RJ (c:=c) s3 m5 is ar hn q7 q8 hres [] Ke
        |exact RJ (c:=c) s3 m5 is ar hn q7 q8 hres [(6976,some (.box _)),(7040,some (.box _)),(7744,some (.arr 5 _ _))] (IA _ _ _ _)
     .simp (maxSteps:=9^7) (disch:=try exact zd) [q7,hw,har,hm1,hm2,hun,he,-getElem?_pos]
      exact Hf
end Go.Vs.Tryz
namespace Go.Vs
open Go
structure HeadD where
 name:Str
 con:Bool
 args:List Ty
 types:List Ty
def Ce (h:HeadD):List Cell:=[.str h.name,.bool h.con,.sl (Ty.rows h.args),.sl (Ty.rows h.types)]
def B9 (l:List HeadD):List (List Cell):=l.map Ce
@[simp] theorem hdRow_len (h:HeadD):(Ce h).length=4:=rfl
@[simp] theorem hdRows_len (l:List HeadD):(B9 l).length=l.length:=by simp[B9]
@[simp] theorem hdRows_get (l:List HeadD) (i:Nat):(B9 l)[i]?=(l[i]?).map Ce:=by simp[B9]
@[simp] theorem okRows_hd (l:List HeadD):AW 4 (wr (B9 l))=true:=CV l hdRow_len
@[simp] theorem hdRows0:B9 []=[]:=rfl
@[simp] theorem hdRows_app (l m:List HeadD):wr (B9 l)++wr (B9 m)=wr (B9 (l++m)):=by simp[B9,wr]
@[simp] theorem hdRows_snoc (l:List HeadD) (h:HeadD):wr (B9 l)++[wc (Ce h)]=wr (B9 (l++[h])):=by simp[B9,wr]
section
variable (h:HeadD)
@[simp] theorem cut_hd0:cut (Ce h) 0 1=some [.str h.name]:=rfl
@[simp] theorem cut_hd1:cut (Ce h) 1 1=some [.bool h.con]:=rfl
@[simp] theorem cut_hd2:cut (Ce h) 2 1=some [.sl (Ty.rows h.args)]:=rfl
@[simp] theorem cut_hd3:cut (Ce h) 3 1=some [.sl (Ty.rows h.types)]:=rfl
@[simp] theorem cut_hd:cut (Ce h) 0 4=some (Ce h):=rfl
@[simp] theorem cutw_hd0:cut (wc (Ce h)) 0 1=some [.c (.str h.name)]:=rfl
@[simp] theorem cutw_hd1:cut (wc (Ce h)) 1 1=some [.c (.bool h.con)]:=rfl
@[simp] theorem cutw_hd2:cut (wc (Ce h)) 2 1=some [.c (.sl (Ty.rows h.args))]:=rfl
@[simp] theorem cutw_hd:cut (wc (Ce h)) 0 4=some (wc (Ce h)):=rfl
end
end Go.Vs
namespace Go.Vs.Tryz
open Go Go.Vs
variable {A:Af}
def TJ (nm:Str)(con:Bool)(h:HeadD):Prop:=h.name=nm/\h.con=con/\h.args.length<=3/\∀x∈h.args,∃M,tyS M x/\x.size<=4000
def ZdA (nm:Str)(con:Bool)(r:V×List Obj):Prop:=∃hs:List HeadD,hs.length<=4/\(∀h∈hs,TJ nm con h)/\r=(.sc (.c (.sl (B9 hs))),[])
theorem UB (nm:Str)(con:Bool)(c:Nat)(hc:c<=900)(t goal:Ty)(ht:tyB 0 c t)(htl:t.size<=1000000)(hg:tyS 0 goal)(hgl:goal.size<=900000):
 ∃r,ZdA nm con r/\(K A).call 193 [stoV ⟨[],[]⟩,schV c t,tyV goal,CM [],intV 3,.ag [.c (.str nm),.c (.bool con),.c (.sl []),.c (.sl [])]] []=some r:=by
 refine fnE v193 ?_;unfold v193;simp(disch:=try exact zd);refine Ak (fun i st=>∃hs:List HeadD,hs.length<=i/\(∀h∈hs,TJ nm con h)/\st=⟨[(3,CM []),(4,intV 3),(6,.sc (.ptr 64 0)),(7,.sc (.ptr 128 0)),(8,.sc (.ptr 192 0)),(11,.sc (.ptr 256 0)),(13,.sc (.arr 385 hs.length)),(14,intV i)],
  [(64,some (.box [.c (.sl []),.c (.sl [])])),(128,some (.box (wc (AU c t)))),(192,some (.box (wc goal.row))),(256,some (.box [.c (.str nm),.c (.bool con),.c (.sl []),.c (.sl [])])),(385,some (.arr 4 (wr (B9 hs)) 0))]⟩) 4 ⟨[],by simp,by simp,by simp⟩ ?_ ?_
 .rintro i st hi ⟨hs,h1,h2,rfl⟩
  obtain⟨_,⟨b,l2,e1,e2,rfl⟩,hel⟩:=Zcn (A:=A) c hc t goal ht htl hg hgl i (by omega);simp only[stoV,CM,slRows0,chRows0,assRows0]at hel;have hi3:(i:Int)<=3:=by omega
  unfold Ld;cases b with
  |false=>
   simp(disch:=try exact zd) [hi3,hel,-getElem?_pos];exact⟨hs,by omega,h2,by simp⟩
  |true=>
   simp(disch:=try exact zd) [hi3,hel,-getElem?_pos];refine⟨hs++[⟨nm,con,l2,[]⟩],by simp;omega,?_,by simp,?_⟩
   .intro h hh
    rcases qp.1 hh with hh|hh
    .exact h2 h hh
    .simp only [qk] at hh
     subst hh;exact⟨rfl,rfl,e1,e2⟩
   .rw [<-hdRows_snoc]
    simp[Ce]
 .rintro st ⟨hs,h1,h2,rfl⟩
  unfold Ld;simp(disch:=try exact zd) [-getElem?_pos];exact⟨hs,h1,h2,rfl⟩
variable {A:Af}
def elOk (ds:List DataD)(h:HeadD):Prop:=(h.con=false->h.name∈BQ)/\(h.con=true->cOk ds h.name)/\h.args.length<=3/\∀x∈h.args,∃M,tyS M x/\x.size<=4000
def Zaj (ds:List DataD)(r:V×List Obj):Prop:=∃hs:List HeadD,hs.length<=1000000/\(∀h∈hs,elOk ds h)/\r=(.sc (.c (.sl (B9 hs))),[])
theorem Zc0 {n m:Nat}(hn:n<=1000)(hm:m<=100000)(ds:List DataD)(hds:fitDs ds)(ctx:List EntD)(hctx:ctxOk n m ctx)(goal:Ty)(hg:tyS 0 goal)(hgl:goal.size<=900000):
 ∃r,Zaj ds r/\(K A).call 139 [Ar ds,Bc ctx,tyV goal,.sc (.c (.sl [])),intV 3] []=some r:=by
 have hnm:n*m<=100000000:=qt (Nat.mul_le_mul hn hm) (by omega);have hst:=Zbp (A:=A) (by omega) ctx hctx goal hg (by omega);have hrp:=HF (A:=A) [] (by simp) goal (by omega);rw[Uc goal hg]at hrp;obtain⟨hc1,hc2⟩:=hctx;have hs:=NX (A:=A) ctx (by omega);have hsl:=Hw ctx ctx.length;have hsub:=Gz ctx ctx.length;generalize B1 ctx ctx.length=l at *
 have hds1:=hds.1;simp only[stoV,CM,slRows0,chRows0,assRows0]at hst hrp;refine fnE v139 ?_;unfold v139;rcases Gk (A:=A) goal with ⟨a,b,_,har⟩|har
 .simp (disch:=try exact zd) [har,-getElem?_pos]
  exact⟨[],by simp,by simp,by simp⟩
 .simp (disch:=try exact zd) [har,hst,hrp,hs,-getElem?_pos]
  refine Ak (fun i st=>∃hl:List HeadD,hl.length<=4*i/\(∀h∈hl,elOk ds h)/\st=⟨[(0,Ar ds),(4,intV 3),(14,.sc (.ptr 1728 0)),(15,.sc (.c (.sl []))),(16,.sc (.ptr 2112 0)),(17,.sc (.arr 2241 hl.length)),(18,Bc l),(19,intV i)],
   [(1728,some (.box [.c (.sl []),.c (.sl [])])),(2112,some (.box (wc goal.row))),(2241,some (.arr 4 (wr (B9 hl)) 0))]⟩) l.length ⟨[],by simp,by simp,by simp⟩ ?_ ?_
  .rintro i st hi ⟨hl,h1,h2,rfl⟩
   obtain⟨x,hx⟩:=Ae hi;obtain⟨x1,⟨c,hc,hcl⟩,x3,x4⟩:=hc2 x (hsub x (qc hx));rw[hc,qai]at x3;have hap:=Zw (A:=A) [] (by simp) x.count x.ty (by omega);rw[Uc x.ty x3]at hap;obtain⟨_,⟨hs2,g1,g2,rfl⟩,hh⟩:=UB (A:=A) x.name false c (by omega) x.ty goal x3 (by omega) hg hgl;rw[<-hc]at hh;simp only[stoV,CM,slRows0,chRows0,assRows0]at hh hap;unfold G6;simp(disch:=try exact zd) [hi,hx,hap,hh,-getElem?_pos]
   refine⟨hl++hs2,by simp;omega,?_,by simp⟩;intro h hm2;rcases qp.1 hm2 with hm2|hm2
   .exact h2 h hm2
   .obtain ⟨k1,k2,k3,k4⟩:=g2 h hm2
    exact⟨fun _=>by rw[k1];exact x1,fun hcon=>absurd (k2.symm.trans hcon) (by simp),k3,k4⟩
  .rintro st ⟨hl,h1,h2,rfl⟩
   unfold G6;simp(disch:=try exact zd) [-getElem?_pos];refine Ak (fun i st=>∃hl2:List HeadD,hl2.length<=4*l.length+24*i/\(∀h∈hl2,elOk ds h)/\st=⟨[(0,Ar ds),(4,intV 3),(14,.sc (.ptr 1728 0)),(15,.sc (.c (.sl []))),(16,.sc (.ptr 2112 0)),(17,.sc (.arr 2241 hl2.length)),(21,intV i)],
    [(1728,some (.box [.c (.sl []),.c (.sl [])])),(2112,some (.box (wc goal.row))),(2241,some (.arr 4 (wr (B9 hl2)) 0))]⟩) ds.length ⟨hl,by omega,h2,by simp⟩ ?_ ?_
   .rintro i st hi ⟨hl2,h3,h4,rfl⟩
    obtain⟨d,hd⟩:=Ae hi;obtain⟨⟨hg1,hg2,hg3,hg4⟩,hff⟩:=hds.2 d (qc hd);unfold Lj;simp(disch:=try exact zd) [hi,hd,-getElem?_pos];refine Ak (fun k st=>∃hl3:List HeadD,hl3.length<=4*l.length+24*i+4*k/\(∀h∈hl3,elOk ds h)/\st=⟨[(0,Ar ds),(4,intV 3),(14,.sc (.ptr 1728 0)),(15,.sc (.c (.sl []))),(16,.sc (.ptr 2112 0)),(17,.sc (.arr 2241 hl3.length)),(21,intV i),(22,intV k)],
     [(1728,some (.box [.c (.sl []),.c (.sl [])])),(2112,some (.box (wc goal.row))),(2241,some (.arr 4 (wr (B9 hl3)) 0))]⟩) d.cons.length ⟨hl2,by omega,h4,by simp⟩ ?_ ?_
    .rintro k st hk ⟨hl3,h5,h6,rfl⟩
     obtain⟨cc,hcc⟩:=Ae hk;obtain⟨_,⟨c,u,b,u1,u2,u3,rfl⟩,hcon⟩:=ZD (A:=A) ds hds cc.name ⟨d,qc hd,cc,qc hcc,rfl⟩;obtain⟨_,⟨hs2,g1,g2,rfl⟩,hh⟩:=UB (A:=A) cc.name true c (by omega) u goal u2 (by omega) hg hgl;simp only[stoV,CM,slRows0,chRows0,assRows0]at hh;unfold JK;simp(disch:=try exact zd) [hi,hd,hk,hcc,hcon,hh,-getElem?_pos];refine⟨hl3++hs2,by simp;omega,?_,by simp⟩;intro h hm2
     rcases qp.1 hm2 with hm2|hm2
     .exact h6 h hm2
     .obtain ⟨k1,k2,k3,k4⟩:=g2 h hm2
      exact⟨fun hcon=>absurd (k2.symm.trans hcon) (by simp),fun _=>.inr ⟨d,qc hd,cc,qc hcc,k1⟩,k3,k4⟩
    .rintro st ⟨hl3,h5,h6,rfl⟩
     unfold JK;simp(disch:=try exact zd) [hi,hd,-getElem?_pos];exact⟨hl3,by omega,h6,by simp⟩
   .rintro st ⟨hl2,h3,h4,rfl⟩
    unfold Lj;simp(disch:=try exact zd) [-getElem?_pos];exact⟨hl2,by omega,h4,rfl⟩
variable {A:Af}
def tyG (t:Ty):Prop:=tyS 0 t/\rigB t
theorem Xu {s:Str}{l:List Ty}(h:∀x∈l,rigB x):rigB (.mk 4 s 0 0 l):=Ty.all_iff.2 ⟨fun hk=>absurd (show(4:Int)=3 from hk.1) (by decide),h⟩
theorem HC {s:Str}{l:List Ty}(hs:CK s l.length)(h:∀x∈l,tyG x):tyG (.mk 4 s 0 0 l):=⟨JM hs fun x hx=>(h x hx).1,Xu fun x hx=>(h x hx).2⟩
theorem KZ:tyG (.mk 4 [73,110,116] 0 0 []):=HC (.inr (.inl ⟨rfl,rfl⟩)) fun x hx=>by cases hx
def EC (L:List Int)(m:Nat)(r:V×List Obj):Prop:=∃t J,tyG t/\t.size<=m/\J<=L.length/\r=(tyV t,[Am L J])
def WS (L:List Int)(ds:List DataD)(ls:List Ty)(dd:DataD)(d i:Nat)(s:St):Prop:=∃tys J,tys.length=i/\(∀x∈tys,tyG x/\x.size<=5 ^ d)/\J<=L.length/\
 s=⟨[(0,.sc (.ptr 0 0)),(1,Ar ds),(2,tysV ls),(3,intV (d+1)),(8,.sc (.ptr 64 0)),(10,.sc (.ptr 3392 0)),(11,.sc (.arr 3521 i)),(12,intV i)],
  [(0,some (Am L J)),(64,some (.box [zi,zs,zi,zi,.nil])),(3392,some (.box (wc (A8 dd)))),(3521,some (.arr 5 (wr (Ty.rows tys)) 0))]⟩
theorem PW (L:List Int)(ds:List DataD)(ls:List Ty)(hL:L.length<=687194767360)(hds:fitDs ds)(hls:0<ls.length)(hls2:ls.length<=100)(hls3:∀x∈ls,tyG x/\x.size=1):∀(d I:Nat),d<=100->I<=L.length->
 ∃r,EC L (5 ^ d) r/\(K A).call 45 [.sc (.ptr 0 0),Ar ds,tysV ls,intV d] [Am L I]=some r:=by
 intro d;have leafCase:∀(d I k J:Nat),k<3->J<=L.length->(K A).call 62 [.sc (.ptr 0 0),intV 7] [Am L I]=some (intV k,[Am L J])->
  ∃r,EC L (5 ^ d) r/\(K A).call 45 [.sc (.ptr 0 0),Ar ds,tysV ls,intV d] [Am L I]=some r:=by
  intro d I k J h3 hJ hc;obtain⟨m,J1,hm,hJ1,hc1⟩:=Bv (A:=A) L J ls.length hJ hL (by omega) (by omega);obtain⟨x,hx⟩:=Ae (l:=ls) (i:=m) (by omega);have hm':(m:Int)<ls.length:=hm;have h3':(k:Int)<3:=by omega
  refine fnE v45 ?_;unfold v45;simp(disch:=try exact zd) [hc,h3',hls,hc1,hx,-getElem?_pos];exact⟨x,J1,(hls3 x (qc hx)).1,by rw[(hls3 x (qc hx)).2];exact Nat.pos_of_ne_zero (by simp),hJ1,rfl⟩
 have intSz:(Ty.mk 4 [73,110,116] 0 0 []).size=1:=Ty.size_leaf
 induction d with
 |zero=>
  intro I _ hI;obtain⟨k,J,hk,hJ,hc⟩:=Bv (A:=A) L I 7 hI hL (by omega) (by omega);by_cases h3:k<3
  .exact leafCase 0 I k J h3 hJ hc
  .refine fnE v45 ?_
   have hi:=EM (A:=A);unfold v45;have h3':¬(k:Int)<3:=(by omega);by_cases h4:k<4
   .have h4':(k:Int)<4:=by omega
    simp(disch:=try exact zd) [hc,hi,h3',h4',-getElem?_pos];exact⟨_,J,KZ,by rw[intSz];exact qg _,hJ,rfl⟩
   .have h4':¬(k:Int)<4:=by omega
    simp(disch:=try exact zd) [hc,hi,h3',h4',-getElem?_pos];exact⟨_,J,KZ,by rw[intSz];exact qg _,hJ,rfl⟩
 |succ d ih=>
  intro I hd hI;obtain⟨k,J,hk,hJ,hc⟩:=Bv (A:=A) L I 7 hI hL (by omega) (by omega);by_cases h3:k<3
  .exact leafCase (d+1) I k J h3 hJ hc
  have hi:=EM (A:=A);have hd1:¬(d:Int)+1<1:=by omega
  have hp:1<=5 ^ d:=Nat.pos_of_ne_zero (by simp);have hp1:5 ^ (d+1)=5*5 ^ d:=by rw[qa0];omega
  have h3':¬(k:Int)<3:=by omega
  refine fnE v45 ?_;by_cases h4:k<4
  .have h4':(k:Int)<4:=by omega
   unfold v45;simp(disch:=try exact zd) [hc,hi,h3',h4',-getElem?_pos];exact⟨_,J,KZ,by rw[intSz];omega,hJ,rfl⟩
  .have h4':¬(k:Int)<4:=by omega
   by_cases hdata:ds≠[]/\k<6
   .have hpos:0<ds.length:=qZ.2 hdata.1
    have hds1:=hds.1;obtain⟨m,J1,hm,hJ1,hc1⟩:=Bv (A:=A) L J ds.length hJ hL (by omega) (by omega);obtain⟨dd,hdd⟩:=Ae (l:=ds) (i:=m) (by omega);have hfit:=hds.2 dd (qc hdd);have hgood:=hfit.1;have hm':(m:Int)<ds.length:=hm
    have fin:wp (K A) (.loop F2) (Bx 1 (BN (K A) (.seq (.region [] [o 77 (.fld 1 (tv 10)),o 78 (.load false 1 (tv 77)),o 79 (.mv (tv 11)),oa 80 (.call (kf 90) [(false,(tv 78)),(false,(tv 79))] []) 4992,on (.store 5 (tv 8) (tv 80) [])] [] [8]) .ret)
     (Bx 0 (BN (K A) (.seq (.region [] [o 81 (.mv (tv 0)),o 82 (.mv (tv 1)),o 83 (.mv (tv 2)),o 84 (.mv (tv 3)),o 85 (.bin .sub 0 (tv 84) (ki 1)),oa 86 (.call (kf 45) [(true,(tv 81)),(false,(tv 82)),(false,(tv 83)),(false,(tv 85))] []) 5440,oa 13 (.new [zi,zs,zi,zi,.nil] []) 5504,on (.store 5 (tv 13) (tv 86) [])] [] [0,1,2,3,8,13])
       (.seq (.region [] [o 87 (.load true 5 (tv 13)),o 88 (.mv (tv 0)),o 89 (.mv (tv 1)),o 90 (.mv (tv 2)),o 91 (.mv (tv 3)),o 92 (.bin .sub 0 (tv 91) (ki 1)),oa 93 (.call (kf 45) [(true,(tv 88)),(false,(tv 89)),(false,(tv 90)),(false,(tv 92))] []) 6016,oa 94 (.call (kf 85) [(false,(tv 87)),(false,(tv 93))] []) 6080,on (.store 5 (tv 8) (tv 94) [])] [(0,6)] [8]) .ret)) (BP false 1 [.cell 8 true 5] (EC L (5 ^ (d+1))))))))
     ⟨[(0,.sc (.ptr 0 0)),(1,Ar ds),(2,tysV ls),(3,intV (d+1)),(8,.sc (.ptr 64 0)),(10,.sc (.ptr 3392 0)),(11,.sc (.arr 3521 0)),(12,intV 0)],
       [(0,some (Am L J1)),(64,some (.box [zi,zs,zi,zi,.nil])),(3392,some (.box (wc (A8 dd)))),(3521,some (.arr 5 [] 0))]⟩:=by
     refine Ak (WS L ds ls dd d) dd.params.length ⟨[],J1,rfl,by simp,hJ1,by simp⟩ ?_ ?_
     .rintro i s hi' ⟨tys,J2,ht,hts,hJ2,rfl⟩
      obtain⟨r,⟨ty,J3,hGt,hty,hJ3,rfl⟩,hc2⟩:=ih J2 (by omega) hJ2;have hip:=hgood.1;unfold F2;simp(disch:=try exact zd) [hi',hc2,ht,-getElem?_pos];refine⟨tys++[ty],J3,by simp[ht],?_,hJ3,by simp⟩;intro x hx;rcases qp.1 hx with hx|hx
      .exact hts x hx
      .simp only [qk] at hx
       exact hx▸⟨hGt,hty⟩
     .rintro s ⟨tys,J2,ht,hts,hJ2,rfl⟩
      have hip:=hgood.1;have hcon:=GU (A:=A) dd.name tys (by omega);unfold F2;simp(disch:=try exact zd) [hcon,ht,-getElem?_pos];refine⟨_,J2,HC (by rw[ht];exact hfit.2.2.1) fun x hx=>(hts x hx).1,?_,hJ2,rfl⟩;have hs:=G3 fun x hx=>(hts x hx).2;have hm4:tys.length*5 ^ d<=4*5 ^ d:=qE _ (by omega);simp only[Ty.size,Ty.sizes_map];omega
    by_cases hk4:k=4
    .unfold v45
     simp(disch:=try exact zd) [hc,hi,h3',h4',hd1,hk4,hdata.1,hpos,hc1,hdd,-getElem?_pos];exact fin
    .have hk5:k=5:=by omega
     unfold v45;simp(disch:=try exact zd) [hc,hi,h3',h4',hd1,hk5,hdata.1,hpos,hc1,hdd,-getElem?_pos];exact fin
   .obtain ⟨r1,⟨t1,J1,hG1,ht1,hJ1,rfl⟩,hc1⟩:=ih J (by omega) hJ
    obtain⟨r2,⟨t2,J2,hG2,ht2,hJ2,rfl⟩,hc2⟩:=ih J1 (by omega) hJ1;have har:=H5 (A:=A) t1 t2;have hGa:tyG (.mk 4 [45,62] 0 0 [t1,t2]):=HC Hk fun x hx=>by
     simp only[qD,qY,or_false]at hx;rcases hx with rfl|rfl
     .exact hG1
     .exact hG2
    have hsz:(Ty.mk 4 [45,62] 0 0 [t1,t2]).size<=5 ^ (d+1):=by
     simp only[Ty.size,Ty.sizes];omega
    have hb4:¬((k:Int)=4/\0<ds.length):=by
     rintro⟨h1,h2⟩;exact hdata ⟨qZ.1 h2,by omega⟩
    have hb5:¬((k:Int)=5/\0<ds.length):=by
     rintro⟨h1,h2⟩;exact hdata ⟨qZ.1 h2,by omega⟩
    unfold v45;by_cases hz:ds=[]
    .subst hz
     simp only[Ar,dataRows0]at hc1 hc2;by_cases hk4:(k:Int)=4
     .simp (disch:=try exact zd) [hc,hi,h3',h4',hd1,hk4,hc1,hc2,har,-getElem?_pos]
      exact⟨_,J2,hGa,hsz,hJ2,rfl⟩
     .by_cases hk5:(k:Int)=5
      .simp (disch:=try exact zd) [hc,hi,h3',h4',hd1,hk4,hk5,hc1,hc2,har,-getElem?_pos]
       exact⟨_,J2,hGa,hsz,hJ2,rfl⟩
      .simp (disch:=try exact zd) [hc,hi,h3',h4',hd1,hk4,hk5,hc1,hc2,har,-getElem?_pos]
       exact⟨_,J2,hGa,hsz,hJ2,rfl⟩
    .have hk4:¬(k:Int)=4:=fun h=>hdata ⟨hz,by omega⟩
     have hk5:¬(k:Int)=5:=fun h=>hdata ⟨hz,by omega⟩;simp(disch:=try exact zd) [hc,hi,h3',h4',hd1,hk4,hk5,hc1,hc2,har,-getElem?_pos];exact⟨_,J2,hGa,hsz,hJ2,rfl⟩
def tyW (t:Ty):Prop:=tyG t/\Ty.all (fun u=>u.kind≠3) t
theorem Nq {s:Str}{l:List Ty}(hs:CK s l.length)(h:∀x∈l,tyW x):tyW (.mk 4 s 0 0 l):=⟨HC hs fun x hx=>(h x hx).1,Ty.all_iff.2 ⟨by show(4:Int)≠3;decide,fun x hx=>(h x hx).2⟩⟩
theorem Ij:tyW (.mk 4 [73,110,116] 0 0 []):=Nq (.inr (.inl ⟨rfl,rfl⟩)) fun x hx=>by cases hx
def Ti (L:List Int)(m:Nat)(r:V×List Obj):Prop:=∃t J,tyW t/\t.size<=m/\J<=L.length/\r=(tyV t,[Am L J])
def ZF (L:List Int)(ds:List DataD)(dd:DataD)(d i:Nat)(s:St):Prop:=∃tys J,tys.length=i/\(∀x∈tys,tyW x/\x.size<=5 ^ d)/\J<=L.length/\
 s=⟨[(0,.sc (.ptr 0 0)),(1,Ar ds),(2,.sc (.c (.sl []))),(3,intV (d+1)),(8,.sc (.ptr 64 0)),(10,.sc (.ptr 3392 0)),(11,.sc (.arr 3521 i)),(12,intV i)],
  [(0,some (Am L J)),(64,some (.box [zi,zs,zi,zi,.nil])),(3392,some (.box (wc (A8 dd)))),(3521,some (.arr 5 (wr (Ty.rows tys)) 0))]⟩
theorem Zae (L:List Int)(ds:List DataD)(hL:L.length<=687194767360)(hds:fitDs ds):∀(d I:Nat),d<=100->I<=L.length->
 ∃r,Ti L (5 ^ d) r/\(K A).call 45 [.sc (.ptr 0 0),Ar ds,.sc (.c (.sl [])),intV d] [Am L I]=some r:=by
 intro d;have intSz:(Ty.mk 4 [73,110,116] 0 0 []).size=1:=Ty.size_leaf
 induction d with
 |zero=>
  intro I _ hI;obtain⟨k,J,hk,hJ,hc⟩:=Bv (A:=A) L I 7 hI hL (by omega) (by omega);refine fnE v45 ?_;have hi:=EM (A:=A);unfold v45;by_cases h3:k<3
  .have h3':(k:Int)<3:=by omega
   have h4':(k:Int)<4:=(by omega);simp(disch:=try exact zd) [hc,hi,h3',h4',-getElem?_pos];exact⟨_,J,Ij,by rw[intSz];omega,hJ,rfl⟩
  .have h3':¬(k:Int)<3:=by omega
   by_cases h4:k<4
   .have h4':(k:Int)<4:=by omega
    simp(disch:=try exact zd) [hc,hi,h3',h4',-getElem?_pos];exact⟨_,J,Ij,by rw[intSz];omega,hJ,rfl⟩
   .have h4':¬(k:Int)<4:=by omega
    simp(disch:=try exact zd) [hc,hi,h3',h4',-getElem?_pos];exact⟨_,J,Ij,by rw[intSz];omega,hJ,rfl⟩
 |succ d ih=>
  intro I hd hI;obtain⟨k,J,hk,hJ,hc⟩:=Bv (A:=A) L I 7 hI hL (by omega) (by omega);have hi:=EM (A:=A);have hn:Ty.rows []=[]:=by rw[Ty.rows]
  have hd1:¬(d:Int)+1<1:=by omega
  have hp:1<=5 ^ d:=Nat.pos_of_ne_zero (by simp);have hp1:5 ^ (d+1)=5*5 ^ d:=by rw[qa0];omega
  refine fnE v45 ?_;by_cases h4:k<4
  .have h4':(k:Int)<4:=by omega
   unfold v45;by_cases h3:k<3
   .have h3':(k:Int)<3:=by omega
    simp(disch:=try exact zd) [hc,hi,h3',h4',-getElem?_pos];exact⟨_,J,Ij,by rw[intSz];omega,hJ,rfl⟩
   .have h3':¬(k:Int)<3:=by omega
    simp(disch:=try exact zd) [hc,hi,h3',h4',-getElem?_pos];exact⟨_,J,Ij,by rw[intSz];omega,hJ,rfl⟩
  .have h3':¬(k:Int)<3:=by omega
   have h4':¬(k:Int)<4:=(by omega);by_cases hdata:ds≠[]/\k<6
   .have hpos:0<ds.length:=qZ.2 hdata.1
    have hds1:=hds.1;obtain⟨m,J1,hm,hJ1,hc1⟩:=Bv (A:=A) L J ds.length hJ hL (by omega) (by omega);obtain⟨dd,hdd⟩:=Ae (l:=ds) (i:=m) (by omega);have hfit:=hds.2 dd (qc hdd);have hgood:=hfit.1;have hm':(m:Int)<ds.length:=hm
    have fin:wp (K A) (.loop F2) (Bx 1 (BN (K A) (.seq (.region [] [o 77 (.fld 1 (tv 10)),o 78 (.load false 1 (tv 77)),o 79 (.mv (tv 11)),oa 80 (.call (kf 90) [(false,(tv 78)),(false,(tv 79))] []) 4992,on (.store 5 (tv 8) (tv 80) [])] [] [8]) .ret)
     (Bx 0 (BN (K A) (.seq (.region [] [o 81 (.mv (tv 0)),o 82 (.mv (tv 1)),o 83 (.mv (tv 2)),o 84 (.mv (tv 3)),o 85 (.bin .sub 0 (tv 84) (ki 1)),oa 86 (.call (kf 45) [(true,(tv 81)),(false,(tv 82)),(false,(tv 83)),(false,(tv 85))] []) 5440,oa 13 (.new [zi,zs,zi,zi,.nil] []) 5504,on (.store 5 (tv 13) (tv 86) [])] [] [0,1,2,3,8,13])
       (.seq (.region [] [o 87 (.load true 5 (tv 13)),o 88 (.mv (tv 0)),o 89 (.mv (tv 1)),o 90 (.mv (tv 2)),o 91 (.mv (tv 3)),o 92 (.bin .sub 0 (tv 91) (ki 1)),oa 93 (.call (kf 45) [(true,(tv 88)),(false,(tv 89)),(false,(tv 90)),(false,(tv 92))] []) 6016,oa 94 (.call (kf 85) [(false,(tv 87)),(false,(tv 93))] []) 6080,on (.store 5 (tv 8) (tv 94) [])] [(0,6)] [8]) .ret)) (BP false 1 [.cell 8 true 5] (Ti L (5 ^ (d+1))))))))
     ⟨[(0,.sc (.ptr 0 0)),(1,Ar ds),(2,.sc (.c (.sl []))),(3,intV (d+1)),(8,.sc (.ptr 64 0)),(10,.sc (.ptr 3392 0)),(11,.sc (.arr 3521 0)),(12,intV 0)],
       [(0,some (Am L J1)),(64,some (.box [zi,zs,zi,zi,.nil])),(3392,some (.box (wc (A8 dd)))),(3521,some (.arr 5 [] 0))]⟩:=by
     refine Ak (ZF L ds dd d) dd.params.length ⟨[],J1,rfl,by simp,hJ1,by simp[hn]⟩ ?_ ?_
     .rintro i s hi' ⟨tys,J2,ht,hts,hJ2,rfl⟩
      obtain⟨r,⟨ty,J3,hGt,hty,hJ3,rfl⟩,hc2⟩:=ih J2 (by omega) hJ2;have hip:=hgood.1;unfold F2;simp(disch:=try exact zd) [hi',hc2,ht,-getElem?_pos];refine⟨tys++[ty],J3,by simp[ht],?_,hJ3,by simp⟩;intro x hx;rcases qp.1 hx with hx|hx
      .exact hts x hx
      .simp only [qk] at hx
       exact hx▸⟨hGt,hty⟩
     .rintro s ⟨tys,J2,ht,hts,hJ2,rfl⟩
      have hip:=hgood.1;have hcon:=GU (A:=A) dd.name tys (by omega);unfold F2;simp(disch:=try exact zd) [hcon,ht,-getElem?_pos];refine⟨_,J2,Nq (by rw[ht];exact hfit.2.2.1) fun x hx=>(hts x hx).1,?_,hJ2,rfl⟩;have hs:=G3 fun x hx=>(hts x hx).2;have hm4:tys.length*5 ^ d<=4*5 ^ d:=qE _ (by omega);simp only[Ty.size,Ty.sizes_map];omega
    by_cases hk4:k=4
    .unfold v45
     simp(disch:=try exact zd) [hc,hi,h3',h4',hd1,hk4,hdata.1,hpos,hc1,hdd,-getElem?_pos];exact fin
    .have hk5:k=5:=by omega
     unfold v45;simp(disch:=try exact zd) [hc,hi,h3',h4',hd1,hk5,hdata.1,hpos,hc1,hdd,-getElem?_pos];exact fin
   .obtain ⟨r1,⟨t1,J1,hG1,ht1,hJ1,rfl⟩,hc1⟩:=ih J (by omega) hJ
    obtain⟨r2,⟨t2,J2,hG2,ht2,hJ2,rfl⟩,hc2⟩:=ih J1 (by omega) hJ1;have har:=H5 (A:=A) t1 t2;have hGa:tyW (.mk 4 [45,62] 0 0 [t1,t2]):=Nq Hk fun x hx=>by
     simp only[qD,qY,or_false]at hx;rcases hx with rfl|rfl
     .exact hG1
     .exact hG2
    have hsz:(Ty.mk 4 [45,62] 0 0 [t1,t2]).size<=5 ^ (d+1):=by
     simp only[Ty.size,Ty.sizes];omega
    have hb4:¬((k:Int)=4/\0<ds.length):=by
     rintro⟨h1,h2⟩;exact hdata ⟨qZ.1 h2,by omega⟩
    have hb5:¬((k:Int)=5/\0<ds.length):=by
     rintro⟨h1,h2⟩;exact hdata ⟨qZ.1 h2,by omega⟩
    unfold v45;by_cases hz:ds=[]
    .subst hz
     have hz2:AC []=[]:=rfl;simp only[Ar,hz2]at hc1 hc2;by_cases hk4:(k:Int)=4
     .simp (disch:=try exact zd) [hc,hi,h3',h4',hd1,hk4,hc1,hc2,har,-getElem?_pos]
      exact⟨_,J2,hGa,hsz,hJ2,rfl⟩
     .by_cases hk5:(k:Int)=5
      .simp (disch:=try exact zd) [hc,hi,h3',h4',hd1,hk4,hk5,hc1,hc2,har,-getElem?_pos]
       exact⟨_,J2,hGa,hsz,hJ2,rfl⟩
      .simp (disch:=try exact zd) [hc,hi,h3',h4',hd1,hk4,hk5,hc1,hc2,har,-getElem?_pos]
       exact⟨_,J2,hGa,hsz,hJ2,rfl⟩
    .have hk4:¬(k:Int)=4:=fun h=>hdata ⟨hz,by omega⟩
     have hk5:¬(k:Int)=5:=fun h=>hdata ⟨hz,by omega⟩;simp(disch:=try exact zd) [hc,hi,h3',h4',hd1,hk4,hk5,hc1,hc2,har,-getElem?_pos];exact⟨_,J2,hGa,hsz,hJ2,rfl⟩
theorem Kw (L:List Int)(ds:List DataD)(hL:L.length<=687194767360)(hds:fitDs ds)(d I:Nat)(hd:d<=100)(hI:I<=L.length):
 ∃r,EC L (5 ^ d) r/\(K A).call 45 [.sc (.ptr 0 0),Ar ds,.sc (.c (.sl [])),intV d] [Am L I]=some r:=by
 obtain⟨_,⟨t,J,h1,h2,h3,rfl⟩,hc⟩:=Zae (A:=A) L ds hL hds d I hd hI;exact⟨_,⟨t,J,h1.1,h2,h3,rfl⟩,hc⟩
theorem tyW.wr {t:Ty}(h:tyW t):wrT t:=⟨h.1.1,h.2⟩
variable {A:Af}
theorem Zq {M:Nat}(x:Ty)(hx:tyS M x)(hl:x.size<=1000000):∃r,TyR 0 x.size r/\(K A).call 140 [tyV x] []=some r:=by
 obtain⟨_,⟨v,⟨g1,g2,g3⟩,rfl⟩,hv⟩:=IH (A:=A) (n:=M) (c:=0) [x] (by simp;omega) (fun u hu=>by rw[qk.1 hu];exact hx);have hn:Ty.rows [x]=[x.row]:=by simp[Ty.rows]
 have hv:(K A).call 195 [.sc (.c (.sl [x.row]))] []=some (Cl v,[]):=by rw[<-hn];exact hv
 have g1':v.length<=x.size:=by simpa using g1
 have hi:=EM (A:=A);refine fnE v140 ?_;unfold v140;simp(disch:=try exact zd) [hv];refine Ak (fun i st=>∃s:List AssD,s.length=i/\(∀(j:Nat) y,j<i->v[j]?=some y->∃a∈s,a.id=y)/\(∀a∈s,tyS 0 a.ty/\a.ty.size<=1)/\
  st=⟨[(1,.sc (.ptr 64 0)),(2,.sc (.ptr 128 0)),(3,Cl v),(4,.sc (.arr 449 i)),(5,intV i)],[(64,some (.box (wc x.row))),(128,some (.box [zi,zs,zi,zi,.nil])),(449,some (.arr 6 (wr (CY s)) 0))]⟩) v.length ⟨[],rfl,by omega,by simp,by simp⟩ ?_ ?_
 .rintro i st hi2 ⟨s,hs,q1,q2,rfl⟩
  obtain⟨y,hy⟩:=Ae hi2;have he:(W.c (.int .i64 y)::wc (Ty.mk 4 [73,110,116] 0 0 []).row)=wc (Bw ⟨y,.mk 4 [73,110,116] 0 0 []⟩):=rfl;unfold L9;simp(disch:=try exact zd) [hi2,hy,hi,he,hs,-getElem?_pos];refine⟨s++[⟨y,.mk 4 [73,110,116] 0 0 []⟩],by simp[hs],?_,?_,by simp⟩
  .intro j z hj hz
   by_cases hji:j<i
   .obtain ⟨a,ha,hai⟩:=q1 j z hji hz
    exact⟨a,by simp[ha],hai⟩
   .obtain rfl:j=i:=by omega
    rw[hy]at hz;cases hz;exact⟨_,qp.2 (.inr (qk.2 rfl)),rfl⟩
  .intro a ha
   rcases qp.1 ha with ha|ha
   .exact q2 a ha
   .simp only [qk] at ha
    subst ha;exact⟨Nu,by simp[Ty.size_leaf]⟩
 .rintro st ⟨s,hs,q1,q2,rfl⟩
  have hc:=HF (A:=A) s (by omega) x (by omega);have hS:tyS 0 (Bp s x):=K6 (c:=0) (l:=v) (fun i hi=>by
   obtain⟨j,hj,he⟩:=qO hi;exact q1 j i hj (by rw[qi hj,he])) (fun a ha=>(q2 a ha).1) hx (g2 x (by simp))
  have hz:=LX (qg 1) (fun a ha=>(q2 a ha).2) x;unfold L9;simp(disch:=try exact zd) [hc,hs,-getElem?_pos];exact⟨Bp s x,hS,by omega,rfl⟩
def wD:Nat->Nat
 |0=>1
 |d+1=>7*wD d+25
theorem HL:∀d,1<=wD d
 |0=>qg _
 |d+1=>by have:=HL d;simp only[wD];omega
theorem ZbG {d:Nat}(hd:d<=6):wD d<=1000000:=by
 have:d=0\/d=1\/d=2\/d=3\/d=4\/d=5\/d=6:=by omega
 rcases this with rfl|rfl|rfl|rfl|rfl|rfl|rfl<;>decide
def IZ (A:Af)(L:List Int)(ds:List DataD)(d:Nat):Prop:=∀(ctx:List EntD) (goal:Ty) (I:Nat),ctxOk (1000-4*d) 50000 ctx->tyS 0 goal->goal.size+10*d<=50000->I<=L.length->
 ∃r,MkR L ds (wD d) r/\(K A).call 44 [.sc (.ptr 0 0),Ar ds,Bc ctx,tyV goal,intV d] [Am L I]=some r
theorem ctxOk.up {n n2 m:Nat}{l:List EntD}(h:ctxOk n m l)(hn:n<=n2):ctxOk n2 m l:=⟨qt h.1 hn,h.2⟩
theorem ctxOk.push {n n2 m:Nat}{l:List EntD}(h:ctxOk n m l)(hn:n+1<=n2){s:Str}{c:Nat}{t:Ty}(hs:s∈BQ)(hc:c<=900)(ht:tyB 0 c t)(hz:t.size<=m):ctxOk n2 m (l++[⟨s,c,t⟩]):=by
 refine⟨by have:=h.1;simp;omega,fun x hx=>?_⟩;rcases qp.1 hx with hx|hx
 .exact h.2 x hx
 .simp only [qk] at hx
  subst hx;exact⟨hs,⟨c,rfl,hc⟩,ht,hz⟩
variable {A:Af}
theorem Mw {ds:List DataD}{e x:Exp}(he:mkE ds e)(hx:mkE ds x):mkE ds (.mk 5 0 [] 0 [e,x] [] tz):=by
 rw[FO];refine⟨by simp[mkE1,mkS,annT,numB,Exp.kind,Exp.pos,Exp.name,Exp.num,Exp.kids,Exp.arms,Exp.ty,tz,Ty.size_leaf],?_,by simp⟩;intro y hy;simp only[qD,qY,or_false]at hy;rcases hy with rfl|rfl
 .exact he
 .exact hx
theorem LZ (e x:Exp):(Exp.mk 5 0 [] 0 [e,x] [] tz).row=[.int .i64 5,.int .i64 0,.str [],.int .i64 0,.sl [e.row,x.row],.sl [],.int .i64 0,.str [],.int .i64 0,.int .i64 0,.sl []]:=by
 simp[Exp.row,tz,Ty.kind,Ty.name,Ty.id,Ty.home,Ty.args]
theorem M5 (e x:Exp):(Exp.mk 5 0 [] 0 [e,x] [] tz).weight=1+(e.weight+x.weight):=by
 rw[FK];simp
abbrev HB (k:Int)(s:Str):List W:=[.c (.int .i64 k),zi,.c (.str s),zi,.nil,.nil,zi,zs,zi,zi,.nil]
theorem ZfA (L:List Int)(ds:List DataD)(hL:L.length<=687194767360)(hds:fitDs ds)(d:Nat)(hd:d<=6)(ih:IZ A L ds d)(ctx:List EntD)(goal:Ty)(I:Nat)(hctx:ctxOk (1000-4*(d+1)) 50000 ctx)(hg:tyS 0 goal)(hgl:goal.size<=50000)(hI:I<=L.length):
 ∃r,MkR L ds (wD (d+1)) r/\(K A).call 89 [.sc (.ptr 0 0),Ar ds,Bc ctx,tyV goal,intV (d+1)] [Am L I]=some r:=by
 have hp:=HL d;have h32:wD (d+1)=(7*wD d+25):=rfl;rw[h32];obtain⟨_,⟨hl,hl1,hl2,rfl⟩,hlist⟩:=Zc0 (A:=A) (n:=1000) (m:=50000) (by omega) (by omega) ds hds ctx (hctx.up (by omega)) goal hg (by omega);refine fnE v89 ?_;unfold v89;cases hl with
 |nil=>
  obtain⟨_,⟨e,J,g1,g2,g3,rfl⟩,hleaf⟩:=J9 (A:=A) L ds hL (n:=1000) (by omega) ctx (hctx.up (by omega)) goal (by omega) I hI;simp only[hdRows0]at hlist;simp(disch:=try exact zd) [hlist,hleaf,-getElem?_pos];exact⟨e,J,g1,by omega,g3,rfl⟩
 |cons h0 hr=>
  obtain⟨q,J,hq,hJ,hc⟩:=Bv (A:=A) L I ((h0::hr).length:Nat) hI hL (by simp) (by simp only[qG]at hl1 |-;omega);obtain⟨h,hh⟩:=Ae (l:=h0::hr) (i:=q) (by omega);obtain⟨e1,e2,e3,e4⟩:=hl2 h (qc hh);have hql:(q:Int)<((h0::hr).length:Nat):=hq;have hne:¬((h0::hr).length:Nat)=0:=by simp
  generalize h0::hr=hl at *
  have hne':¬(hl.length:Int)=0:=by omega
  have hne2:hl≠[]:=fun h=>hne (by rw[h];rfl);have main:∀k:Int,mkE ds (.mk k 0 h.name 0 [] [] tz)->wp (K A) (.loop Iy) (Bx 0 (BN (K A) (.seq (.region [] [o 64 (.load true 11 (tv 13)),on (.store 11 (tv 10) (tv 64) [])] [] [10]) .ret) (BP false 1 [.cell 10 true 11] (MkR L ds ((7*wD d+25))))))
   ⟨[(0,.sc (.ptr 0 0)),(1,Ar ds),(2,Bc ctx),(4,intV (d+1)),(10,.sc (.ptr 128 0)),(12,.sc (.ptr 1536 0)),(13,.sc (.ptr 1856 0)),(14,intV 0)],
     [(0,some (Am L J)),(64,some (.box (wc goal.row))),(128,some (.box [zi,zi,zs,zi,.nil,.nil,zi,zs,zi,zi,.nil])),(1536,some (.box (wc (Ce h)))),(1856,some (.box (HB k h.name)))]⟩:=by
   intro k hk;refine Ak (fun i st=>∃(e:Exp) (J:Nat) (cs:List W),mkE ds e/\e.weight<=1+i*(1+wD d)/\J<=L.length/\(cs=wc e.row\/(cs=HB k h.name/\e=.mk k 0 h.name 0 [] [] tz))/\
    st=⟨[(0,.sc (.ptr 0 0)),(1,Ar ds),(2,Bc ctx),(4,intV (d+1)),(10,.sc (.ptr 128 0)),(12,.sc (.ptr 1536 0)),(13,.sc (.ptr 1856 0)),(14,intV i)],
     [(0,some (Am L J)),(64,some (.box (wc goal.row))),(128,some (.box [zi,zi,zs,zi,.nil,.nil,zi,zs,zi,zi,.nil])),(1536,some (.box (wc (Ce h)))),(1856,some (.box cs))]⟩) h.args.length
    ⟨_,J,HB k h.name,hk,by have:=FF k 0 h.name;omega,hJ,.inr ⟨rfl,rfl⟩,by simp⟩ ?_ ?_
   .rintro i st hi ⟨e,J2,cs,p1,p2,p3,p4,rfl⟩
    obtain⟨x,hx⟩:=Ae hi;obtain⟨M,x1,x2⟩:=e4 x (qc hx);obtain⟨_,⟨u,u1,u2,rfl⟩,hgr⟩:=Zq (A:=A) x x1 (by omega);obtain⟨_,⟨y,J3,y1,y2,y3,rfl⟩,hty⟩:=ih ctx u J2 (hctx.up (by omega)) u1 (by omega) p3;have hw:1+(e.weight+y.weight)<=1+(i+1)*(1+wD d):=(by rw[Nat.succ_mul];omega);unfold Iy;rcases p4 with rfl|⟨rfl,rfl⟩
    .simp (disch:=try exact zd) [hi,hx,hgr,hty,-getElem?_pos]
     exact⟨.mk 5 0 [] 0 [e,y] [] tz,Mw p1 y1,by rw[M5];exact hw,J3,y3,rfl,by rw[LZ];rfl⟩
    .simp (disch:=try exact zd) [hi,hx,hgr,hty,-getElem?_pos]
     exact⟨.mk 5 0 [] 0 [_,y] [] tz,Mw p1 y1,by rw[M5];exact hw,J3,y3,rfl,by rw[LZ,GS];rfl⟩
   .rintro st ⟨e,J2,cs,p1,p2,p3,p4,rfl⟩
    have hw:e.weight<=(7*wD d+25):=by
     have:h.args.length*(1+wD d)<=3*(1+wD d):=qE _ e3;omega
    unfold Iy;rcases p4 with rfl|⟨rfl,rfl⟩
    .simp (disch:=try exact zd) [-getElem?_pos]
     exact⟨e,J2,p1,hw,p3,rfl⟩
    .simp (disch:=try exact zd) [-getElem?_pos]
     exact⟨_,J2,p1,hw,p3,by simp[expV,GS]⟩
  cases hb:h.con with
  |true=>
   have hk:mkE ds (.mk 2 0 h.name 0 [] [] tz):=EK (by simp[mkE1,mkS,annT,numB,Exp.kind,Exp.pos,Exp.name,Exp.num,Exp.kids,Exp.arms,Exp.ty,tz,Ty.size_leaf,e2 hb]);simp(disch:=try exact zd) [hlist,hne,hne',hne2,hc,hql,hh,hb,-getElem?_pos];exact main 2 hk
  |false=>
   have hk:mkE ds (.mk 1 0 h.name 0 [] [] tz):=EK (by simp[mkE1,mkS,annT,numB,Exp.kind,Exp.pos,Exp.name,Exp.num,Exp.kids,Exp.arms,Exp.ty,tz,Ty.size_leaf,e1 hb]);simp(disch:=try exact zd) [hlist,hne,hne',hne2,hc,hql,hh,hb,-getElem?_pos];exact main 1 hk
variable {A:Af}
theorem I5 (k:Int)(e:Exp):e.weight<=687194767360->∃r,JZ r/\(K A).call 68 [expV e,intV k] []=some r:=by
 induction e using Exp.ind with
 |h e ih=>
 intro hl;have hle:=e.children_le;rw[e.children_len]at hle;have hc:=I8 (A:=A) e (by omega);refine fnE v68 ?_;unfold v68;by_cases hk:e.kind=k
 .simp (disch:=try exact zd) [hk,-getElem?_pos]
  exact⟨true,rfl⟩
 .simp (disch:=try exact zd) [hk,hc,-getElem?_pos]
  refine Ak (fun i s=>s=⟨[(1,intV k),(5,.sc (.arr 608 e.children.length)),(6,intV i)],[(608,some (.arr 11 (wr (Exp.rows e.children)) 0))]⟩) e.children.length (by simp) ?_ ?_
  .rintro i s hi rfl
   obtain⟨x,hx⟩:=Ae hi;have hmem:=qc hx;obtain⟨_,⟨b,rfl⟩,h68⟩:=ih x hmem (by have:=Exp.child_lt hmem;omega);rw[e.children_len]at hi;have hi':(i:Int)<(e.kids.length:Int)+e.arms.length:=(by omega);unfold M3;cases b with
   |true=>
    simp(disch:=try exact zd) [hi',hx,h68,-getElem?_pos];exact⟨true,rfl⟩
   |false=>simp(disch:=try exact zd) [hi',hx,h68,-getElem?_pos]
  .rintro s rfl
   unfold M3;simp(disch:=try exact zd) [-getElem?_pos];exact⟨false,rfl⟩
theorem VJ {ds:List DataD}{k:Int}{s:Str}(hk:k=6\/k=7)(hs:s∈BQ){e x:Exp}(he:mkE ds e)(hx:mkE ds x):mkE ds (.mk k 0 s 0 [e,x] [] tz):=by
 rw[FO];refine⟨?_,?_,by simp⟩
 .refine ⟨rfl,by simp [Exp.arms],by simp [Exp.ty,tz,Ty.size_leaf],⟨fun _=>rfl,fun h=>absurd (show k=9 from h) (by omega)⟩,⟨fun _=>rfl,by show (0:Int)<=0;decide,by show (0:Int)<=999;decide⟩,?_⟩
  exact .inr (.inr (.inr (.inr (.inr (.inl ⟨hk,hs,⟨e,x,rfl⟩,rfl⟩)))))
 .intro y hy
  simp only[qD,qY,or_false]at hy;rcases hy with rfl|rfl
  .exact he
  .exact hx
theorem Cx (k:Int)(s:Str)(e x:Exp):(Exp.mk k 0 s 0 [e,x] [] tz).row=[.int .i64 k,.int .i64 0,.str s,.int .i64 0,.sl [e.row,x.row],.sl [],.int .i64 0,.str [],.int .i64 0,.int .i64 0,.sl []]:=by
 simp[Exp.row,tz,Ty.kind,Ty.name,Ty.id,Ty.home,Ty.args]
theorem Zei (k:Int)(s:Str)(e x:Exp):(Exp.mk k 0 s 0 [e,x] [] tz).weight=1+(e.weight+x.weight):=by
 rw[FK];simp
def Fk:List Ty:=[.mk 3 [] 0 99 [],.mk 3 [] 1 99 []]
theorem ZcW:∀x∈Fk,tyG x/\x.size=1:=by
 intro x hx;simp only[Fk,qD,qY,or_false]at hx;rcases hx with rfl|rfl
 .exact⟨⟨K8,Ty.all_iff.2 ⟨fun _=>by decide,fun x hx=>by cases hx⟩⟩,Ty.size_leaf⟩
 .exact⟨⟨K8,Ty.all_iff.2 ⟨fun _=>by decide,fun x hx=>by cases hx⟩⟩,Ty.size_leaf⟩
theorem Uv:Ty.rows Fk=[(Ty.mk 3 [] 0 99 []).row,(Ty.mk 3 [] 1 99 []).row]:=by simp[Fk,Ty.rows]
theorem Zfb (L:List Int)(ds:List DataD)(hL:L.length<=687194767360)(hds:fitDs ds)(d:Nat)(hd:d<=6)(ih:IZ A L ds d)(ctx:List EntD)(goal:Ty)(I:Nat)(hctx:ctxOk (1000-4*(d+1)) 50000 ctx)(hg:tyS 0 goal)(hgl:goal.size+10*(d+1)<=50000)(hI:I<=L.length):
 ∃r,MkR L ds (wD (d+1)) r/\(K A).call 86 [.sc (.ptr 0 0),Ar ds,Bc ctx,tyV goal,intV (d+1)] [Am L I]=some r:=by
 have hp:=HL d;have h32:wD (d+1)=(7*wD d+25):=rfl;rw[h32];obtain⟨k2,J1,hk2,hJ1,hc1⟩:=Bv (A:=A) L I 2 hI hL (by omega) (by omega);obtain⟨s,J2,hs,hJ2,hc2⟩:=R1 (A:=A) L J1 hJ1 hL;obtain⟨b,J3,hb,hJ3,hc3⟩:=Bv (A:=A) L J2 2 hJ2 hL (by omega) (by omega);have hsA:=Lz hs;have hr0:=LE (A:=A) 99 0;have hr1:=LE (A:=A) 99 1;have hint:=EM (A:=A)
 obtain⟨_,⟨x,J4,hxG,hxz,hJ4,rfl⟩,hx0⟩:∃r,EC L 25 r/\(K A).call 45 [.sc (.ptr 0 0),Ar ds,.sc (.c (.sl (if b=0 then Ty.rows Fk else []))),intV 2] [Am L J3]=some r:=by
  by_cases hb0:b=0
  .obtain ⟨r,h1,h2⟩:=PW (A:=A) L ds Fk hL hds (by simp [Fk]) (by simp [Fk]) ZcW 2 J3 (by omega) hJ3
   exact⟨r,h1,by rw[if_pos hb0];exact h2⟩
  .obtain ⟨r,h1,h2⟩:=Kw (A:=A) L ds hL hds 2 J3 (by omega) hJ3
   exact⟨r,h1,by rw[if_neg hb0];exact h2⟩
 have hmx:=GQ (A:=A) x;have hpx:=FC (A:=A) ctx s 0 x (by have:=hctx.1;omega);have hin:ctxOk (1000-4*d) 50000 (if k2=1 then ctx++[⟨s,0,x⟩] else ctx):=by
  split
  .exact hctx.push (c:=0) (by omega) hsA (by omega) hxG.1 (by omega)
  .exact hctx.up (by omega)
 obtain⟨_,⟨e1,J5,g1,g2,g3,rfl⟩,ht1⟩:=ih _ x J4 hin hxG.1 (by omega) hJ4;obtain⟨_,⟨c,u,u1,u2,u3,rfl⟩,hcl⟩:=Zm (A:=A) x (by omega) hxG.1 hxG.2;have hw1:e1.weight<=687194767360:=qt g2 (qt (ZbG hd) (by decide));obtain⟨_,⟨p,rfl⟩,hh1⟩:=I5 (A:=A) 10 e1 hw1;obtain⟨_,⟨q,rfl⟩,hh2⟩:=I5 (A:=A) 11 e1 hw1;have hmi:=GQ (A:=A) (.mk 4 [73,110,116] 0 0 []);have hp1:=FC (A:=A) ctx s c u (by have:=hctx.1;omega)
 have hp2:=FC (A:=A) ctx s 0 (.mk 4 [73,110,116] 0 0 []) (by have:=hctx.1;omega);obtain⟨_,⟨e2,J6,y1,y2,y3,rfl⟩,ht2⟩:=ih (ctx++[⟨s,c,u⟩]) goal J5 (hctx.push (by omega) hsA (by omega) u2 (by omega)) hg (by omega) g3;obtain⟨_,⟨e3,J7,z1,z2,z3,rfl⟩,ht3⟩:=ih (ctx++[⟨s,0,.mk 4 [73,110,116] 0 0 []⟩]) goal J5 (hctx.push (c:=0) (by omega) hsA (by omega) Nu (by rw[Ty.size_leaf];omega)) hg (by omega) g3
 have res:∀(k:Int) (f:Exp) (J:Nat),k=6\/k=7->mkE ds f->f.weight<=wD d->J<=L.length->MkR L ds ((7*wD d+25)) (expV (.mk k 0 s 0 [e1,f] [] tz),[Am L J]):=
  fun k f J hk hf hw hJ=>⟨_,J,VJ hk hsA g1 hf,by rw[Zei];omega,hJ,rfl⟩
 refine fnE v86 ?_;unfold v86;obtain rfl|rfl:k2=0\/k2=1:=by omega
 .rw [if_neg (by decide)] at ht1
  obtain rfl|rfl:b=0\/b=1:=by omega
  .rw [if_pos (by decide),Uv] at hx0
   cases p with
   |true=>
    simp(maxSteps:=9^7) (disch:=try exact zd) [hc1,hc2,hc3,hr0,hr1,hint,hx0,hmx,hpx,ht1,hcl,hh1,hh2,hmi,hp1,hp2,ht2,ht3,-getElem?_pos];have:=res 6 e3 J7 (by omega) z1 z2 z3;simpa[expV,Cx]using this
   |false=>
    cases q with
    |true=>
     simp(maxSteps:=9^7) (disch:=try exact zd) [hc1,hc2,hc3,hr0,hr1,hint,hx0,hmx,hpx,ht1,hcl,hh1,hh2,hmi,hp1,hp2,ht2,ht3,-getElem?_pos];have:=res 6 e3 J7 (by omega) z1 z2 z3;simpa[expV,Cx]using this
    |false=>
     simp(maxSteps:=9^7) (disch:=try exact zd) [hc1,hc2,hc3,hr0,hr1,hint,hx0,hmx,hpx,ht1,hcl,hh1,hh2,hmi,hp1,hp2,ht2,ht3,-getElem?_pos];have:=res 6 e2 J6 (by omega) y1 y2 y3;simpa[expV,Cx]using this
  .rw [if_neg (by decide)] at hx0
   cases p with
   |true=>
    simp(maxSteps:=9^7) (disch:=try exact zd) [hc1,hc2,hc3,hr0,hr1,hint,hx0,hmx,hpx,ht1,hcl,hh1,hh2,hmi,hp1,hp2,ht2,ht3,-getElem?_pos];have:=res 6 e3 J7 (by omega) z1 z2 z3;simpa[expV,Cx]using this
   |false=>
    cases q with
    |true=>
     simp(maxSteps:=9^7) (disch:=try exact zd) [hc1,hc2,hc3,hr0,hr1,hint,hx0,hmx,hpx,ht1,hcl,hh1,hh2,hmi,hp1,hp2,ht2,ht3,-getElem?_pos];have:=res 6 e3 J7 (by omega) z1 z2 z3;simpa[expV,Cx]using this
    |false=>
     simp(maxSteps:=9^7) (disch:=try exact zd) [hc1,hc2,hc3,hr0,hr1,hint,hx0,hmx,hpx,ht1,hcl,hh1,hh2,hmi,hp1,hp2,ht2,ht3,-getElem?_pos];have:=res 6 e2 J6 (by omega) y1 y2 y3;simpa[expV,Cx]using this
 .rw [if_pos (by decide)] at ht1
  obtain rfl|rfl:b=0\/b=1:=by omega
  .rw [if_pos (by decide),Uv] at hx0
   cases p with
   |true=>
    simp(maxSteps:=9^7) (disch:=try exact zd) [hc1,hc2,hc3,hr0,hr1,hint,hx0,hmx,hpx,ht1,hcl,hh1,hh2,hmi,hp1,hp2,ht2,ht3,-getElem?_pos];have:=res 7 e3 J7 (by omega) z1 z2 z3;simpa[expV,Cx]using this
   |false=>
    cases q with
    |true=>
     simp(maxSteps:=9^7) (disch:=try exact zd) [hc1,hc2,hc3,hr0,hr1,hint,hx0,hmx,hpx,ht1,hcl,hh1,hh2,hmi,hp1,hp2,ht2,ht3,-getElem?_pos];have:=res 7 e3 J7 (by omega) z1 z2 z3;simpa[expV,Cx]using this
    |false=>
     simp(maxSteps:=9^7) (disch:=try exact zd) [hc1,hc2,hc3,hr0,hr1,hint,hx0,hmx,hpx,ht1,hcl,hh1,hh2,hmi,hp1,hp2,ht2,ht3,-getElem?_pos];have:=res 7 e2 J6 (by omega) y1 y2 y3;simpa[expV,Cx]using this
  .rw [if_neg (by decide)] at hx0
   cases p with
   |true=>
    simp(maxSteps:=9^7) (disch:=try exact zd) [hc1,hc2,hc3,hr0,hr1,hint,hx0,hmx,hpx,ht1,hcl,hh1,hh2,hmi,hp1,hp2,ht2,ht3,-getElem?_pos];have:=res 7 e3 J7 (by omega) z1 z2 z3;simpa[expV,Cx]using this
   |false=>
    cases q with
    |true=>
     simp(maxSteps:=9^7) (disch:=try exact zd) [hc1,hc2,hc3,hr0,hr1,hint,hx0,hmx,hpx,ht1,hcl,hh1,hh2,hmi,hp1,hp2,ht2,ht3,-getElem?_pos];have:=res 7 e3 J7 (by omega) z1 z2 z3;simpa[expV,Cx]using this
    |false=>
     simp(maxSteps:=9^7) (disch:=try exact zd) [hc1,hc2,hc3,hr0,hr1,hint,hx0,hmx,hpx,ht1,hcl,hh1,hh2,hmi,hp1,hp2,ht2,ht3,-getElem?_pos];have:=res 7 e2 J6 (by omega) y1 y2 y3;simpa[expV,Cx]using this
variable {A:Af}
abbrev zE:List W:=[zi,zi,zs,zi,.nil,.nil,zi,zs,zi,zi,.nil]
def ArgA (L:List Int)(ds:List DataD)(ctx:List EntD)(goal:Ty)(dd:DataD)(d i:Nat)(s:St):Prop:=∃tys J,tys.length=i/\(∀x∈tys,tyG x/\x.size<=5)/\J<=L.length/\
 s=⟨[(0,.sc (.ptr 0 0)),(1,Ar ds),(2,Bc ctx),(4,intV (d+1)),(8,.sc (.ptr 64 0)),(10,.sc (.ptr 128 0)),(11,.sc (.ptr 1216 0)),(12,.sc (.arr 1345 i)),(13,intV i)],
  [(0,some (Am L J)),(64,some (.box (wc goal.row))),(128,some (.box zE)),(1216,some (.box (wc (A8 dd)))),(1345,some (.arr 5 (wr (Ty.rows tys)) 0))]⟩
def ArmA (L:List Int)(ds:List DataD)(ctx:List EntD)(goal:Ty)(dd:DataD)(tys:List Ty)(x:Exp)(B d i:Nat)(s:St):Prop:=∃arms J,arms.length=i/\J<=L.length/\(∀a∈arms,armM ds a/\mkE ds a.2/\a.2.weight<=B)/\
 s=⟨[(0,.sc (.ptr 0 0)),(1,Ar ds),(2,Bc ctx),(4,intV (d+1)),(8,.sc (.ptr 64 0)),(10,.sc (.ptr 128 0)),(11,.sc (.ptr 1216 0)),(12,.sc (.arr 1345 tys.length)),(14,.sc (.ptr 3200 0)),(15,intV i)],
  [(0,some (Am L J)),(64,some (.box (wc goal.row))),(128,some (.box zE)),(1216,some (.box (wc (A8 dd)))),(1345,some (.arr 5 (wr (Ty.rows tys)) tys.length)),(3072,some (.arr 11 [wc x.row] 0)),
    (3200,some (.box [.c (.int .i64 8),zi,zs,zi,.arr 3072 1,.arr 3270 i,zi,zs,zi,zi,.nil])),(3270,some (.arr 14 (wr (Exp.armRows arms)) 0))]⟩
def xyzw:List Str:=[[120],[121],[122],[119]]
def VarA (L:List Int)(ds:List DataD)(ctx:List EntD)(goal:Ty)(dd:DataD)(tys:List Ty)(x:Exp)(arms:List (ArmH×Exp))(con:Str)(f:List Ty)(J d n i j:Nat)(s:St):Prop:=∃vars inner,vars.length=j/\vars=xyzw.take j/\ctxOk (n+j) 50000 inner/\
 s=⟨[(0,.sc (.ptr 0 0)),(1,Ar ds),(2,Bc ctx),(4,intV (d+1)),(8,.sc (.ptr 64 0)),(10,.sc (.ptr 128 0)),(11,.sc (.ptr 1216 0)),(12,.sc (.arr 1345 tys.length)),(14,.sc (.ptr 3200 0)),(15,intV i),
  (16,tysV f),(18,.sc (.ptr 5056 0)),(19,Bc inner),(20,intV j)],
  [(0,some (Am L J)),(64,some (.box (wc goal.row))),(128,some (.box zE)),(1216,some (.box (wc (A8 dd)))),(1345,some (.arr 5 (wr (Ty.rows tys)) tys.length)),(3072,some (.arr 11 [wc x.row] 0)),
    (3200,some (.box [.c (.int .i64 8),zi,zs,zi,.arr 3072 1,.arr 3270 i,zi,zs,zi,zi,.nil])),(3270,some (.arr 14 (wr (Exp.armRows arms)) 0)),
    (5056,some (.box [zi,.c (.str con),.arr 5123 j,zi,zi,zs,zi,.nil,.nil,zi,zs,zi,zi,.nil])),(5123,some (.arr 1 (wr (Aq vars)) 0))]⟩
theorem VN (L:List Int)(ds:List DataD)(hL:L.length<=687194767360)(hds:fitDs ds)(d:Nat)(hd:d<=6)(ih:IZ A L ds d)(ctx:List EntD)(goal:Ty)(I:Nat)(hctx:ctxOk (1000-4*(d+1)) 50000 ctx)(hg:tyS 0 goal)(hgl:goal.size+10*(d+1)<=50000)(hI:I<=L.length):
 ∃r,MkR L ds (wD (d+1)) r/\(K A).call 87 [.sc (.ptr 0 0),Ar ds,Bc ctx,tyV goal,intV (d+1)] [Am L I]=some r:=by
 have hp:=HL d;have h32:wD (d+1)=(7*wD d+25):=rfl;rw[h32];refine fnE v87 ?_;unfold v87;by_cases hz:ds=[]
 .subst hz
  obtain⟨_,⟨e,J,g1,g2,g3,rfl⟩,hleaf⟩:=J9 (A:=A) L [] hL (n:=1000) (by omega) ctx (hctx.up (by omega)) goal (by omega) I hI;have hz2:AC []=[]:=rfl;simp only[Ar,hz2]at hleaf;simp(disch:=try exact zd) [Ar,hz2,hleaf,-getElem?_pos];exact⟨e,J,g1,by omega,g3,rfl⟩
 .have hpos:ds.length≠0:=by have:=qZ.2 hz;omega
  have hds1:=hds.1;have hN:∀I,I<=L.length->∃r,EC L 5 r/\(K A).call 45 [.sc (.ptr 0 0),Ar ds,.sc (.c (.sl [])),intV 1] [Am L I]=some r:=fun I h=>Kw (A:=A) L ds hL hds 1 I (by omega) h;obtain⟨m,J1,hm,hJ1,hc1⟩:=Bv (A:=A) L I ds.length hI hL (by omega) (by omega);obtain⟨dd,hdd⟩:=Ae (l:=ds) (i:=m) (by omega);obtain⟨⟨hg1,hg2,hg3,hg4⟩,hfit⟩:=hds.2 dd (qc hdd)
  simp(disch:=try exact zd) [hz,hpos,hc1,hdd,-getElem?_pos];refine Ak (ArgA L ds ctx goal dd d) dd.params.length ⟨[],J1,rfl,by simp,hJ1,by simp⟩ ?_ ?_
  .rintro i s hi ⟨tys,J2,ht,hts,hJ2,rfl⟩
   obtain⟨_,⟨ty,J3,hGt,hty,hJ3,rfl⟩,hc2⟩:=hN J2 hJ2;unfold Ho;simp(disch:=try exact zd) [hi,hc2,ht,-getElem?_pos];refine⟨tys++[ty],J3,by simp[ht],?_,hJ3,by simp⟩;intro x hx;rcases qp.1 hx with hx|hx
   .exact hts x hx
   .simp only [qk] at hx
    exact hx▸⟨hGt,hty⟩
  .rintro s ⟨tys,J2,ht,hts,hJ2,rfl⟩
   have hcon:=GU (A:=A) dd.name tys (by omega);have hgz:(Ty.mk 4 dd.name 0 0 tys).size<=40:=by
    have hs:=G3 fun x hx=>(hts x hx).2;have hm4:tys.length*5<=4*5:=qE _ (by omega);simp only[Ty.size,Ty.sizes_map];omega
   have hgs:tyS 0 (Ty.mk 4 dd.name 0 0 tys):=(HC (by rw[ht];exact hfit.2.1) fun x hx=>(hts x hx).1).1;obtain⟨_,⟨x,J3,x1,x2,x3,rfl⟩,hx⟩:=ih ctx _ J2 (hctx.up (by omega)) hgs (by omega) hJ2;unfold Ho;rw[<-ht];simp(disch:=try exact zd) [hcon,ht,hx,-getElem?_pos];refine Ak (ArmA L ds ctx goal dd tys x (wD d) d) dd.cons.length ⟨[],J3,rfl,x3,by simp,by simp[ht]⟩ ?_ ?_
   .rintro i s hi ⟨arms,J4,harms,hJ4,hall,rfl⟩
    obtain⟨cc,hcc⟩:=Ae hi;have hmem:=qc hcc;obtain⟨_,⟨f,b,f1,f2,rfl⟩,hf⟩:=V3 (A:=A) (n:=0) (m:=5) (by omega) (by omega) ds hds cc.name ⟨dd,qc hdd,cc,hmem,rfl⟩ tys (by omega) (fun x hx=>⟨(hts x hx).1.1,(hts x hx).2⟩);unfold LQ;simp(disch:=try exact zd) [hi,hcc,harms,hf,-getElem?_pos]
    refine Ak (VarA L ds ctx goal dd tys x arms cc.name f J4 d (1000-4*(d+1)) i) f.length ⟨[],ctx,rfl,rfl,hctx,by simp[harms]⟩ ?_ ?_
    .rintro j s hj ⟨vars,inner,hvars,hvn,hin,rfl⟩
     obtain⟨y,hy⟩:=Ae hj;obtain⟨y1,y2⟩:=f2 y (qc hy);have hmo:=GQ (A:=A) y;have hpu:=fun s=>FC (A:=A) inner s 0 y (by have:=hin.1;omega);have nxt:∀s∈BQ,ctxOk (1000-4*(d+1)+(j+1)) 50000 (inner++[⟨s,0,y⟩]):=fun s hs=>hin.push (c:=0) (by omega) hs (by omega) y1 (by omega);unfold Jw;have:j=0\/j=1:=(by omega);rcases this with rfl|rfl
     .have hjI:(0:Int)<f.length:=by omega
      have hnb:Ax (intV 0) 4=some 0:=rfl;have hnf:Ax (intV 0) f.length=some 0:=natBelow_cast (n:=0) (by omega);have hlit:([[.c (.str [120])],[.c (.str [121])],[.c (.str [122])],[.c (.str [119])]]:List (List W))[0]?=some [.c (.str [120])]:=rfl;simp(maxSteps:=9^7) (disch:=try exact zd) [hi,hj,hjI,hlit,hnb,hnf,hcc,hy,hmo,hpu,hvars,harms,-getElem?_pos]
      exact⟨vars++[[120]],inner++[⟨[120],0,y⟩],by simp[hvars],by rw[hvn];rfl,nxt [120] (by decide),by simp[harms]⟩
     .have hjI:(1:Int)<f.length:=by omega
      have hnb:Ax (intV 1) 4=some 1:=rfl;have hnf:Ax (intV 1) f.length=some 1:=natBelow_cast (n:=1) (by omega);have hlit:([[.c (.str [120])],[.c (.str [121])],[.c (.str [122])],[.c (.str [119])]]:List (List W))[1]?=some [.c (.str [121])]:=rfl;simp(maxSteps:=9^7) (disch:=try exact zd) [hi,hj,hjI,hlit,hnb,hnf,hcc,hy,hmo,hpu,hvars,harms,-getElem?_pos]
      exact⟨vars++[[121]],inner++[⟨[121],0,y⟩],by simp[hvars],by rw[hvn];rfl,nxt [121] (by decide),by simp[harms]⟩
    .rintro s ⟨vars,inner,hvars,hvn,hin,rfl⟩
     obtain⟨_,⟨y,J5,y1,y2,y3,rfl⟩,hty⟩:=ih inner goal J4 (hin.up (by omega)) hg (by omega) hJ4;unfold Jw;simp(disch:=try exact zd) [hi,hcc,hty,hvars,harms,-getElem?_pos];refine⟨arms++[(⟨0,cc.name,vars⟩,y)],J5,by simp[harms],y3,?_,?_⟩
     .intro a ha
      rcases qp.1 ha with ha|ha
      .exact hall a ha
      .simp only [qk] at ha
       subst ha;exact⟨⟨rfl,.inr ⟨dd,qc hdd,cc,hmem,rfl⟩,by simp only;omega,by show vars.Nodup;rw[hvn];exact(List.take_sublist _ _).nodup (by decide),fun v hv=>(show ∀v∈xyzw,v∈BQ by decide) v (qad (by rw[<-hvn];exact hv))⟩,y1,y2⟩
     .simp[harms,Exp.armRows_map,wr,AH]
   .rintro s ⟨arms,J4,harms,hJ4,hall,rfl⟩
    unfold LQ;simp(disch:=try exact zd) [harms,-getElem?_pos];refine⟨.mk 8 0 [] 0 [x] arms tz,J4,?_,?_,hJ4,?_⟩
    .rw [FO]
     refine⟨?_,by simp[x1],fun a ha=>(hall a ha).2.1⟩;refine⟨rfl,fun a ha=>(hall a ha).1,by simp[Exp.ty,tz,Ty.size_leaf],⟨fun _=>rfl,fun h=>absurd (show(8:Int)=9 from h) (by decide)⟩,⟨fun _=>rfl,by show(0:Int)<=0;decide,by show(0:Int)<=999;decide⟩,?_⟩;have harm0:arms≠[]:=fun h=>by rw[h]at harms;simp at harms;omega
     simp[mkS,Exp.kind,Exp.name,Exp.kids,Exp.arms,harm0]
    .rw [FK]
     have h1:(arms.map fun a=>a.1.vars.length).sum<=(arms.map fun _=>4).sum:=FJ fun a ha=>qt (hall a ha).1.2.2.1 (by decide);have h2:(arms.map fun a=>a.2.weight).sum<=(arms.map fun _=>wD d).sum:=FJ fun a ha=>(hall a ha).2.2;simp only[List.map_const',List.sum_replicate_nat,harms]at h1 h2;simp only[qu,qaj,qaa,qbn];have h3:dd.cons.length*wD d<=6*wD d:=qE _ hg3;omega
    .simp[expV,Exp.row,tz,Ty.kind,Ty.name,Ty.id,Ty.home,Ty.args]
variable {A:Af}
theorem OY {ds:List DataD}{k:Int}{s:Str}(hk:(k=4/\s∈BQ)\/(k=11/\s=[])){x:Exp}(hx:mkE ds x):mkE ds (.mk k 0 s 0 [x] [] tz):=by
 rw[FO];refine⟨?_,by simp[hx],by simp⟩;refine⟨rfl,by simp[Exp.arms],by simp[Exp.ty,tz,Ty.size_leaf],⟨fun _=>rfl,fun h=>absurd (show k=9 from h) (by omega)⟩,⟨fun _=>rfl,by show(0:Int)<=0;decide,by show(0:Int)<=999;decide⟩,?_⟩;rcases hk with ⟨rfl,hs⟩|⟨rfl,rfl⟩
 .simp[mkS,Exp.kind,Exp.name,Exp.kids,Exp.arms,hs]
 .simp[mkS,Exp.kind,Exp.name,Exp.kids,Exp.arms]
theorem Ye {ds:List DataD}{t:Ty}(ht:t.size<=687194767360)(htw:wrT t){x:Exp}(hx:mkE ds x):mkE ds (.mk 9 0 [] 0 [x] [] t):=by
 rw[FO];refine⟨?_,by simp[hx],by simp⟩;refine⟨rfl,by simp[Exp.arms],ht,⟨fun h=>absurd rfl h,fun _=>htw⟩,⟨fun _=>rfl,by show(0:Int)<=0;decide,by show(0:Int)<=999;decide⟩,?_⟩;simp[mkS,Exp.kind,Exp.name,Exp.kids,Exp.arms]
theorem MX (k:Int)(s:Str)(x:Exp)(t:Ty):(Exp.mk k 0 s 0 [x] [] t).weight=1+x.weight:=by
 rw[FK];simp
theorem Ur (k:Int)(s:Str)(x:Exp):(Exp.mk k 0 s 0 [x] [] tz).row=[.int .i64 k,.int .i64 0,.str s,.int .i64 0,.sl [x.row],.sl [],.int .i64 0,.str [],.int .i64 0,.int .i64 0,.sl []]:=by
 simp[Exp.row,tz,Ty.kind,Ty.name,Ty.id,Ty.home,Ty.args]
theorem ZcB (L:List Int)(ds:List DataD)(hL:L.length<=687194767360)(hds:fitDs ds):∀(d:Nat),d<=6->IZ A L ds d:=by
 intro d
 induction d with
 |zero=>
  intro _ ctx goal I hctx hg hgl hI;obtain⟨_,⟨e,J,g1,g2,g3,rfl⟩,hleaf⟩:=J9 (A:=A) L ds hL (n:=1000) (by omega) ctx hctx goal (by omega) I hI;refine fnE v44 ?_;unfold v44;simp(disch:=try exact zd) [hleaf,-getElem?_pos];exact⟨e,J,g1,by simp only[wD];omega,g3,rfl⟩
 |succ d ih0=>
  intro hd ctx goal I hctx hg hgl hI;have ih:=ih0 (by omega);have hp:=HL d;have h32:wD (d+1)=(7*wD d+25):=rfl;have hd1:¬(d:Int)+1<1:=by omega
  obtain⟨k9,J0,hk9,hJ0,hc9⟩:=Bv (A:=A) L I 9 hI hL (by omega) (by omega);refine fnE v44 ?_;unfold v44;by_cases h90:k9=0
  .obtain ⟨_,⟨e,J,g1,g2,g3,rfl⟩,hleaf⟩:=J9 (A:=A) L ds hL (n:=1000) (by omega) ctx (hctx.up (by omega)) goal (by omega) J0 hJ0
   subst h90;simp(disch:=try exact zd) [hd1,hc9,hleaf,-getElem?_pos];exact⟨e,J,g1,by omega,g3,rfl⟩
  .have h90':¬(k9:Int)=0:=by omega
   obtain⟨k,J1,hk,hJ1,hc⟩:=Bv (A:=A) L J0 10 hJ0 hL (by omega) (by omega);have hw:∀e:Exp,e.weight<=wD d->1+e.weight<=wD (d+1):=fun e h=>by omega
   obtain⟨rh,hrh,hhead⟩:=ZfA (A:=A) L ds hL hds d (by omega) ih ctx goal J1 hctx hg (by omega) hJ1;obtain⟨eh,Jh,q1,q2,q3,rfl⟩:=hrh;rcases Gk (A:=A) goal with ⟨a,b,hab,har⟩|har
   .have ha:=hg.arg (x:=a) (by simp [hab])
    have hb:=hg.arg (x:=b) (by simp[hab]);have hsa:=Ty.arg_lt (t:=goal) (x:=a) (by simp[hab]);have hsb:=Ty.arg_lt (t:=goal) (x:=b) (by simp[hab]);by_cases h7:k<7
    .have h7':(k:Int)<7:=by omega
     obtain⟨s,J2,hs,hJ2,hcv⟩:=R1 (A:=A) L J1 hJ1 hL;have hmo:=GQ (A:=A) a;have hpu:=FC (A:=A) ctx s 0 a (by have:=hctx.1;omega);obtain⟨_,⟨x,J3,x1,x2,x3,rfl⟩,hx⟩:=ih (ctx++[⟨s,0,a⟩]) b J2 (hctx.push (c:=0) (by omega) (Lz hs) (by omega) ha (by omega)) hb (by omega) hJ2;simp(disch:=try exact zd) [hd1,hc9,h90,h90',har,hc,h7',hcv,hmo,hpu,hx,-getElem?_pos]
     exact⟨_,J3,OY (.inl ⟨rfl,Lz hs⟩) x1,by rw[MX];exact hw _ x2,x3,by rw[expV,Ur];rfl⟩
    .have h7':¬(k:Int)<7:=by omega
     have h2':¬(k:Int)<2:=(by omega);have e2:¬(k:Int)=2:=(by omega);have n2:¬k=2:=(by omega);have e3:¬(k:Int)=3:=(by omega);have n3:¬k=3:=(by omega);have e4:¬(k:Int)=4:=(by omega);have n4:¬k=4:=(by omega);have e5:¬(k:Int)=5:=(by omega);have n5:¬k=5:=(by omega);simp(maxSteps:=9^7) (disch:=try exact zd) [hd1,hc9,h90,h90',har,hc,h7',h2',e2,e3,e4,e5,n2,n3,n4,n5,hhead,-getElem?_pos];exact⟨eh,Jh,q1,q2,q3,rfl⟩
   .by_cases h2:k<2
    .have h2':(k:Int)<2:=by omega
     obtain⟨_,⟨t,J2,hGt,ht,hJ2,rfl⟩,hty⟩:∃r,EC L 5 r/\(K A).call 45 [.sc (.ptr 0 0),Ar ds,.sc (.c (.sl [])),intV 1] [Am L J1]=some r:=Kw (A:=A) L ds hL hds 1 J1 (by omega) hJ1;have harr:=H5 (A:=A) t goal;have hS:tyS 0 (.mk 4 [45,62] 0 0 [t,goal]):=JM Hk fun x hx=>by
      simp only[qD,qY,or_false]at hx;rcases hx with rfl|rfl
      .exact hGt.1
      .exact hg
     have hz:(Ty.mk 4 [45,62] 0 0 [t,goal]).size=1+(t.size+(goal.size+0)):=(by simp only[Ty.size,Ty.sizes]);obtain⟨_,⟨x,J3,x1,x2,x3,rfl⟩,hx⟩:=ih ctx _ J2 (hctx.up (by omega)) hS (by omega) hJ2;obtain⟨_,⟨y,J4,y1,y2,y3,rfl⟩,hy⟩:=ih ctx t J3 (hctx.up (by omega)) hGt.1 (by omega) x3;simp(maxSteps:=9^7) (disch:=try exact zd) [hd1,hc9,h90,h90',har,hc,h2',hty,harr,hx,hy,-getElem?_pos]
     exact⟨_,J4,Mw x1 y1,by rw[M5];omega,y3,by rw[expV,LZ];rfl⟩
    .have h2':¬(k:Int)<2:=by omega
     by_cases e2:k=2
     .obtain ⟨_,⟨e,J,g1,g2,g3,rfl⟩,hlet⟩:=Zfb (A:=A) L ds hL hds d (by omega) ih ctx goal J1 hctx hg hgl hJ1
      subst e2;simp(disch:=try exact zd) [hd1,hc9,h90,h90',har,hc,hlet,-getElem?_pos];exact⟨e,J,g1,g2,g3,rfl⟩
     .have e2':¬(k:Int)=2:=by omega
      by_cases e3:k=3
      .obtain ⟨_,⟨e,J,g1,g2,g3,rfl⟩,hana⟩:=VN (A:=A) L ds hL hds d (by omega) ih ctx goal J1 hctx hg hgl hJ1
       subst e3;simp(disch:=try exact zd) [hd1,hc9,h90,h90',har,hc,hana,-getElem?_pos];exact⟨e,J,g1,g2,g3,rfl⟩
      .have e3':¬(k:Int)=3:=by omega
       obtain⟨_,⟨x,J2,x1,x2,x3,rfl⟩,hx⟩:=ih ctx goal J1 (hctx.up (by omega)) hg (by omega) hJ1;by_cases e4:k=4
       .subst e4
        obtain⟨_,⟨p,hp3,rfl⟩,hc1⟩:=Qb (A:=A) 3 goal (by omega);obtain⟨_,⟨q,_,rfl⟩,hc2⟩:=Qb (A:=A) 1 goal (by omega);cases p with
        |true=>
         simp(maxSteps:=9^7) (disch:=try exact zd) [hd1,hc9,h90,h90',har,hc,hc1,hc2,hhead,-getElem?_pos];exact⟨eh,Jh,q1,q2,q3,rfl⟩
        |false=>
         cases q with
         |true=>
          simp(maxSteps:=9^7) (disch:=try exact zd) [hd1,hc9,h90,h90',har,hc,hc1,hc2,hhead,-getElem?_pos];exact⟨eh,Jh,q1,q2,q3,rfl⟩
         |false=>
          simp(maxSteps:=9^7) (disch:=try exact zd) [hd1,hc9,h90,h90',har,hc,hc1,hc2,hx,-getElem?_pos];exact⟨_,J2,Ye (t:=goal) (by omega) ⟨hg,hp3 rfl⟩ x1,by rw[MX];exact hw _ x2,x3,by simp[expV,Exp.row,Ty.row_eq]⟩
       .have e4':¬(k:Int)=4:=by omega
        by_cases e5:k=5
        .subst e5
         simp(maxSteps:=9^7) (disch:=try exact zd) [hd1,hc9,h90,h90',har,hc,hx,-getElem?_pos];exact⟨_,J2,OY (.inr ⟨rfl,rfl⟩) x1,by rw[MX];exact hw _ x2,x3,by rw[expV,Ur];rfl⟩
        .have e5':¬(k:Int)=5:=by omega
         simp(maxSteps:=9^7) (disch:=try exact zd) [hd1,hc9,h90,h90',har,hc,h2',e2',e3',e4',e5',e2,e3,e4,e5,hhead,-getElem?_pos];exact⟨eh,Jh,q1,q2,q3,rfl⟩
variable {A:Af}
def PC (t:Ty)(out:List Str)(r:V×List Obj):Prop:=∃o2:List Str,out.length<=o2.length/\o2.length<=out.length+t.size/\r=(.sc (.arr 0 o2.length),[.arr 1 (wr (Aq o2)) 0])
theorem Y2:∀(n:Nat)(t:Ty)(out:List Str),t.size<=n->out.length+t.size<=687194767360->
 ∃r,PC t out r/\(K A).call 167 [.sc (.arr 0 out.length),tyV t] [.arr 1 (wr (Aq out)) 0]=some r:=by
 intro n
 induction n with
 |zero=>
  intro t out ht;have:=t.size_pos;omega
 |succ n ih=>
  intro t out ht hn;have hal:=t.args_lt;have hpos:=t.size_pos;have hts:=t.size_eq;refine fnE v167 ?_;have kids:∀out1:List Str,out.length<=out1.length->out1.length<=out.length+1->wp (K A) (.loop JN) (Bx 0 (BN (K A) (.seq (.region [] [o 35 (.mv (tv 0)),o 4 (.mv (tv 35))] [] [4]) .ret) (BP true 1 [.tmp 4] (PC t out))))
   ⟨[(0,.sc (.arr 0 out1.length)),(3,.sc (.ptr 64 0)),(5,intV 0)],[(0,some (.arr 1 (wr (Aq out1)) 0)),(64,some (.box (wc t.row)))]⟩:=by
   intro out1 ha hb;refine Ak (fun i s=>∃o2:List Str,out1.length<=o2.length/\o2.length<=out1.length+((t.args.map Ty.size).take i).sum/\
    s=⟨[(0,.sc (.arr 0 o2.length)),(3,.sc (.ptr 64 0)),(5,intV i)],[(0,some (.arr 1 (wr (Aq o2)) 0)),(64,some (.box (wc t.row)))]⟩) t.args.length
    ⟨out1,by omega,by simp,by simp⟩ ?_ ?_
   .rintro i s hi ⟨o2,h0,h1,rfl⟩
    obtain⟨x,hx⟩:=Ae hi;have hxs:=Ty.arg_lt (qc hx);have hxm:(t.args.map Ty.size)[i]?=some x.size:=(by rw[qq,hx];rfl);have hsum:((t.args.map Ty.size).take (i+1)).sum=((t.args.map Ty.size).take i).sum+x.size:=(by rw[Bh hxm];simp);have hle:((t.args.map Ty.size).take (i+1)).sum<=(t.args.map Ty.size).sum:=DS;obtain⟨_,⟨o3,h3,h4,rfl⟩,hc⟩:=ih x o2 (by omega) (by omega);unfold JN
    simp(disch:=try exact zd) [hi,hx,hc,h3,-getElem?_pos];exact⟨o3,by omega,by omega,by simp⟩
   .rintro s ⟨o2,h0,h1,rfl⟩
    rw[qj (by simp)]at h1;unfold JN;simp(disch:=try exact zd);exact⟨o2,by omega,by omega,rfl⟩
  unfold v167;by_cases h1:t.kind=5
  .have hix:=OZ (A:=A) out t.name (by omega)
   by_cases h2:idxS out t.name<0
   .simp (disch:=try exact zd) [h1,hix,h2]
    have:=kids (out++[t.name]) (by simp) (by simp);simpa using this
   .simp (disch:=try exact zd) [h1,hix,h2]
    exact kids out (by omega) (by omega)
  .simp (disch:=try exact zd) [h1]
   exact kids out (by omega) (by omega)
def Zdj (n:Nat)(r:V×List Obj):Prop:=∃l:List Str,l.length<=n/\r=(AM l,[])
theorem Vy (t:Ty)(ht:t.size<=1000000):∃r,Zdj t.size r/\(K A).call 116 [tyV t] []=some r:=by
 obtain⟨_,⟨o2,h1,h2,rfl⟩,hc⟩:=Y2 (A:=A) t.size t [] (qg _) (by simp;omega);have hc:(K A).call 167 [.sc (.arr 0 0),tyV t] [.arr 1 [] 0]=some (.sc (.arr 0 o2.length),[.arr 1 (wr (Aq o2)) 0]):=by simpa using hc
 refine fnE v116 ?_;unfold v116;simp(disch:=try exact zd) [hc,-getElem?_pos];exact⟨o2,by simpa using h2,rfl⟩
def SigR (x:Ty)(r:V×List Obj):Prop:=∃(a b:Ty) (c:Nat),tyS 0 a/\a.size<=x.size/\c<=x.size/\tyB 0 c b/\b.size<=x.size/\r=(.tu [tyV a,schV c b],[])
theorem Tb (x:Ty)(hx:tyS 0 x)(hl:x.size<=1000000)(h:Int):∃r,SigR x r/\(K A).call 67 [tyV x,intV h] []=some r:=by
 obtain⟨_,⟨l,hl1,rfl⟩,hn⟩:=Vy (A:=A) x hl;have hb:=LP (A:=A) l (by omega) x (by omega);have hbz:=OL l x;have hbS:=NC (l:=l) hx;generalize BJ l x=u at *
 refine fnE v67 ?_;unfold v67;simp(disch:=try exact zd) [hn,hb,-getElem?_pos];refine Ak (fun i s=>∃args:List Ty,args.length=i/\(∀y∈args,tyS 0 y/\y.size<=1)/\s=⟨[(1,intV h),(4,.sc (.ptr 128 0)),(5,.sc (.ptr 192 0)),(6,AM l),(7,.sc (.ptr 640 0)),(8,.sc (.arr 769 i)),(9,intV i)],
  [(128,some (.box [zi,zs,zi,zi,.nil])),(192,some (.box [zi,zi,zs,zi,zi,.nil])),(640,some (.box (wc u.row))),(769,some (.arr 5 (wr (Ty.rows args)) 0))]⟩) l.length ⟨[],rfl,by simp,by simp⟩ ?_ ?_
 .rintro i s hi ⟨args,ha,hs,rfl⟩
  have hr:=LE (A:=A) h i;unfold Lm;simp(disch:=try exact zd) [hi,hr,ha,-getElem?_pos];refine⟨args++[.mk 3 [] i h []],by simp[ha],?_,by simp⟩;intro y hy;rcases qp.1 hy with hy|hy
  .exact hs y hy
  .simp only [qk] at hy
   subst hy;exact⟨K8,by rw[Ty.size_leaf];exact qg _⟩
 .rintro s ⟨args,ha,hs,rfl⟩
  have hop:=KY (A:=A) args (by omega) u (by omega);have hz:=NU (m:=1) (qg _) (fun y hy=>(hs y hy).2) u;unfold Lm;simp(disch:=try exact zd) [hop,ha,-getElem?_pos];exact⟨Cp args u,u,l.length,Oz (fun y hy=>(hs y hy).1) (by rw[ha];exact hbS),by omega,hl1,hbS,hbz,by simp[AU]⟩
theorem Zcg (x:Ty)(hx:tyS 0 x)(hl:x.size<=1000000):∃r,TyR 0 x.size r/\(K A).call 66 [tyV x] []=some r:=by
 obtain⟨_,⟨a,b,c,a1,a2,a3,a4,a5,rfl⟩,hs⟩:=Tb (A:=A) x hx hl 98;refine fnE v66 ?_;unfold v66;simp(disch:=try exact zd) [hs,-getElem?_pos];exact⟨a,a1,a2,rfl⟩
def nam3:List Ty:=[.mk 5 [97] 0 0 [],.mk 5 [98] 0 0 [],.mk 5 [99] 0 0 []]
theorem ML (s:Str):(K A).call 115 [strV s] []=some (tyV (.mk 5 s 0 0 []),[]):=by
 refine fnO v115 ?_;unfold v115;simp(disch:=try exact zd) [Ty.row]
theorem XW:(K A).call 63 [] []=some (tysV nam3,[]):=by
 have h1:=ML (A:=A) [97];have h2:=ML (A:=A) [98];have h3:=ML (A:=A) [99];refine fnO v63 ?_;unfold v63;simp(disch:=try exact zd) [h1,h2,h3,nam3,Ty.rows]
theorem Zef:∀x∈nam3,tyG x/\x.size=1:=by
 intro x hx;simp only[nam3,qD,qY,or_false]at hx;rcases hx with rfl|rfl|rfl
 all_goals exact⟨⟨ZZ ⟨by decide,⟨_,rfl,by decide,by decide⟩,by decide,by decide⟩,Ty.all_iff.2 ⟨fun h=>absurd h.1 (by decide),fun x hx=>by cases hx⟩⟩,Ty.size_leaf⟩
end Go.Vs.Tryz
