/- One head with some arguments, walked. -/
import Derived.Test.YtccmnfpbcmccpaaGreatDoorRMs
set_option linter.unusedSimpArgs false
set_option linter.unusedVariables false
set_option linter.deprecated false
set_option maxRecDepth 9999
set_option maxHeartbeats 32000000
namespace Go.Vs.Tryz
open Go Go.Vs
variable {A:Zab}
@[simp] theorem cutw_sc0 (c:Int) (t:Ty):cut (wc (Zbu c t)) 0 1=some [.c (.int .i64 c)]:=by rw[Zbu,Ty.row_eq];rfl
@[simp] theorem cutw_sc1 (c:Int) (t:Ty):cut (wc (Zbu c t)) 1 5=some (wc t.row):=by rw[Zbu,Ty.row_eq];rfl
theorem wc_ty (t:Ty):wc t.row=[.c (.int .i64 t.kind),.c (.str t.name),.c (.int .i64 t.id),.c (.int .i64 t.home),.c (.sl (Ty.rows t.args))]:=by rw[Ty.row_eq];rfl
def SpineOk (s:StoD)(w:Ty)(ar:List Ty)(u:Ty):Prop:=∀s',ext s s'->∀U,Res s' w U->U.size<=200->(∀x∈ar,∃v,Res s' x v/\v.size<=200)/\∃v,Res s' u v/\v.size<=200
theorem SpineOk.nil (s:StoD)(w:Ty):SpineOk s w [] w:=fun s' _ U hU hl=>⟨by simp,U,hU,hl⟩
theorem SpineOk.push {n:Nat}{s s1:StoD}{w u a b:Ty}{ar:List Ty}(h:SpineOk s w ar u)(he:ext s s1)(hs1:stoOk n s1)(hu:tyS n u)(hk:(ZbU s1 u).kind≠1)(hab:(ZbU s1 u).args=[a,b]):SpineOk s1 w (ar++[a]) b:=fun s' hs' U hU hl=>by
 obtain⟨h1,v,hv,hvl⟩:=h s' (he.trans hs') U hU hl;obtain⟨v1,v2,g1,g2,g3,g4⟩:=hv.two (by rw[ZxN hs1 hs' hu hk];exact hab);refine⟨fun x hx=>?_,v2,g2,by omega⟩;rcases ql.1 hx with hx|hx
 .exact h1 x hx
 .simp only [qj] at hx
  exact⟨v1,hx▸g1,by omega⟩
def ZqS (r:V×List Obj):Prop:=∃(b:Bool) (l2:List Ty),l2.length<=3/\(∀x∈l2,∃M,tyS M x/\x.size<=4000)/\r=(.tu [.sc (.c (.sl [])),tysV l2,Zae b],[])
theorem stoOk.fresh {n:Nat}{s:StoD}(hs:stoOk n s)(hn:n<1000)(ht:s.trail.length<1000000){h:Int}{b:Bool}{c:ChgD}:stoOk (n+1) ⟨s.slots++[Zby h b],s.trail++[c]⟩:=by
 obtain⟨h1,h2,h3,h4⟩:=hs;refine⟨by simp[h1],by omega,by simp;omega,?_⟩;intro x hx;rcases ql.1 hx with hx|hx
 .exact fun hb=>⟨(h4 x hx hb).1.mono (by omega),(h4 x hx hb).2⟩
 .simp only [qj] at hx
  subst hx;intro hb;cases hb
theorem ZrI (a b:Ty):(K A).call 84 [tyV (.mk 4 [45,62] 0 0 [a,b])] []=some (.tu [tyV a,tyV b,Zae true],[]):=by
 have hr:Ty.rows [a,b]=[a.row,b.row]:=by simp[Ty.rows]
 refine fnO v84 ?_;unfold v84;simp(disch:=first|exact zd|fail) [Ty.kind,Ty.name,Ty.args,hr]
def Zya (c n:Nat)(goal w:Ty)(is:List Ty)(j:Nat)(st:St):Prop:=∃(m:Nat) (s:StoD) (u:Ty) (ar:List Ty) (tail:List (Nat×Option Obj)),stoOk m s/\c<=m/\m<=c+2*j/\s.trail.length<=c+3*j/\tyS m u/\u.size<=1073741824/\ar.length=j/\(∀x∈ar,tyS m x/\x.size<=1073741824)/\SpineOk s w ar u/\
 (tail=[]\/∃a b rows q,tail=[(6976,some (.box a)),(7040,some (.box b)),(7744,some (.arr 5 rows q))])/\
 st=⟨[(3,ZfA []),(4,intV n),(5,.sc (.ptr 64 0)),(7,.sc (.ptr 192 0)),(16,.sc (.ptr 2112 0)),(17,.sc (.ptr 2304 0)),(18,.sc (.arr 2433 j))],
  [(64,some (.box [.c (.sl (Zbe s.slots)),.c (.sl (Zbp s.trail))])),(192,some (.box (wc goal.row))),(449,some (.arr 5 (wr (Ty.rows is)) c)),(2112,some (.box (wc w.row))),(2304,some (.box (wc u.row))),(2433,some (.arr 5 (wr (Ty.rows ar)) 0))]++tail⟩
theorem ZiW:ZqS (.tu [.sc (.c (.sl [])),.sc (.c (.sl [])),Zae false],[]):=⟨false,[],by simp,by simp,by simp⟩
theorem Zrk (c:Nat)(hc:c<=900)(goal w:Ty)(is:List Ty)(n:Nat)(hn:n<=3)(rest:VCode)(j:Nat)(st:St)(hj:j<n)(hI:Zya c n goal w is j st):
 wp (K A) Zf4 (fun e st=>(e=.normal/\Zya c n goal w is (j+1) st)\/(e≠.normal/\Zb5 2 (Zdt (K A) rest (Zeo false 0 [.tmp 10,.tmp 11,.tmp 12] ZqS)) e st)) st:=by
 obtain⟨m,s,u,ar,tail,q1,q2,q3,q4,q5,q6,q7,q8,q10,q9,rfl⟩:=hI;unfold Zya;obtain⟨w1,w2⟩:=ZpV q1 q5 q6;have hw:=ZhP (A:=A) s q1 u q5;obtain⟨u',hu'⟩:∃u',u'=ZbU s u:=⟨_,rfl⟩;rw[<-hu']at w1 w2 hw;have hsl:=q1.1;rcases q9 with rfl|⟨ta,tb,tr,tq,rfl⟩
 all_goals
  by_cases hk:u'.kind=1
  .obtain ⟨g1,g2,g0⟩:=w1.one.1 hk
   obtain⟨i,hi⟩:∃i:Nat,u'.id=i:=⟨u'.id.toNat,by omega⟩;obtain⟨y,hy⟩:=Zaa (l:=s.slots) (i:=i) (by omega);have hin:i<s.slots.length:=(by omega);cases hb:y.base with
   |true=>
    rcases ZdU (A:=A) u' with ⟨a,b,hab,har⟩|har
    .have:=(w1.one.1 hk).2.2
     rw[hab]at this;cases this
    .unfold Zf4
     simp(maxSteps:=4000000) (disch:=first|exact zd|fail) [hj,q7,hw,hk,hi,hin,hy,hb,har,-getElem?_pos];exact ZiW
   |false=>
    have hm3:m<=906:=(by omega);have hf1:=Zk2 (A:=A) s (by omega) (by omega) 1000000 false;rw[hsl]at hf1;have k1:=q1.fresh (h:=1000000) (b:=false) (c:=⟨m,Zby 0 false,true⟩) (by omega) (by omega);have hf2:=Zk2 (A:=A) ⟨s.slots++[Zby 1000000 false],s.trail++[⟨m,Zby 0 false,true⟩]⟩ (by simp;omega) (by simp;omega) 1000000 false;have hl1:(s.slots++[Zby 1000000 false]).length=m+1:=(by simp[hsl])
    simp only[hl1]at hf2;have k2:=k1.fresh (h:=1000000) (b:=false) (c:=⟨(m+1:Nat),Zby 0 false,true⟩) (by omega) (by simp;omega);have hy2:(s.slots++[Zby 1000000 false]++[Zby 1000000 false])[i]?=some y:=by
     rw[qx (by simp;omega),qx (by omega)];exact hy
    have ha2:=ZiX (A:=A) (.mk 1 [] m 0 []) (.mk 1 [] (m+1:Nat) 0 []);have hi2:=ZrI (A:=A) (.mk 1 [] m 0 []) (.mk 1 [] (m+1:Nat) 0 []);have hset:=Ztg (A:=A) ⟨s.slots++[Zby 1000000 false]++[Zby 1000000 false],s.trail++[⟨m,Zby 0 false,true⟩]++[⟨(m+1:Nat),Zby 0 false,true⟩]⟩ (by simp;omega) (by simp;omega) i y hy2 ⟨true,.mk 4 [45,62] 0 0 [.mk 1 [] m 0 [],.mk 1 [] (m+1:Nat) 0 []],y.home,y.base⟩
    rw[ZkT]at hset;simp only[hb]at hset;have hin2:i<(s.slots++[Zby 1000000 false]++[Zby 1000000 false]).length:=(by simp;omega);have hvaS:tyS (m+1+1) (.mk 1 [] m 0 [])/\(Ty.mk 1 [] m 0 []).size<=1:=⟨ZiO (by omega),by simp[Ty.size_leaf]⟩;have hvbS:tyS (m+1+1) (.mk 1 [] (m+1:Nat) 0 [])/\(Ty.mk 1 [] (m+1:Nat) 0 []).size<=1:=⟨ZiO (by omega),by simp[Ty.size_leaf]⟩
    have hfaS:tyS (m+1+1) (.mk 4 [45,62] 0 0 [.mk 1 [] m 0 [],.mk 1 [] (m+1:Nat) 0 []])/\(Ty.mk 4 [45,62] 0 0 [.mk 1 [] m 0 [],.mk 1 [] (m+1:Nat) 0 []]).size<=10:=by
     refine⟨ZkC Zdm ?_,?_⟩
     .intro x hx
      simp only[qz,qU,or_false]at hx;rcases hx with rfl|rfl
      .exact hvaS.1
      .exact hvbS.1
     .rw [Ty.size_eq]
      simp[Ty.args,Ty.size_leaf]
    have hbu:y.bound=false:=by
     obtain⟨f1,_,i',z,f2,_,f3,f4⟩:=ZhN q1 q5 (by rw[<-hu'];exact hk);rw[<-hu']at f1;rw[<-f1]at f2;have:i'=i:=(by omega);subst this;rw[hy]at f3;cases f3;exact f4
    have hue:u=u':=by
     obtain⟨f1,_⟩:=ZhN q1 q5 (by rw[<-hu'];exact hk);rw[<-f1,<-hu']
    have he1:ext s ⟨(s.slots++[Zby 1000000 false]++[Zby 1000000 false]).set i ⟨true,.mk 4 [45,62] 0 0 [.mk 1 [] m 0 [],.mk 1 [] (m+1:Nat) 0 []],y.home,false⟩,s.trail++[⟨m,Zby 0 false,true⟩]++[⟨(m+1:Nat),Zby 0 false,true⟩]++[⟨i,y,false⟩]⟩:=by
     have e1:ext s ⟨s.slots++[Zby 1000000 false]++[Zby 1000000 false],[]⟩:=by
      have:=ext.app (s:=s) (l:=[Zby 1000000 false]++[Zby 1000000 false]) (T:=[]);rwa[<-qab]at this
     refine e1.trans (ext.set fun z hz hb2=>?_);rw[hy2]at hz;cases hz;rw[hbu]at hb2;cases hb2
    have hwk:ZbU ⟨(s.slots++[Zby 1000000 false]++[Zby 1000000 false]).set i ⟨true,.mk 4 [45,62] 0 0 [.mk 1 [] m 0 [],.mk 1 [] (m+1:Nat) 0 []],y.home,false⟩,s.trail++[⟨m,Zby 0 false,true⟩]++[⟨(m+1:Nat),Zby 0 false,true⟩]++[⟨i,y,false⟩]⟩ u=.mk 4 [45,62] 0 0 [.mk 1 [] m 0 [],.mk 1 [] (m+1:Nat) 0 []]:=
     Zea (i:=i) (x:=⟨true,.mk 4 [45,62] 0 0 [.mk 1 [] m 0 [],.mk 1 [] (m+1:Nat) 0 []],y.home,false⟩) (by rw[hue];exact hk) (by rw[hue];exact hi) (by rw[qa9 (qd.1 hy2).1]) rfl
    have hTl:(s.trail++[(⟨m,Zby 0 false,true⟩:ChgD)]++[(⟨(m+1:Nat),Zby 0 false,true⟩:ChgD)]).length=s.trail.length+2:=(by simp);generalize hva:Ty.mk 1 [] m 0 []=va at *
    generalize hvb:Ty.mk 1 [] (m+1:Nat) 0 []=vb at *
    generalize hfa:Ty.mk 4 [45,62] 0 0 [va,vb]=fa at *
    generalize hS2:s.slots++[Zby 1000000 false]++[Zby 1000000 false]=S2 at *
    generalize hT2:s.trail++[⟨m,Zby 0 false,true⟩]++[⟨(m+1:Nat),Zby 0 false,true⟩]=T2 at *
    generalize hS1:s.slots++[Zby 1000000 false]=S1 at *
    generalize hT1:s.trail++[⟨m,Zby 0 false,true⟩]=T1 at *
    rw[tyV,wc_ty fa]at hi2;unfold Zf4;simp(maxSteps:=4000000) (disch:=first|exact zd|fail) [hj,q7,hw,hk,hi,hin,hy,hb,hf1,hf2,hin2,hy2,ha2,ZkT y,ZnY,hset,hi2,-getElem?_pos];have hst:=k2.set (i:=i) (x:=⟨true,fa,y.home,false⟩) (c:=⟨i,y,false⟩) (fun _=>⟨hfaS.1,by show fa.size<=1073741824;omega,by show fa.kind≠1;rw[<-hfa];show(4:Int)≠1;decide⟩) (by show T2.length<1000000;omega)
    refine⟨m+1+1,⟨S2.set i ⟨true,fa,y.home,false⟩,T2++[⟨i,y,false⟩]⟩,hst,by omega,by omega,by simp;omega,vb,hvbS.1,by omega,ar++[va],by simp[q7],?_,q10.push (n:=m+1+1) he1 hst (q5.mono (by omega)) (by rw[hwk,<-hfa];show(4:Int)≠1;decide) (by rw[hwk,<-hfa];rfl),_,⟨_,_,_,_,rfl⟩,⟨rfl,rfl⟩,rfl,rfl,rfl⟩;intro x hx;rcases ql.1 hx with hx|hx
    .exact⟨(q8 x hx).1.mono (by omega),(q8 x hx).2⟩
    .simp only [qj] at hx
     subst hx;exact⟨hvaS.1,by omega⟩
  .rcases ZdU (A:=A) u' with ⟨a,b,hab,har⟩|har
   .unfold Zf4
    simp(maxSteps:=4000000) (disch:=first|exact zd|fail) [hj,q7,hw,hk,har,-getElem?_pos];refine⟨m,s,q1,q2,by omega,by omega,b,w1.arg (by rw[hab];simp),by have:=Ty.arg_lt (t:=u') (x:=b) (by rw[hab];simp);omega,ar++[a],by simp[q7],?_,q10.push (ext.refl s) q1 q5 (by rw[<-hu'];exact hk) (by rw[<-hu'];exact hab),_,⟨_,_,_,_,rfl⟩,⟨rfl,rfl⟩,rfl,rfl,rfl⟩;intro x hx;rcases ql.1 hx with hx|hx
    .exact q8 x hx
    .simp only [qj] at hx
     subst hx;exact⟨w1.arg (by rw[hab];simp),by have:=Ty.arg_lt (t:=u') (x:=x) (by rw[hab];simp);omega⟩
   .unfold Zf4
    simp(maxSteps:=4000000) (disch:=first|exact zd|fail) [hj,q7,hw,hk,har,-getElem?_pos];exact ZiW
variable {A:Zab}
theorem ZuF {L:Nat->Option Obj}{s:Nat}{k:IntKind}{rows:List (List Cell)}(h:Zbx s rows=true):Zbw L s (.sc (.c (.sl rows))) none (some (.sc (.c (.int k 0)))) none=some (.sc (.c (.sl [])),[]):=by
 have:=slice_to (L:=L) (s:=s) (n:=0) (k:=k) (rows:=rows) (qad _);rw[h]at this;simpa using this
theorem Zn2 {L:Nat->Option Obj}{s:Nat}{k:IntKind}{rows:List (List Cell)}(h:Zbx s rows=true):Zbw L s (.sc (.c (.sl rows))) (some (.sc (.c (.int k 0)))) none none=some (.sc (.c (.sl rows)),[]):=by
 have:=slice_from (L:=L) (s:=s) (n:=0) (k:=k) (rows:=rows) (qad _);rw[h]at this;simpa using this
theorem Zyu (l:List Ty):Zbx 5 (Ty.rows l)=true:=by rw[Ty.rows_map];exact ZgE Ty.row_len l
theorem Zf9 {L:Nat->Option Obj}{k:IntKind}(l:List Ty):Zbw L 5 (.sc (.c (.sl (Ty.rows l)))) none (some (.sc (.c (.int k 0)))) none=some (.sc (.c (.sl [])),[]):=ZuF (Zyu l)
theorem Zei {L:Nat->Option Obj}{k:IntKind}(l:List Ty):Zbw L 5 (.sc (.c (.sl (Ty.rows l)))) (some (.sc (.c (.int k 0)))) none none=some (.sc (.c (.sl (Ty.rows l))),[]):=Zn2 (Zyu l)
def Zvk (mid:List (Nat×Option Obj)):Prop:=mid=[]\/∃a b rows q,mid=[(6976,some (.box a)),(7040,some (.box b)),(7744,some (.arr 5 rows q))]
theorem Zgk:Zvk []:=.inl rfl
theorem Zfh (a b:List W)(rows:List (List W))(q:Nat):Zvk [(6976,some (.box a)),(7040,some (.box b)),(7744,some (.arr 5 rows q))]:=.inr ⟨a,b,rows,q,rfl⟩
theorem ZmB {m n c:Nat}(s:StoD)(hs:stoOk m s)(is ar:List Ty)(hn:n<=3)(hal:ar.length=n)(ha:∀x∈ar,tyS m x/\x.size<=1073741824)(hres:∀x∈ar,∃v,Res s x v/\v.size<=200)(mid:List (Nat×Option Obj))(hm:Zvk mid):
 wp (K A) (.loop Zl0) (Zb5 4 (Zdt (K A) (.seq (.seq (.region [] [o 33 (.mv (ki 0))] [] [3,5,18,29,33]) (.block 6 (.loop Zjs)))
  (.seq (.region [] [o 197 (.mv (tv 29)),oa 198 (.call (kf 236) [(false,tv 197)] []) 15040,o 29 (.mv (tv 198))] [] [3,29])
    (.seq (.region [] [o 199 (.mv (tv 29)),o 200 (.mv (tv 3)),o 201 (.len false (tv 200)),o 202 (.sl 5 (tv 199) none (some (tv 201)) none),o 203 (.mv (tv 29)),o 204 (.mv (tv 3)),o 205 (.len false (tv 204)),o 206 (.sl 5 (tv 203) (some (tv 205)) none none),
      o 10 (.mv (tv 202)),o 11 (.mv (tv 206)),o 12 (.mv kt)] [(2,6),(3,6),(2,7),(3,7)] [10,11,12]) .ret))) (Zeo false 0 [.tmp 10,.tmp 11,.tmp 12] ZqS)))
  ⟨[(3,.sc (.c (.sl []))),(5,.sc (.ptr 64 0)),(18,.sc (.arr 2433 n)),(29,.sc (.arr 10945 0)),(30,intV 0)],
    (64,some (.box [.c (.sl (Zbe s.slots)),.c (.sl (Zbp s.trail))]))::(449,some (.arr 5 (wr (Ty.rows is)) c))::(2433,some (.arr 5 (wr (Ty.rows ar)) 0))::(mid++[(10945,some (.arr 5 [] 0))])⟩:=by
 rcases hm with rfl|⟨ta,tb,tr,tq,rfl⟩
 .refine Zak (fun _=>_) 0 rfl (fun i hi=>by omega) ?_
  unfold Zl0;simp(maxSteps:=4000000) (disch:=first|exact zd|fail) [-getElem?_pos];refine Zad (fun i st=>∃(l:List Ty) (mid:List (Nat×Option Obj)),l.length=i/\(∀x∈l,tyS m x/\x.size<=4000)/\Zvk mid/\st=⟨[(3,.sc (.c (.sl []))),(5,.sc (.ptr 64 0)),(18,.sc (.arr 2433 n)),(29,.sc (.arr 10945 i)),(33,intV i)],
   (64,some (.box [.c (.sl (Zbe s.slots)),.c (.sl (Zbp s.trail))]))::(449,some (.arr 5 (wr (Ty.rows is)) c))::(2433,some (.arr 5 (wr (Ty.rows ar)) 0))::(mid++[(10945,some (.arr 5 (wr (Ty.rows l)) 0))])⟩) n
   ⟨[],[],rfl,by simp,Zgk,by simp⟩ ?_ ?_
  .rintro i st hi ⟨l,mid,hl,hq,hmd,rfl⟩
   obtain⟨x,hx⟩:=Zaa (l:=ar) (i:=i) (by omega);obtain⟨hx1,hx2⟩:=ha x (qa hx);obtain⟨v,hv,hvl⟩:=hres x (qa hx);obtain⟨_,⟨u,hu1,hu2,rfl⟩,hr⟩:=ZoA (A:=A) s hs x hx1 hx2 v hv (by omega);have mem:∀y∈l++[u],tyS m y/\y.size<=4000:=by
    intro y hy;rcases ql.1 hy with hy|hy
    .exact hq y hy
    .simp only [qj] at hy
     exact hy▸⟨hu1,hu2⟩
   unfold Zjs;rcases hmd with rfl|⟨ua,ub,ur,uq,rfl⟩
   .simp (maxSteps:=4000000) (disch:=first|exact zd|fail) [hi,hal,hl,hx,hr,-getElem?_pos]
    exact⟨l++[u],by simp[hl],mem,[],Zgk,by simp⟩
   .simp (maxSteps:=4000000) (disch:=first|exact zd|fail) [hi,hal,hl,hx,hr,-getElem?_pos]
    exact⟨l++[u],by simp[hl],mem,_,Zfh _ _ _ _,rfl⟩
  .rintro st ⟨l,mid,hl,hq,hmd,rfl⟩
   have hsz:=Ztk (fun x hx=>(hq x hx).2) (show l.length<=3 by omega);obtain⟨_,⟨M,l2,c1,c2,rfl⟩,hcn⟩:=Zhq (A:=A) l (by omega) (fun x hx=>(hq x hx).1);have res:ZqS (.tu [.sc (.c (.sl [])),tysV l2,Zae true],[]):=by
    refine⟨true,l2,by omega,fun x hx=>?_,rfl⟩;obtain⟨j,hj,he⟩:=qM hx;obtain⟨y,hy⟩:=Zaa (l:=l) (i:=j) (by omega);obtain⟨d1,d2⟩:=c2 j y x hy (by rw[qh hj,he]);exact⟨M,d1,by have:=(hq y (qa hy)).2;omega⟩
   unfold Zjs;rcases hmd with rfl|⟨ua,ub,ur,uq,rfl⟩
   .simp (maxSteps:=4000000) (disch:=first|exact zd|fail) [hal,hl,hcn,Zf9,Zei,-getElem?_pos]
    exact res
   .simp (maxSteps:=4000000) (disch:=first|exact zd|fail) [hal,hl,hcn,Zf9,Zei,-getElem?_pos]
    exact res
 .refine Zak (fun _=>_) 0 rfl (fun i hi=>by omega) ?_
  unfold Zl0;simp(maxSteps:=4000000) (disch:=first|exact zd|fail) [-getElem?_pos];refine Zad (fun i st=>∃(l:List Ty) (mid:List (Nat×Option Obj)),l.length=i/\(∀x∈l,tyS m x/\x.size<=4000)/\Zvk mid/\st=⟨[(3,.sc (.c (.sl []))),(5,.sc (.ptr 64 0)),(18,.sc (.arr 2433 n)),(29,.sc (.arr 10945 i)),(33,intV i)],
   (64,some (.box [.c (.sl (Zbe s.slots)),.c (.sl (Zbp s.trail))]))::(449,some (.arr 5 (wr (Ty.rows is)) c))::(2433,some (.arr 5 (wr (Ty.rows ar)) 0))::(mid++[(10945,some (.arr 5 (wr (Ty.rows l)) 0))])⟩) n
   ⟨[],[(6976,some (.box ta)),(7040,some (.box tb)),(7744,some (.arr 5 tr tq))],rfl,by simp,Zfh _ _ _ _,by simp⟩ ?_ ?_
  .rintro i st hi ⟨l,mid,hl,hq,hmd,rfl⟩
   obtain⟨x,hx⟩:=Zaa (l:=ar) (i:=i) (by omega);obtain⟨hx1,hx2⟩:=ha x (qa hx);obtain⟨v,hv,hvl⟩:=hres x (qa hx);obtain⟨_,⟨u,hu1,hu2,rfl⟩,hr⟩:=ZoA (A:=A) s hs x hx1 hx2 v hv (by omega);have mem:∀y∈l++[u],tyS m y/\y.size<=4000:=by
    intro y hy;rcases ql.1 hy with hy|hy
    .exact hq y hy
    .simp only [qj] at hy
     exact hy▸⟨hu1,hu2⟩
   unfold Zjs;rcases hmd with rfl|⟨ua,ub,ur,uq,rfl⟩
   .simp (maxSteps:=4000000) (disch:=first|exact zd|fail) [hi,hal,hl,hx,hr,-getElem?_pos]
    exact⟨l++[u],by simp[hl],mem,[],Zgk,by simp⟩
   .simp (maxSteps:=4000000) (disch:=first|exact zd|fail) [hi,hal,hl,hx,hr,-getElem?_pos]
    exact⟨l++[u],by simp[hl],mem,_,Zfh _ _ _ _,rfl⟩
  .rintro st ⟨l,mid,hl,hq,hmd,rfl⟩
   have hsz:=Ztk (fun x hx=>(hq x hx).2) (show l.length<=3 by omega);obtain⟨_,⟨M,l2,c1,c2,rfl⟩,hcn⟩:=Zhq (A:=A) l (by omega) (fun x hx=>(hq x hx).1);have res:ZqS (.tu [.sc (.c (.sl [])),tysV l2,Zae true],[]):=by
    refine⟨true,l2,by omega,fun x hx=>?_,rfl⟩;obtain⟨j,hj,he⟩:=qM hx;obtain⟨y,hy⟩:=Zaa (l:=l) (i:=j) (by omega);obtain⟨d1,d2⟩:=c2 j y x hy (by rw[qh hj,he]);exact⟨M,d1,by have:=(hq y (qa hy)).2;omega⟩
   unfold Zjs;rcases hmd with rfl|⟨ua,ub,ur,uq,rfl⟩
   .simp (maxSteps:=4000000) (disch:=first|exact zd|fail) [hal,hl,hcn,Zf9,Zei,-getElem?_pos]
    exact res
   .simp (maxSteps:=4000000) (disch:=first|exact zd|fail) [hal,hl,hcn,Zf9,Zei,-getElem?_pos]
    exact res
variable {A:Zab}
theorem Zra (c:Nat)(hc:c<=900)(t goal:Ty)(ht:tyB 0 c t)(htl:t.size<=1000000)(hg:tyS 0 goal)(hgl:goal.size<=900000)(n:Nat)(hn:n<=3):
 ∃r,ZqS r/\(K A).call 216 [stoV ⟨[],[]⟩,schV c t,tyV goal,ZfA [],intV n] []=some r:=by
 refine fnE v216 ?_;unfold v216;simp(disch:=first|exact zd|fail) [Zbu];refine Zad (fun i st=>∃(s:StoD) (is:List Ty),stoOk i s/\s.trail.length<=i/\is.length=i/\(∀x∈is,tyS i x/\x.size<=1)/\st=⟨[(3,ZfA []),(4,intV n),(5,.sc (.ptr 64 0)),(6,.sc (.ptr 128 0)),(7,.sc (.ptr 192 0)),(13,.sc (.arr 449 i)),(14,intV i)],
  [(64,some (.box [.c (.sl (Zbe s.slots)),.c (.sl (Zbp s.trail))])),(128,some (.box (wc (Zbu c t)))),(192,some (.box (wc goal.row))),(449,some (.arr 5 (wr (Ty.rows is)) 0))]⟩) c ⟨⟨[],[]⟩,[],⟨rfl,by omega,by simp,by simp⟩,by simp,rfl,by simp,by simp[Zbu]⟩ ?_ ?_
 .rintro i st hi ⟨s,is,h1,h2,h3,h4,rfl⟩
  have hf:=Zk2 (A:=A) s (by have:=h1.1;omega) (by have:=h1.2.2.1;omega) 1000000 false;have hsl:=h1.1;rw[hsl]at hf;unfold Zj3;simp(disch:=first|exact zd|fail) [hi,hf,h3,-getElem?_pos];refine⟨⟨s.slots++[Zby 1000000 false],s.trail++[⟨i,Zby 0 false,true⟩]⟩,h1.fresh (by omega) (by omega),by simp;omega,is++[.mk 1 [] i 0 []],by simp[h3],?_,⟨rfl,rfl⟩,rfl⟩;intro x hx;rcases ql.1 hx with hx|hx
  .exact⟨(h4 x hx).1.mono (by omega),(h4 x hx).2⟩
  .simp only [qj] at hx
   subst hx;exact⟨ZiO (by omega),by simp[Ty.size_leaf]⟩
 .rintro st ⟨s,is,h1,h2,h3,h4,rfl⟩
  have hop:=Zsv (A:=A) is (by omega) t (by omega);have hoS:tyS c (Zfo is t):=Zs5 (fun x hx=>(h4 x hx).1) (by rw[h3];exact ht.mono (qad _) (qe _));have hoZ:=Zj4 (qe 1) (fun x hx=>(h4 x hx).2) t;generalize Zfo is t=w at *
  unfold Zj3;simp(disch:=first|exact zd|fail) [hop,h3,-getElem?_pos];refine Zad (Zya c n goal w is) n ⟨c,s,w,[],[],h1,by omega,by omega,by omega,hoS,by omega,rfl,by simp,SpineOk.nil s w,.inl rfl,by simp⟩ ?_ ?_
  .intro j st hj hI
   exact Zrk c hc goal w is n hn _ j st hj hI
  .rintro st ⟨m,s,u,ar,tail,q1,q2,q3,q4,q5,q6,q7,q8,q10,q9,rfl⟩
   obtain⟨_,⟨u1,w1,w2,_,rfl⟩,hw⟩:=Znw (A:=A) s q1 u q5 q6;obtain⟨_,⟨s1,m1,m2,x1,rfl⟩,hm1⟩:=Zuz (A:=A) s u1 q1 w1 w2 (by omega);obtain⟨_,⟨s2,m3,m4,x2,rfl⟩,hm2⟩:=Zuz (A:=A) s1 goal m1 (hg.mono (qad _)) (by omega) (by omega);obtain⟨_,⟨s3,e,m5,m6,x3,rfl⟩,hun⟩:=Zwz (A:=A) s2 u1 goal m3 w1 w2 hg (by omega) (by omega);obtain⟨k,_,_,hsz,hszr,_⟩:=Zis (A:=A) s3 m5 200 (by omega) w (hoS.mono q2) (by omega)
   have hsz':(K A).call 234 [stoV s3,tyV w,intV 200] []=some (intV k,[]):=hsz;unfold Zf4;rcases q9 with rfl|⟨ta,tb,tr,tq,rfl⟩
   all_goals
    rcases ZdU (A:=A) u1 with ⟨a,b,hab,har⟩|har
    .simp (maxSteps:=4000000) (disch:=first|exact zd|fail) [q7,hw,har,-getElem?_pos]
     exact ZiW
    .by_cases he:e=0
     .by_cases hk:200<k
      .have hki:(200:Int)<k:=by omega
       simp(maxSteps:=4000000) (disch:=first|exact zd|fail) [q7,hw,har,hm1,hm2,hun,he,hsz',hk,hki,-getElem?_pos];exact ZiW
      .have hki:¬(200:Int)<k:=by omega
       obtain⟨U,_,hU,hUk,_⟩:=hszr (by omega);have hres:=(q10 s3 ((x1.trans x2).trans x3) U hU (by omega)).1;simp(maxSteps:=4000000) (disch:=first|exact zd|fail) [q7,hw,har,hm1,hm2,hun,he,hsz',hk,hki,-getElem?_pos]
       first
        |exact ZmB (c:=c) s3 m5 is ar hn q7 q8 hres [] Zgk
        |exact ZmB (c:=c) s3 m5 is ar hn q7 q8 hres [(6976,some (.box _)),(7040,some (.box _)),(7744,some (.arr 5 _ _))] (Zfh _ _ _ _)
     .simp (maxSteps:=4000000) (disch:=first|exact zd|fail) [q7,hw,har,hm1,hm2,hun,he,-getElem?_pos]
      exact ZiW
end Go.Vs.Tryz
namespace Go.Vs
open Go
structure HeadD where
 name:Str
 con:Bool
 args:List Ty
 types:List Ty
def Zey (h:HeadD):List Cell:=[.str h.name,.bool h.con,.sl (Ty.rows h.args),.sl (Ty.rows h.types)]
def Zct (l:List HeadD):List (List Cell):=l.map Zey
@[simp] theorem hdRow_len (h:HeadD):(Zey h).length=4:=rfl
@[simp] theorem hdRows_len (l:List HeadD):(Zct l).length=l.length:=by simp[Zct]
@[simp] theorem hdRows_get (l:List HeadD) (i:Nat):(Zct l)[i]?=(l[i]?).map Zey:=by simp[Zct]
@[simp] theorem okRows_hd (l:List HeadD):Zbb 4 (wr (Zct l))=true:=ZbE l hdRow_len
@[simp] theorem hdRows0:Zct []=[]:=rfl
@[simp] theorem hdRows_app (l m:List HeadD):wr (Zct l)++wr (Zct m)=wr (Zct (l++m)):=by simp[Zct,wr]
@[simp] theorem hdRows_snoc (l:List HeadD) (h:HeadD):wr (Zct l)++[wc (Zey h)]=wr (Zct (l++[h])):=by simp[Zct,wr]
section
variable (h:HeadD)
@[simp] theorem cut_hd0:cut (Zey h) 0 1=some [.str h.name]:=rfl
@[simp] theorem cut_hd1:cut (Zey h) 1 1=some [.bool h.con]:=rfl
@[simp] theorem cut_hd2:cut (Zey h) 2 1=some [.sl (Ty.rows h.args)]:=rfl
@[simp] theorem cut_hd3:cut (Zey h) 3 1=some [.sl (Ty.rows h.types)]:=rfl
@[simp] theorem cut_hd:cut (Zey h) 0 4=some (Zey h):=rfl
@[simp] theorem cutw_hd0:cut (wc (Zey h)) 0 1=some [.c (.str h.name)]:=rfl
@[simp] theorem cutw_hd1:cut (wc (Zey h)) 1 1=some [.c (.bool h.con)]:=rfl
@[simp] theorem cutw_hd2:cut (wc (Zey h)) 2 1=some [.c (.sl (Ty.rows h.args))]:=rfl
@[simp] theorem cutw_hd:cut (wc (Zey h)) 0 4=some (wc (Zey h)):=rfl
end
end Go.Vs
namespace Go.Vs.Tryz
open Go Go.Vs
variable {A:Zab}
def ZyA (nm:Str)(con:Bool)(h:HeadD):Prop:=h.name=nm/\h.con=con/\h.args.length<=3/\∀x∈h.args,∃M,tyS M x/\x.size<=4000
def HeadsR (nm:Str)(con:Bool)(r:V×List Obj):Prop:=∃hs:List HeadD,hs.length<=4/\(∀h∈hs,ZyA nm con h)/\r=(.sc (.c (.sl (Zct hs))),[])
theorem Zte (nm:Str)(con:Bool)(c:Nat)(hc:c<=900)(t goal:Ty)(ht:tyB 0 c t)(htl:t.size<=1000000)(hg:tyS 0 goal)(hgl:goal.size<=900000):
 ∃r,HeadsR nm con r/\(K A).call 193 [stoV ⟨[],[]⟩,schV c t,tyV goal,ZfA [],intV 3,.ag [.c (.str nm),.c (.bool con),.c (.sl []),.c (.sl [])]] []=some r:=by
 refine fnE v193 ?_;unfold v193;simp(disch:=first|exact zd|fail);refine Zad (fun i st=>∃hs:List HeadD,hs.length<=i/\(∀h∈hs,ZyA nm con h)/\st=⟨[(3,ZfA []),(4,intV 3),(6,.sc (.ptr 64 0)),(7,.sc (.ptr 128 0)),(8,.sc (.ptr 192 0)),(11,.sc (.ptr 256 0)),(13,.sc (.arr 385 hs.length)),(14,intV i)],
  [(64,some (.box [.c (.sl []),.c (.sl [])])),(128,some (.box (wc (Zbu c t)))),(192,some (.box (wc goal.row))),(256,some (.box [.c (.str nm),.c (.bool con),.c (.sl []),.c (.sl [])])),(385,some (.arr 4 (wr (Zct hs)) 0))]⟩) 4 ⟨[],by simp,by simp,by simp⟩ ?_ ?_
 .rintro i st hi ⟨hs,h1,h2,rfl⟩
  obtain⟨_,⟨b,l2,e1,e2,rfl⟩,hel⟩:=Zra (A:=A) c hc t goal ht htl hg hgl i (by omega);simp only[stoV,ZfA,slRows0,chRows0,assRows0]at hel;have hi3:(i:Int)<=3:=by omega
  unfold Zs1;cases b with
  |false=>
   simp(disch:=first|exact zd|fail) [hi3,hel,-getElem?_pos];exact⟨hs,by omega,h2,by simp⟩
  |true=>
   simp(disch:=first|exact zd|fail) [hi3,hel,-getElem?_pos];refine⟨hs++[⟨nm,con,l2,[]⟩],by simp;omega,?_,by simp,?_⟩
   .intro h hh
    rcases ql.1 hh with hh|hh
    .exact h2 h hh
    .simp only [qj] at hh
     subst hh;exact⟨rfl,rfl,e1,e2⟩
   .rw [<-hdRows_snoc]
    simp[Zey]
 .rintro st ⟨hs,h1,h2,rfl⟩
  unfold Zs1;simp(disch:=first|exact zd|fail) [-getElem?_pos];exact⟨hs,h1,h2,rfl⟩
variable {A:Zab}
def elOk (ds:List DataD)(h:HeadD):Prop:=(h.con=false->h.name∈ZbK)/\(h.con=true->cOk ds h.name)/\h.args.length<=3/\∀x∈h.args,∃M,tyS M x/\x.size<=4000
def ListR (ds:List DataD)(r:V×List Obj):Prop:=∃hs:List HeadD,hs.length<=1000000/\(∀h∈hs,elOk ds h)/\r=(.sc (.c (.sl (Zct hs))),[])
theorem ZAT {n m:Nat}(hn:n<=1000)(hm:m<=100000)(ds:List DataD)(hds:fitDs ds)(ctx:List EntD)(hctx:ctxOk n m ctx)(goal:Ty)(hg:tyS 0 goal)(hgl:goal.size<=900000):
 ∃r,ListR ds r/\(K A).call 139 [Zar ds,Zc5 ctx,tyV goal,.sc (.c (.sl [])),intV 3] []=some r:=by
 have hnm:n*m<=100000000:=qu (qaR hn hm) (by omega);have hst:=ZxK (A:=A) (by omega) ctx hctx goal hg (by omega);have hrp:=ZdV (A:=A) [] (by simp) goal (by omega);rw[ZpU goal hg]at hrp;obtain⟨hc1,hc2⟩:=hctx;have hs:=Zvc (A:=A) ctx (by omega);have hsl:=Zd5 ctx ctx.length;have hsub:=Zdg ctx ctx.length;generalize Zcs ctx ctx.length=l at *
 have hds1:=hds.1;simp only[stoV,ZfA,slRows0,chRows0,assRows0]at hst hrp;refine fnE v139 ?_;unfold v139;rcases ZdU (A:=A) goal with ⟨a,b,_,har⟩|har
 .simp (disch:=first|exact zd|fail) [har,-getElem?_pos]
  exact⟨[],by simp,by simp,by simp⟩
 .simp (disch:=first|exact zd|fail) [har,hst,hrp,hs,-getElem?_pos]
  refine Zad (fun i st=>∃hl:List HeadD,hl.length<=4*i/\(∀h∈hl,elOk ds h)/\st=⟨[(0,Zar ds),(4,intV 3),(14,.sc (.ptr 1728 0)),(15,.sc (.c (.sl []))),(16,.sc (.ptr 2112 0)),(17,.sc (.arr 2241 hl.length)),(18,Zc5 l),(19,intV i)],
   [(1728,some (.box [.c (.sl []),.c (.sl [])])),(2112,some (.box (wc goal.row))),(2241,some (.arr 4 (wr (Zct hl)) 0))]⟩) l.length ⟨[],by simp,by simp,by simp⟩ ?_ ?_
  .rintro i st hi ⟨hl,h1,h2,rfl⟩
   obtain⟨x,hx⟩:=Zaa hi;obtain⟨x1,⟨c,hc,hcl⟩,x3,x4⟩:=hc2 x (hsub x (qa hx));rw[hc,qag]at x3;have hap:=Zji (A:=A) [] (by simp) x.count x.ty (by omega);rw[ZpU x.ty x3]at hap;obtain⟨_,⟨hs2,g1,g2,rfl⟩,hh⟩:=Zte (A:=A) x.name false c (by omega) x.ty goal x3 (by omega) hg hgl;rw[<-hc]at hh;simp only[stoV,ZfA,slRows0,chRows0,assRows0]at hh hap;unfold ZlN
   simp(disch:=first|exact zd|fail) [hi,hx,hap,hh,-getElem?_pos];refine⟨hl++hs2,by simp;omega,?_,by simp⟩;intro h hm2;rcases ql.1 hm2 with hm2|hm2
   .exact h2 h hm2
   .obtain ⟨k1,k2,k3,k4⟩:=g2 h hm2
    exact⟨fun _=>by rw[k1];exact x1,fun hcon=>absurd (k2.symm.trans hcon) (by simp),k3,k4⟩
  .rintro st ⟨hl,h1,h2,rfl⟩
   unfold ZlN;simp(disch:=first|exact zd|fail) [-getElem?_pos];refine Zad (fun i st=>∃hl2:List HeadD,hl2.length<=4*l.length+24*i/\(∀h∈hl2,elOk ds h)/\st=⟨[(0,Zar ds),(4,intV 3),(14,.sc (.ptr 1728 0)),(15,.sc (.c (.sl []))),(16,.sc (.ptr 2112 0)),(17,.sc (.arr 2241 hl2.length)),(21,intV i)],
    [(1728,some (.box [.c (.sl []),.c (.sl [])])),(2112,some (.box (wc goal.row))),(2241,some (.arr 4 (wr (Zct hl2)) 0))]⟩) ds.length ⟨hl,by omega,h2,by simp⟩ ?_ ?_
   .rintro i st hi ⟨hl2,h3,h4,rfl⟩
    obtain⟨d,hd⟩:=Zaa hi;obtain⟨⟨hg1,hg2,hg3,hg4⟩,hff⟩:=hds.2 d (qa hd);unfold ZuE;simp(disch:=first|exact zd|fail) [hi,hd,-getElem?_pos];refine Zad (fun k st=>∃hl3:List HeadD,hl3.length<=4*l.length+24*i+4*k/\(∀h∈hl3,elOk ds h)/\st=⟨[(0,Zar ds),(4,intV 3),(14,.sc (.ptr 1728 0)),(15,.sc (.c (.sl []))),(16,.sc (.ptr 2112 0)),(17,.sc (.arr 2241 hl3.length)),(21,intV i),(22,intV k)],
     [(1728,some (.box [.c (.sl []),.c (.sl [])])),(2112,some (.box (wc goal.row))),(2241,some (.arr 4 (wr (Zct hl3)) 0))]⟩) d.cons.length ⟨hl2,by omega,h4,by simp⟩ ?_ ?_
    .rintro k st hk ⟨hl3,h5,h6,rfl⟩
     obtain⟨cc,hcc⟩:=Zaa hk;obtain⟨_,⟨c,u,b,u1,u2,u3,rfl⟩,hcon⟩:=Zjf (A:=A) ds hds cc.name ⟨d,qa hd,cc,qa hcc,rfl⟩;obtain⟨_,⟨hs2,g1,g2,rfl⟩,hh⟩:=Zte (A:=A) cc.name true c (by omega) u goal u2 (by omega) hg hgl;simp only[stoV,ZfA,slRows0,chRows0,assRows0]at hh;unfold Zo7;simp(disch:=first|exact zd|fail) [hi,hd,hk,hcc,hcon,hh,-getElem?_pos];refine⟨hl3++hs2,by simp;omega,?_,by simp⟩;intro h hm2
     rcases ql.1 hm2 with hm2|hm2
     .exact h6 h hm2
     .obtain ⟨k1,k2,k3,k4⟩:=g2 h hm2
      exact⟨fun hcon=>absurd (k2.symm.trans hcon) (by simp),fun _=>.inr ⟨d,qa hd,cc,qa hcc,k1⟩,k3,k4⟩
    .rintro st ⟨hl3,h5,h6,rfl⟩
     unfold Zo7;simp(disch:=first|exact zd|fail) [hi,hd,-getElem?_pos];exact⟨hl3,by omega,h6,by simp⟩
   .rintro st ⟨hl2,h3,h4,rfl⟩
    unfold ZuE;simp(disch:=first|exact zd|fail) [-getElem?_pos];exact⟨hl2,by omega,h4,rfl⟩
variable {A:Zab}
def tyG (t:Ty):Prop:=tyS 0 t/\rigB t
theorem ZwP {s:Str}{l:List Ty}(h:∀x∈l,rigB x):rigB (.mk 4 s 0 0 l):=Ty.all_iff.2 ⟨fun hk=>absurd (show(4:Int)=3 from hk.1) (by decide),h⟩
theorem Zi7 {s:Str}{l:List Ty}(hs:ZfI s l.length)(h:∀x∈l,tyG x):tyG (.mk 4 s 0 0 l):=⟨ZkC hs fun x hx=>(h x hx).1,ZwP fun x hx=>(h x hx).2⟩
theorem ZnE:tyG (.mk 4 [73,110,116] 0 0 []):=Zi7 (.inr (.inl ⟨rfl,rfl⟩)) fun x hx=>by cases hx
def Zn6 (L:List Int)(m:Nat)(r:V×List Obj):Prop:=∃t J,tyG t/\t.size<=m/\J<=L.length/\r=(tyV t,[ZaK L J])
def TypeK (L:List Int)(ds:List DataD)(ls:List Ty)(dd:DataD)(d i:Nat)(s:St):Prop:=∃tys J,tys.length=i/\(∀x∈tys,tyG x/\x.size<=5 ^ d)/\J<=L.length/\
 s=⟨[(0,.sc (.ptr 0 0)),(1,Zar ds),(2,tysV ls),(3,intV (d+1)),(8,.sc (.ptr 64 0)),(10,.sc (.ptr 3392 0)),(11,.sc (.arr 3521 i)),(12,intV i)],
  [(0,some (ZaK L J)),(64,some (.box [zi,zs,zi,zi,.nil])),(3392,some (.box (wc (ZaF dd)))),(3521,some (.arr 5 (wr (Ty.rows tys)) 0))]⟩
theorem Zzw (L:List Int)(ds:List DataD)(ls:List Ty)(hL:L.length<=1073741824)(hds:fitDs ds)(hls:0<ls.length)(hls2:ls.length<=100)(hls3:∀x∈ls,tyG x/\x.size=1):∀(d I:Nat),d<=100->I<=L.length->
 ∃r,Zn6 L (5 ^ d) r/\(K A).call 45 [.sc (.ptr 0 0),Zar ds,tysV ls,intV d] [ZaK L I]=some r:=by
 intro d;have leafCase:∀(d I k J:Nat),k<3->J<=L.length->(K A).call 62 [.sc (.ptr 0 0),intV 7] [ZaK L I]=some (intV k,[ZaK L J])->
  ∃r,Zn6 L (5 ^ d) r/\(K A).call 45 [.sc (.ptr 0 0),Zar ds,tysV ls,intV d] [ZaK L I]=some r:=by
  intro d I k J h3 hJ hc;obtain⟨m,J1,hm,hJ1,hc1⟩:=ZbH (A:=A) L J ls.length hJ hL (by omega) (by omega);obtain⟨x,hx⟩:=Zaa (l:=ls) (i:=m) (by omega);have hm':(m:Int)<ls.length:=hm;have h3':(k:Int)<3:=by omega
  refine fnE v45 ?_;unfold v45;simp(disch:=first|exact zd|fail) [hc,h3',hls,hc1,hx,-getElem?_pos];exact⟨x,J1,(hls3 x (qa hx)).1,by rw[(hls3 x (qa hx)).2];exact Nat.pos_of_ne_zero (by simp),hJ1,rfl⟩
 have intSz:(Ty.mk 4 [73,110,116] 0 0 []).size=1:=Ty.size_leaf
 induction d with
 |zero=>
  intro I _ hI;obtain⟨k,J,hk,hJ,hc⟩:=ZbH (A:=A) L I 7 hI hL (by omega) (by omega);by_cases h3:k<3
  .exact leafCase 0 I k J h3 hJ hc
  .refine fnE v45 ?_
   have hi:=ZmV (A:=A);unfold v45;have h3':¬(k:Int)<3:=(by omega);by_cases h4:k<4
   .have h4':(k:Int)<4:=by omega
    simp(disch:=first|exact zd|fail) [hc,hi,h3',h4',-getElem?_pos];exact⟨_,J,ZnE,by rw[intSz];exact qe _,hJ,rfl⟩
   .have h4':¬(k:Int)<4:=by omega
    simp(disch:=first|exact zd|fail) [hc,hi,h3',h4',-getElem?_pos];exact⟨_,J,ZnE,by rw[intSz];exact qe _,hJ,rfl⟩
 |succ d ih=>
  intro I hd hI;obtain⟨k,J,hk,hJ,hc⟩:=ZbH (A:=A) L I 7 hI hL (by omega) (by omega);by_cases h3:k<3
  .exact leafCase (d+1) I k J h3 hJ hc
  have hi:=ZmV (A:=A);have hd1:¬(d:Int)+1<1:=by omega
  have hp:1<=5 ^ d:=Nat.pos_of_ne_zero (by simp);have hp1:5 ^ (d+1)=5*5 ^ d:=by rw[qbb];omega
  have h3':¬(k:Int)<3:=by omega
  refine fnE v45 ?_;by_cases h4:k<4
  .have h4':(k:Int)<4:=by omega
   unfold v45;simp(disch:=first|exact zd|fail) [hc,hi,h3',h4',-getElem?_pos];exact⟨_,J,ZnE,by rw[intSz];omega,hJ,rfl⟩
  .have h4':¬(k:Int)<4:=by omega
   by_cases hdata:ds≠[]/\k<6
   .have hpos:0<ds.length:=qae.2 hdata.1
    have hds1:=hds.1;obtain⟨m,J1,hm,hJ1,hc1⟩:=ZbH (A:=A) L J ds.length hJ hL (by omega) (by omega);obtain⟨dd,hdd⟩:=Zaa (l:=ds) (i:=m) (by omega);have hfit:=hds.2 dd (qa hdd);have hgood:=hfit.1;have hm':(m:Int)<ds.length:=hm
    have fin:wp (K A) (.loop Znk) (Zb5 1 (Zdt (K A) (.seq (.region [] [o 77 (.fld 1 (tv 10)),o 78 (.load false 1 (tv 77)),o 79 (.mv (tv 11)),oa 80 (.call (kf 90) [(false,(tv 78)),(false,(tv 79))] []) 4992,on (.store 5 (tv 8) (tv 80) [])] [] [8]) .ret)
     (Zb5 0 (Zdt (K A) (.seq (.region [] [o 81 (.mv (tv 0)),o 82 (.mv (tv 1)),o 83 (.mv (tv 2)),o 84 (.mv (tv 3)),o 85 (.bin .sub 0 (tv 84) (ki 1)),oa 86 (.call (kf 45) [(true,(tv 81)),(false,(tv 82)),(false,(tv 83)),(false,(tv 85))] []) 5440,oa 13 (.new [zi,zs,zi,zi,.nil] []) 5504,on (.store 5 (tv 13) (tv 86) [])] [] [0,1,2,3,8,13])
       (.seq (.region [] [o 87 (.load true 5 (tv 13)),o 88 (.mv (tv 0)),o 89 (.mv (tv 1)),o 90 (.mv (tv 2)),o 91 (.mv (tv 3)),o 92 (.bin .sub 0 (tv 91) (ki 1)),oa 93 (.call (kf 45) [(true,(tv 88)),(false,(tv 89)),(false,(tv 90)),(false,(tv 92))] []) 6016,oa 94 (.call (kf 85) [(false,(tv 87)),(false,(tv 93))] []) 6080,on (.store 5 (tv 8) (tv 94) [])] [(0,6)] [8]) .ret)) (Zeo false 1 [.cell 8 true 5] (Zn6 L (5 ^ (d+1))))))))
     ⟨[(0,.sc (.ptr 0 0)),(1,Zar ds),(2,tysV ls),(3,intV (d+1)),(8,.sc (.ptr 64 0)),(10,.sc (.ptr 3392 0)),(11,.sc (.arr 3521 0)),(12,intV 0)],
       [(0,some (ZaK L J1)),(64,some (.box [zi,zs,zi,zi,.nil])),(3392,some (.box (wc (ZaF dd)))),(3521,some (.arr 5 [] 0))]⟩:=by
     refine Zad (TypeK L ds ls dd d) dd.params.length ⟨[],J1,rfl,by simp,hJ1,by simp⟩ ?_ ?_
     .rintro i s hi' ⟨tys,J2,ht,hts,hJ2,rfl⟩
      obtain⟨r,⟨ty,J3,hGt,hty,hJ3,rfl⟩,hc2⟩:=ih J2 (by omega) hJ2;have hip:=hgood.1;unfold Znk;simp(disch:=first|exact zd|fail) [hi',hc2,ht,-getElem?_pos];refine⟨tys++[ty],J3,by simp[ht],?_,hJ3,by simp⟩;intro x hx;rcases ql.1 hx with hx|hx
      .exact hts x hx
      .simp only [qj] at hx
       exact hx▸⟨hGt,hty⟩
     .rintro s ⟨tys,J2,ht,hts,hJ2,rfl⟩
      have hip:=hgood.1;have hcon:=Zrc (A:=A) dd.name tys (by omega);unfold Znk;simp(disch:=first|exact zd|fail) [hcon,ht,-getElem?_pos];refine⟨_,J2,Zi7 (by rw[ht];exact hfit.2.2.1) fun x hx=>(hts x hx).1,?_,hJ2,rfl⟩;have hs:=Zfd fun x hx=>(hts x hx).2;have hm4:tys.length*5 ^ d<=4*5 ^ d:=qA _ (by omega);simp only[Ty.size,Ty.sizes_map];omega
    by_cases hk4:k=4
    .unfold v45
     simp(disch:=first|exact zd|fail) [hc,hi,h3',h4',hd1,hk4,hdata.1,hpos,hc1,hdd,-getElem?_pos];exact fin
    .have hk5:k=5:=by omega
     unfold v45;simp(disch:=first|exact zd|fail) [hc,hi,h3',h4',hd1,hk5,hdata.1,hpos,hc1,hdd,-getElem?_pos];exact fin
   .obtain ⟨r1,⟨t1,J1,hG1,ht1,hJ1,rfl⟩,hc1⟩:=ih J (by omega) hJ
    obtain⟨r2,⟨t2,J2,hG2,ht2,hJ2,rfl⟩,hc2⟩:=ih J1 (by omega) hJ1;have har:=ZiX (A:=A) t1 t2;have hGa:tyG (.mk 4 [45,62] 0 0 [t1,t2]):=Zi7 Zdm fun x hx=>by
     simp only[qz,qU,or_false]at hx;rcases hx with rfl|rfl
     .exact hG1
     .exact hG2
    have hsz:(Ty.mk 4 [45,62] 0 0 [t1,t2]).size<=5 ^ (d+1):=by
     simp only[Ty.size,Ty.sizes];omega
    have hb4:¬((k:Int)=4/\0<ds.length):=by
     rintro⟨h1,h2⟩;exact hdata ⟨qae.1 h2,by omega⟩
    have hb5:¬((k:Int)=5/\0<ds.length):=by
     rintro⟨h1,h2⟩;exact hdata ⟨qae.1 h2,by omega⟩
    unfold v45;by_cases hz:ds=[]
    .subst hz
     simp only[Zar,dataRows0]at hc1 hc2;by_cases hk4:(k:Int)=4
     .simp (disch:=first|exact zd|fail) [hc,hi,h3',h4',hd1,hk4,hc1,hc2,har,-getElem?_pos]
      exact⟨_,J2,hGa,hsz,hJ2,rfl⟩
     .by_cases hk5:(k:Int)=5
      .simp (disch:=first|exact zd|fail) [hc,hi,h3',h4',hd1,hk4,hk5,hc1,hc2,har,-getElem?_pos]
       exact⟨_,J2,hGa,hsz,hJ2,rfl⟩
      .simp (disch:=first|exact zd|fail) [hc,hi,h3',h4',hd1,hk4,hk5,hc1,hc2,har,-getElem?_pos]
       exact⟨_,J2,hGa,hsz,hJ2,rfl⟩
    .have hk4:¬(k:Int)=4:=fun h=>hdata ⟨hz,by omega⟩
     have hk5:¬(k:Int)=5:=fun h=>hdata ⟨hz,by omega⟩;simp(disch:=first|exact zd|fail) [hc,hi,h3',h4',hd1,hk4,hk5,hc1,hc2,har,-getElem?_pos];exact⟨_,J2,hGa,hsz,hJ2,rfl⟩
def tyW (t:Ty):Prop:=tyG t/\Ty.all (fun u=>u.kind≠3) t
theorem ZnS {s:Str}{l:List Ty}(hs:ZfI s l.length)(h:∀x∈l,tyW x):tyW (.mk 4 s 0 0 l):=⟨Zi7 hs fun x hx=>(h x hx).1,Ty.all_iff.2 ⟨by show(4:Int)≠3;decide,fun x hx=>(h x hx).2⟩⟩
theorem Zh0:tyW (.mk 4 [73,110,116] 0 0 []):=ZnS (.inr (.inl ⟨rfl,rfl⟩)) fun x hx=>by cases hx
def TypeW (L:List Int)(m:Nat)(r:V×List Obj):Prop:=∃t J,tyW t/\t.size<=m/\J<=L.length/\r=(tyV t,[ZaK L J])
def TypeKW (L:List Int)(ds:List DataD)(dd:DataD)(d i:Nat)(s:St):Prop:=∃tys J,tys.length=i/\(∀x∈tys,tyW x/\x.size<=5 ^ d)/\J<=L.length/\
 s=⟨[(0,.sc (.ptr 0 0)),(1,Zar ds),(2,.sc (.c (.sl []))),(3,intV (d+1)),(8,.sc (.ptr 64 0)),(10,.sc (.ptr 3392 0)),(11,.sc (.arr 3521 i)),(12,intV i)],
  [(0,some (ZaK L J)),(64,some (.box [zi,zs,zi,zi,.nil])),(3392,some (.box (wc (ZaF dd)))),(3521,some (.arr 5 (wr (Ty.rows tys)) 0))]⟩
theorem Ztj (L:List Int)(ds:List DataD)(hL:L.length<=1073741824)(hds:fitDs ds):∀(d I:Nat),d<=100->I<=L.length->
 ∃r,TypeW L (5 ^ d) r/\(K A).call 45 [.sc (.ptr 0 0),Zar ds,.sc (.c (.sl [])),intV d] [ZaK L I]=some r:=by
 intro d;have intSz:(Ty.mk 4 [73,110,116] 0 0 []).size=1:=Ty.size_leaf
 induction d with
 |zero=>
  intro I _ hI;obtain⟨k,J,hk,hJ,hc⟩:=ZbH (A:=A) L I 7 hI hL (by omega) (by omega);refine fnE v45 ?_;have hi:=ZmV (A:=A);unfold v45;by_cases h3:k<3
  .have h3':(k:Int)<3:=by omega
   have h4':(k:Int)<4:=(by omega);simp(disch:=first|exact zd|fail) [hc,hi,h3',h4',-getElem?_pos];exact⟨_,J,Zh0,by rw[intSz];omega,hJ,rfl⟩
  .have h3':¬(k:Int)<3:=by omega
   by_cases h4:k<4
   .have h4':(k:Int)<4:=by omega
    simp(disch:=first|exact zd|fail) [hc,hi,h3',h4',-getElem?_pos];exact⟨_,J,Zh0,by rw[intSz];omega,hJ,rfl⟩
   .have h4':¬(k:Int)<4:=by omega
    simp(disch:=first|exact zd|fail) [hc,hi,h3',h4',-getElem?_pos];exact⟨_,J,Zh0,by rw[intSz];omega,hJ,rfl⟩
 |succ d ih=>
  intro I hd hI;obtain⟨k,J,hk,hJ,hc⟩:=ZbH (A:=A) L I 7 hI hL (by omega) (by omega);have hi:=ZmV (A:=A);have hn:Ty.rows []=[]:=by rw[Ty.rows]
  have hd1:¬(d:Int)+1<1:=by omega
  have hp:1<=5 ^ d:=Nat.pos_of_ne_zero (by simp);have hp1:5 ^ (d+1)=5*5 ^ d:=by rw[qbb];omega
  refine fnE v45 ?_;by_cases h4:k<4
  .have h4':(k:Int)<4:=by omega
   unfold v45;by_cases h3:k<3
   .have h3':(k:Int)<3:=by omega
    simp(disch:=first|exact zd|fail) [hc,hi,h3',h4',-getElem?_pos];exact⟨_,J,Zh0,by rw[intSz];omega,hJ,rfl⟩
   .have h3':¬(k:Int)<3:=by omega
    simp(disch:=first|exact zd|fail) [hc,hi,h3',h4',-getElem?_pos];exact⟨_,J,Zh0,by rw[intSz];omega,hJ,rfl⟩
  .have h3':¬(k:Int)<3:=by omega
   have h4':¬(k:Int)<4:=(by omega);by_cases hdata:ds≠[]/\k<6
   .have hpos:0<ds.length:=qae.2 hdata.1
    have hds1:=hds.1;obtain⟨m,J1,hm,hJ1,hc1⟩:=ZbH (A:=A) L J ds.length hJ hL (by omega) (by omega);obtain⟨dd,hdd⟩:=Zaa (l:=ds) (i:=m) (by omega);have hfit:=hds.2 dd (qa hdd);have hgood:=hfit.1;have hm':(m:Int)<ds.length:=hm
    have fin:wp (K A) (.loop Znk) (Zb5 1 (Zdt (K A) (.seq (.region [] [o 77 (.fld 1 (tv 10)),o 78 (.load false 1 (tv 77)),o 79 (.mv (tv 11)),oa 80 (.call (kf 90) [(false,(tv 78)),(false,(tv 79))] []) 4992,on (.store 5 (tv 8) (tv 80) [])] [] [8]) .ret)
     (Zb5 0 (Zdt (K A) (.seq (.region [] [o 81 (.mv (tv 0)),o 82 (.mv (tv 1)),o 83 (.mv (tv 2)),o 84 (.mv (tv 3)),o 85 (.bin .sub 0 (tv 84) (ki 1)),oa 86 (.call (kf 45) [(true,(tv 81)),(false,(tv 82)),(false,(tv 83)),(false,(tv 85))] []) 5440,oa 13 (.new [zi,zs,zi,zi,.nil] []) 5504,on (.store 5 (tv 13) (tv 86) [])] [] [0,1,2,3,8,13])
       (.seq (.region [] [o 87 (.load true 5 (tv 13)),o 88 (.mv (tv 0)),o 89 (.mv (tv 1)),o 90 (.mv (tv 2)),o 91 (.mv (tv 3)),o 92 (.bin .sub 0 (tv 91) (ki 1)),oa 93 (.call (kf 45) [(true,(tv 88)),(false,(tv 89)),(false,(tv 90)),(false,(tv 92))] []) 6016,oa 94 (.call (kf 85) [(false,(tv 87)),(false,(tv 93))] []) 6080,on (.store 5 (tv 8) (tv 94) [])] [(0,6)] [8]) .ret)) (Zeo false 1 [.cell 8 true 5] (TypeW L (5 ^ (d+1))))))))
     ⟨[(0,.sc (.ptr 0 0)),(1,Zar ds),(2,.sc (.c (.sl []))),(3,intV (d+1)),(8,.sc (.ptr 64 0)),(10,.sc (.ptr 3392 0)),(11,.sc (.arr 3521 0)),(12,intV 0)],
       [(0,some (ZaK L J1)),(64,some (.box [zi,zs,zi,zi,.nil])),(3392,some (.box (wc (ZaF dd)))),(3521,some (.arr 5 [] 0))]⟩:=by
     refine Zad (TypeKW L ds dd d) dd.params.length ⟨[],J1,rfl,by simp,hJ1,by simp[hn]⟩ ?_ ?_
     .rintro i s hi' ⟨tys,J2,ht,hts,hJ2,rfl⟩
      obtain⟨r,⟨ty,J3,hGt,hty,hJ3,rfl⟩,hc2⟩:=ih J2 (by omega) hJ2;have hip:=hgood.1;unfold Znk;simp(disch:=first|exact zd|fail) [hi',hc2,ht,-getElem?_pos];refine⟨tys++[ty],J3,by simp[ht],?_,hJ3,by simp⟩;intro x hx;rcases ql.1 hx with hx|hx
      .exact hts x hx
      .simp only [qj] at hx
       exact hx▸⟨hGt,hty⟩
     .rintro s ⟨tys,J2,ht,hts,hJ2,rfl⟩
      have hip:=hgood.1;have hcon:=Zrc (A:=A) dd.name tys (by omega);unfold Znk;simp(disch:=first|exact zd|fail) [hcon,ht,-getElem?_pos];refine⟨_,J2,ZnS (by rw[ht];exact hfit.2.2.1) fun x hx=>(hts x hx).1,?_,hJ2,rfl⟩;have hs:=Zfd fun x hx=>(hts x hx).2;have hm4:tys.length*5 ^ d<=4*5 ^ d:=qA _ (by omega);simp only[Ty.size,Ty.sizes_map];omega
    by_cases hk4:k=4
    .unfold v45
     simp(disch:=first|exact zd|fail) [hc,hi,h3',h4',hd1,hk4,hdata.1,hpos,hc1,hdd,-getElem?_pos];exact fin
    .have hk5:k=5:=by omega
     unfold v45;simp(disch:=first|exact zd|fail) [hc,hi,h3',h4',hd1,hk5,hdata.1,hpos,hc1,hdd,-getElem?_pos];exact fin
   .obtain ⟨r1,⟨t1,J1,hG1,ht1,hJ1,rfl⟩,hc1⟩:=ih J (by omega) hJ
    obtain⟨r2,⟨t2,J2,hG2,ht2,hJ2,rfl⟩,hc2⟩:=ih J1 (by omega) hJ1;have har:=ZiX (A:=A) t1 t2;have hGa:tyW (.mk 4 [45,62] 0 0 [t1,t2]):=ZnS Zdm fun x hx=>by
     simp only[qz,qU,or_false]at hx;rcases hx with rfl|rfl
     .exact hG1
     .exact hG2
    have hsz:(Ty.mk 4 [45,62] 0 0 [t1,t2]).size<=5 ^ (d+1):=by
     simp only[Ty.size,Ty.sizes];omega
    have hb4:¬((k:Int)=4/\0<ds.length):=by
     rintro⟨h1,h2⟩;exact hdata ⟨qae.1 h2,by omega⟩
    have hb5:¬((k:Int)=5/\0<ds.length):=by
     rintro⟨h1,h2⟩;exact hdata ⟨qae.1 h2,by omega⟩
    unfold v45;by_cases hz:ds=[]
    .subst hz
     have hz2:Zax []=[]:=rfl;simp only[Zar,hz2]at hc1 hc2;by_cases hk4:(k:Int)=4
     .simp (disch:=first|exact zd|fail) [hc,hi,h3',h4',hd1,hk4,hc1,hc2,har,-getElem?_pos]
      exact⟨_,J2,hGa,hsz,hJ2,rfl⟩
     .by_cases hk5:(k:Int)=5
      .simp (disch:=first|exact zd|fail) [hc,hi,h3',h4',hd1,hk4,hk5,hc1,hc2,har,-getElem?_pos]
       exact⟨_,J2,hGa,hsz,hJ2,rfl⟩
      .simp (disch:=first|exact zd|fail) [hc,hi,h3',h4',hd1,hk4,hk5,hc1,hc2,har,-getElem?_pos]
       exact⟨_,J2,hGa,hsz,hJ2,rfl⟩
    .have hk4:¬(k:Int)=4:=fun h=>hdata ⟨hz,by omega⟩
     have hk5:¬(k:Int)=5:=fun h=>hdata ⟨hz,by omega⟩;simp(disch:=first|exact zd|fail) [hc,hi,h3',h4',hd1,hk4,hk5,hc1,hc2,har,-getElem?_pos];exact⟨_,J2,hGa,hsz,hJ2,rfl⟩
theorem ZkA (L:List Int)(ds:List DataD)(hL:L.length<=1073741824)(hds:fitDs ds)(d I:Nat)(hd:d<=100)(hI:I<=L.length):
 ∃r,Zn6 L (5 ^ d) r/\(K A).call 45 [.sc (.ptr 0 0),Zar ds,.sc (.c (.sl [])),intV d] [ZaK L I]=some r:=by
 obtain⟨_,⟨t,J,h1,h2,h3,rfl⟩,hc⟩:=Ztj (A:=A) L ds hL hds d I hd hI;exact⟨_,⟨t,J,h1.1,h2,h3,rfl⟩,hc⟩
theorem tyW.wr {t:Ty}(h:tyW t):wrT t:=⟨h.1.1,h.2⟩
variable {A:Zab}
theorem Zuy {M:Nat}(x:Ty)(hx:tyS M x)(hl:x.size<=1000000):∃r,TyR 0 x.size r/\(K A).call 140 [tyV x] []=some r:=by
 obtain⟨_,⟨v,⟨g1,g2,g3⟩,rfl⟩,hv⟩:=ZkY (A:=A) (n:=M) (c:=0) [x] (by simp;omega) (fun u hu=>by rw[qj.1 hu];exact hx);have hn:Ty.rows [x]=[x.row]:=by simp[Ty.rows]
 have hv:(K A).call 195 [.sc (.c (.sl [x.row]))] []=some (ZeQ v,[]):=by rw[<-hn];exact hv
 have g1':v.length<=x.size:=by simpa using g1
 have hi:=ZmV (A:=A);refine fnE v140 ?_;unfold v140;simp(disch:=first|exact zd|fail) [hv];refine Zad (fun i st=>∃s:List AssD,s.length=i/\(∀(j:Nat) y,j<i->v[j]?=some y->∃a∈s,a.id=y)/\(∀a∈s,tyS 0 a.ty/\a.ty.size<=1)/\
  st=⟨[(1,.sc (.ptr 64 0)),(2,.sc (.ptr 128 0)),(3,ZeQ v),(4,.sc (.arr 449 i)),(5,intV i)],[(64,some (.box (wc x.row))),(128,some (.box [zi,zs,zi,zi,.nil])),(449,some (.arr 6 (wr (Zcw s)) 0))]⟩) v.length ⟨[],rfl,by omega,by simp,by simp⟩ ?_ ?_
 .rintro i st hi2 ⟨s,hs,q1,q2,rfl⟩
  obtain⟨y,hy⟩:=Zaa hi2;have he:(W.c (.int .i64 y)::wc (Ty.mk 4 [73,110,116] 0 0 []).row)=wc (ZbY ⟨y,.mk 4 [73,110,116] 0 0 []⟩):=rfl;unfold ZvN;simp(disch:=first|exact zd|fail) [hi2,hy,hi,he,hs,-getElem?_pos];refine⟨s++[⟨y,.mk 4 [73,110,116] 0 0 []⟩],by simp[hs],?_,?_,by simp⟩
  .intro j z hj hz
   by_cases hji:j<i
   .obtain ⟨a,ha,hai⟩:=q1 j z hji hz
    exact⟨a,by simp[ha],hai⟩
   .obtain rfl:j=i:=by omega
    rw[hy]at hz;cases hz;exact⟨_,ql.2 (.inr (qj.2 rfl)),rfl⟩
  .intro a ha
   rcases ql.1 ha with ha|ha
   .exact q2 a ha
   .simp only [qj] at ha
    subst ha;exact⟨Zuu,by simp[Ty.size_leaf]⟩
 .rintro st ⟨s,hs,q1,q2,rfl⟩
  have hc:=ZdV (A:=A) s (by omega) x (by omega);have hS:tyS 0 (ZcI s x):=ZmW (c:=0) (l:=v) (fun i hi=>by
   obtain⟨j,hj,he⟩:=qM hi;exact q1 j i hj (by rw[qh hj,he])) (fun a ha=>(q2 a ha).1) hx (g2 x (by simp))
  have hz:=Zgx (qe 1) (fun a ha=>(q2 a ha).2) x;unfold ZvN;simp(disch:=first|exact zd|fail) [hc,hs,-getElem?_pos];exact⟨ZcI s x,hS,by omega,rfl⟩
def wD:Nat->Nat
 |0=>1
 |d+1=>7*wD d+25
theorem Zma:∀d,1<=wD d
 |0=>qe _
 |d+1=>by have:=Zma d;simp only[wD];omega
theorem wD_le {d:Nat}(hd:d<=6):wD d<=1000000:=by
 have:d=0\/d=1\/d=2\/d=3\/d=4\/d=5\/d=6:=by omega
 rcases this with rfl|rfl|rfl|rfl|rfl|rfl|rfl<;>decide
def Zp7 (A:Zab)(L:List Int)(ds:List DataD)(d:Nat):Prop:=∀(ctx:List EntD) (goal:Ty) (I:Nat),ctxOk (1000-4*d) 50000 ctx->tyS 0 goal->goal.size+10*d<=50000->I<=L.length->
 ∃r,MkR L ds (wD d) r/\(K A).call 44 [.sc (.ptr 0 0),Zar ds,Zc5 ctx,tyV goal,intV d] [ZaK L I]=some r
theorem ctxOk.up {n n2 m:Nat}{l:List EntD}(h:ctxOk n m l)(hn:n<=n2):ctxOk n2 m l:=⟨qu h.1 hn,h.2⟩
theorem ctxOk.push {n n2 m:Nat}{l:List EntD}(h:ctxOk n m l)(hn:n+1<=n2){s:Str}{c:Nat}{t:Ty}(hs:s∈ZbK)(hc:c<=900)(ht:tyB 0 c t)(hz:t.size<=m):ctxOk n2 m (l++[⟨s,c,t⟩]):=by
 refine⟨by have:=h.1;simp;omega,fun x hx=>?_⟩;rcases ql.1 hx with hx|hx
 .exact h.2 x hx
 .simp only [qj] at hx
  subst hx;exact⟨hs,⟨c,rfl,hc⟩,ht,hz⟩
variable {A:Zab}
theorem Zuv {ds:List DataD}{e x:Exp}(he:mkE ds e)(hx:mkE ds x):mkE ds (.mk 5 0 [] 0 [e,x] [] tz):=by
 rw[ZjE];refine⟨by simp[mkE1,mkS,annT,numB,Exp.kind,Exp.pos,Exp.name,Exp.num,Exp.kids,Exp.arms,Exp.ty,tz,Ty.size_leaf],?_,by simp⟩;intro y hy;simp only[qz,qU,or_false]at hy;rcases hy with rfl|rfl
 .exact he
 .exact hx
theorem ZnV (e x:Exp):(Exp.mk 5 0 [] 0 [e,x] [] tz).row=[.int .i64 5,.int .i64 0,.str [],.int .i64 0,.sl [e.row,x.row],.sl [],.int .i64 0,.str [],.int .i64 0,.int .i64 0,.sl []]:=by
 simp[Exp.row,tz,Ty.kind,Ty.name,Ty.id,Ty.home,Ty.args]
theorem ZgR (e x:Exp):(Exp.mk 5 0 [] 0 [e,x] [] tz).weight=1+(e.weight+x.weight):=by
 rw[Zbh];simp
abbrev Zty (k:Int)(s:Str):List W:=[.c (.int .i64 k),zi,.c (.str s),zi,.nil,.nil,zi,zs,zi,zi,.nil]
theorem Zx3 (L:List Int)(ds:List DataD)(hL:L.length<=1073741824)(hds:fitDs ds)(d:Nat)(hd:d<=6)(ih:Zp7 A L ds d)(ctx:List EntD)(goal:Ty)(I:Nat)(hctx:ctxOk (1000-4*(d+1)) 50000 ctx)(hg:tyS 0 goal)(hgl:goal.size<=50000)(hI:I<=L.length):
 ∃r,MkR L ds (wD (d+1)) r/\(K A).call 89 [.sc (.ptr 0 0),Zar ds,Zc5 ctx,tyV goal,intV (d+1)] [ZaK L I]=some r:=by
 have hp:=Zma d;have h32:wD (d+1)=(7*wD d+25):=rfl;rw[h32];obtain⟨_,⟨hl,hl1,hl2,rfl⟩,hlist⟩:=ZAT (A:=A) (n:=1000) (m:=50000) (by omega) (by omega) ds hds ctx (hctx.up (by omega)) goal hg (by omega);refine fnE v89 ?_;unfold v89;cases hl with
 |nil=>
  obtain⟨_,⟨e,J,g1,g2,g3,rfl⟩,hleaf⟩:=ZpE (A:=A) L ds hL (n:=1000) (by omega) ctx (hctx.up (by omega)) goal (by omega) I hI;simp only[hdRows0]at hlist;simp(disch:=first|exact zd|fail) [hlist,hleaf,-getElem?_pos];exact⟨e,J,g1,by omega,g3,rfl⟩
 |cons h0 hr=>
  obtain⟨q,J,hq,hJ,hc⟩:=ZbH (A:=A) L I ((h0::hr).length:Nat) hI hL (by simp) (by simp only[qG]at hl1 |-;omega);obtain⟨h,hh⟩:=Zaa (l:=h0::hr) (i:=q) (by omega);obtain⟨e1,e2,e3,e4⟩:=hl2 h (qa hh);have hql:(q:Int)<((h0::hr).length:Nat):=hq;have hne:¬((h0::hr).length:Nat)=0:=by simp
  generalize h0::hr=hl at *
  have hne':¬(hl.length:Int)=0:=by omega
  have hne2:hl≠[]:=fun h=>hne (by rw[h];rfl);have main:∀k:Int,mkE ds (.mk k 0 h.name 0 [] [] tz)->wp (K A) (.loop Zv5) (Zb5 0 (Zdt (K A) (.seq (.region [] [o 64 (.load true 11 (tv 13)),on (.store 11 (tv 10) (tv 64) [])] [] [10]) .ret) (Zeo false 1 [.cell 10 true 11] (MkR L ds ((7*wD d+25))))))
   ⟨[(0,.sc (.ptr 0 0)),(1,Zar ds),(2,Zc5 ctx),(4,intV (d+1)),(10,.sc (.ptr 128 0)),(12,.sc (.ptr 1536 0)),(13,.sc (.ptr 1856 0)),(14,intV 0)],
     [(0,some (ZaK L J)),(64,some (.box (wc goal.row))),(128,some (.box [zi,zi,zs,zi,.nil,.nil,zi,zs,zi,zi,.nil])),(1536,some (.box (wc (Zey h)))),(1856,some (.box (Zty k h.name)))]⟩:=by
   intro k hk;refine Zad (fun i st=>∃(e:Exp) (J:Nat) (cs:List W),mkE ds e/\e.weight<=1+i*(1+wD d)/\J<=L.length/\(cs=wc e.row\/(cs=Zty k h.name/\e=.mk k 0 h.name 0 [] [] tz))/\
    st=⟨[(0,.sc (.ptr 0 0)),(1,Zar ds),(2,Zc5 ctx),(4,intV (d+1)),(10,.sc (.ptr 128 0)),(12,.sc (.ptr 1536 0)),(13,.sc (.ptr 1856 0)),(14,intV i)],
     [(0,some (ZaK L J)),(64,some (.box (wc goal.row))),(128,some (.box [zi,zi,zs,zi,.nil,.nil,zi,zs,zi,zi,.nil])),(1536,some (.box (wc (Zey h)))),(1856,some (.box cs))]⟩) h.args.length
    ⟨_,J,Zty k h.name,hk,by have:=Zdj k 0 h.name;omega,hJ,.inr ⟨rfl,rfl⟩,by simp⟩ ?_ ?_
   .rintro i st hi ⟨e,J2,cs,p1,p2,p3,p4,rfl⟩
    obtain⟨x,hx⟩:=Zaa hi;obtain⟨M,x1,x2⟩:=e4 x (qa hx);obtain⟨_,⟨u,u1,u2,rfl⟩,hgr⟩:=Zuy (A:=A) x x1 (by omega);obtain⟨_,⟨y,J3,y1,y2,y3,rfl⟩,hty⟩:=ih ctx u J2 (hctx.up (by omega)) u1 (by omega) p3;have hw:1+(e.weight+y.weight)<=1+(i+1)*(1+wD d):=(by rw[Nat.succ_mul];omega);unfold Zv5;rcases p4 with rfl|⟨rfl,rfl⟩
    .simp (disch:=first|exact zd|fail) [hi,hx,hgr,hty,-getElem?_pos]
     exact⟨.mk 5 0 [] 0 [e,y] [] tz,Zuv p1 y1,by rw[ZgR];exact hw,J3,y3,rfl,by rw[ZnV];rfl⟩
    .simp (disch:=first|exact zd|fail) [hi,hx,hgr,hty,-getElem?_pos]
     exact⟨.mk 5 0 [] 0 [_,y] [] tz,Zuv p1 y1,by rw[ZgR];exact hw,J3,y3,rfl,by rw[ZnV,Zp1];rfl⟩
   .rintro st ⟨e,J2,cs,p1,p2,p3,p4,rfl⟩
    have hw:e.weight<=(7*wD d+25):=by
     have:h.args.length*(1+wD d)<=3*(1+wD d):=qA _ e3;omega
    unfold Zv5;rcases p4 with rfl|⟨rfl,rfl⟩
    .simp (disch:=first|exact zd|fail) [-getElem?_pos]
     exact⟨e,J2,p1,hw,p3,rfl⟩
    .simp (disch:=first|exact zd|fail) [-getElem?_pos]
     exact⟨_,J2,p1,hw,p3,by simp[expV,Zp1]⟩
  cases hb:h.con with
  |true=>
   have hk:mkE ds (.mk 2 0 h.name 0 [] [] tz):=ZgH (by simp[mkE1,mkS,annT,numB,Exp.kind,Exp.pos,Exp.name,Exp.num,Exp.kids,Exp.arms,Exp.ty,tz,Ty.size_leaf,e2 hb]);simp(disch:=first|exact zd|fail) [hlist,hne,hne',hne2,hc,hql,hh,hb,-getElem?_pos];exact main 2 hk
  |false=>
   have hk:mkE ds (.mk 1 0 h.name 0 [] [] tz):=ZgH (by simp[mkE1,mkS,annT,numB,Exp.kind,Exp.pos,Exp.name,Exp.num,Exp.kids,Exp.arms,Exp.ty,tz,Ty.size_leaf,e1 hb]);simp(disch:=first|exact zd|fail) [hlist,hne,hne',hne2,hc,hql,hh,hb,-getElem?_pos];exact main 1 hk
end Go.Vs.Tryz
