/- One head with some arguments, walked. (Parts of one proof, put together.) -/
import Derived.Test.YtccmnfpbcmccpaaGreatDoorR8c
set_option linter.unusedSimpArgs false
set_option linter.unusedVariables false
set_option linter.deprecated false
set_option maxHeartbeats 32000000
namespace Go.Vs.Tryz
open Go Go.Vs
variable {A:Zac}
@[simp] theorem cutw_sc0 (c:Int) (t:Ty):cut (wc (ZaI c t)) 0 1=some [.c (.int .i64 c)]:=by rw [ZaI,Ty.row_eq];rfl
@[simp] theorem cutw_sc1 (c:Int) (t:Ty):cut (wc (ZaI c t)) 1 5=some (wc t.row):=by rw [ZaI,Ty.row_eq];rfl
theorem wc_ty (t:Ty):wc t.row=[.c (.int .i64 t.kind),.c (.str t.name),.c (.int .i64 t.id),.c (.int .i64 t.home),.c (.sl (Ty.rows t.args))]:=by rw [Ty.row_eq];rfl
def SpineOk (s:StoD)(w:Ty)(ar:List Ty)(u:Ty):Prop:=∀ s',ext s s'→∀ U,Res s' w U→U.size≤200→(∀ x∈ar,∃ v,Res s' x v∧v.size≤200)∧∃ v,Res s' u v∧v.size≤200
theorem SpineOk.nil (s:StoD)(w:Ty):SpineOk s w [] w:=fun s' _ U hU hl=>⟨by simp,U,hU,hl⟩
theorem SpineOk.push {n:Nat}{s s1:StoD}{w u a b:Ty}{ar:List Ty}(h:SpineOk s w ar u)(he:ext s s1)(hs1:stoOk n s1)(hu:tyS n u)(hk:(Zbi s1 u).kind≠1)(hab:(Zbi s1 u).args=[a,b]):SpineOk s1 w (ar++[a]) b:=fun s' hs' U hU hl=>by
 obtain ⟨h1,v,hv,hvl⟩:=h s' (he.trans hs') U hU hl
 obtain ⟨v1,v2,g1,g2,g3,g4⟩:=hv.two (by rw [ZoA hs1 hs' hu hk];exact hab)
 refine ⟨fun x hx => ?_,v2,g2,by omega⟩
 rcases List.mem_append.1 hx with hx|hx
 ·exact h1 x hx
 ·simp only [List.mem_singleton] at hx
  exact ⟨v1,hx▸g1,by omega⟩
def ZkH (r:V × List Obj):Prop:=∃ (b:Bool)(l2:List Ty),l2.length≤3∧(∀ x∈l2,∃ M,tyS M x∧x.size≤4000)∧r=(.tu [.sc (.c (.sl [])),tysV l2,ZaG b],[])
theorem stoOk.fresh {n:Nat}{s:StoD}(hs:stoOk n s)(hn:n<1000)(ht:s.trail.length<1000000){h:Int}{b:Bool}{c:ChgD}:stoOk (n+1) ⟨s.slots++[Za3 h b],s.trail++[c]⟩:=by
 obtain ⟨h1,h2,h3,h4⟩:=hs
 refine ⟨by simp [h1],by omega,by simp;omega,?_⟩
 intro x hx
 rcases List.mem_append.1 hx with hx|hx
 ·exact fun hb=>⟨(h4 x hx hb).1.mono (by omega),(h4 x hx hb).2⟩
 ·simp only [List.mem_singleton] at hx
  subst hx
  intro hb
  cases hb
theorem ZlE (a b:Ty):(K A).call 84 [tyV (.mk 4 [45,62] 0 0 [a,b])] []=some (.tu [tyV a,tyV b,ZaG true],[]):=by
 have hr:Ty.rows [a,b]=[a.row,b.row]:=by simp [Ty.rows]
 refine ZaW (vf:=v84) (by kernel_rfl) rfl (by simp) ?_
 unfold v84
 simp (disch:=first|omega|(simp;done)|(simp;omega)) [Ty.kind,Ty.name,Ty.args,hr]
def ZoM (c n:Nat)(goal w:Ty)(is:List Ty)(j:Nat)(st:St):Prop:=∃ (m:Nat)(s:StoD)(u:Ty)(ar:List Ty)(tail:List (Nat × Option Obj)),stoOk m s∧c≤m∧m≤c+2*j∧s.trail.length≤c+3*j∧tyS m u∧u.size≤1073741824∧ar.length=j∧(∀ x∈ar,tyS m x∧x.size≤1073741824)∧SpineOk s w ar u ∧
 (tail=[]∨∃ a b rows q,tail=[(6976,some (.box a)),(7040,some (.box b)),(7744,some (.arr 5 rows q))]) ∧
 st=⟨[(3,ZdI []),(4,intV n),(5,.sc (.ptr 64 0)),(7,.sc (.ptr 192 0)),(16,.sc (.ptr 2112 0)),(17,.sc (.ptr 2304 0)),(18,.sc (.arr 2433 j))],
  [(64,some (.box [.c (.sl (ZaT s.slots)),.c (.sl (ZaZ s.trail))])),(192,some (.box (wc goal.row))),(449,some (.arr 5 (wr (Ty.rows is)) c)),(2112,some (.box (wc w.row))),(2304,some (.box (wc u.row))),(2433,some (.arr 5 (wr (Ty.rows ar)) 0))]++tail⟩
theorem Zff:ZkH (.tu [.sc (.c (.sl [])),.sc (.c (.sl [])),ZaG false],[]):=⟨false,[],by simp,by simp,by simp⟩
theorem ZkD (c:Nat)(hc:c≤900)(goal w:Ty)(is:List Ty)(n:Nat)(hn:n≤3)(rest:VCode)(j:Nat)(st:St)(hj:j<n)(hI:ZoM c n goal w is j st) :
 wp (K A) ZfU (fun e st=>(e=.normal∧ZoM c n goal w is (j+1) st)∨(e≠.normal∧Zby 2 (Zcv (K A) rest (Zdy false 0 [.tmp 10,.tmp 11,.tmp 12] ZkH)) e st)) st:=by
 obtain ⟨m,s,u,ar,tail,q1,q2,q3,q4,q5,q6,q7,q8,q10,q9,rfl⟩:=hI
 unfold ZoM
 obtain ⟨w1,w2⟩:=ZjL q1 q5 q6
 have hw:=Ze5 (A:=A) s q1 u q5
 obtain ⟨u',hu'⟩:∃ u',u'=Zbi s u:=⟨_,rfl⟩
 rw [←hu'] at w1 w2 hw
 have hsl:=q1.1
 rcases q9 with rfl|⟨ta,tb,tr,tq,rfl⟩
 all_goals
  by_cases hk:u'.kind=1
  ·obtain ⟨g1,g2,g0⟩:=w1.one.1 hk
   obtain ⟨i,hi⟩:∃ i:Nat,u'.id=i:=⟨u'.id.toNat,by omega⟩
   obtain ⟨y,hy⟩:=Zaa (l:=s.slots) (i:=i) (by omega)
   have hin:i<s.slots.length:=by omega
   cases hb:y.base with
   | true =>
    rcases ZcO (A:=A) u' with ⟨a,b,hab,har⟩|har
    ·have:=(w1.one.1 hk).2.2
     rw [hab] at this
     cases this
    ·unfold ZfU
     simp (maxSteps:=4000000) (disch:=first|omega|(simp;done)|(simp;omega)) [hj,q7,hw,hk,hi,hin,hy,hb,har,-getElem?_pos]
     exact Zff
   | false =>
    have hm3:m≤906:=by omega
    have hf1:=ZgW (A:=A) s (by omega) (by omega) 1000000 false
    rw [hsl] at hf1
    have k1:=q1.fresh (h:=1000000) (b:=false) (c:=⟨m,Za3 0 false,true⟩) (by omega) (by omega)
    have hf2:=ZgW (A:=A) ⟨s.slots++[Za3 1000000 false],s.trail++[⟨m,Za3 0 false,true⟩]⟩ (by simp;omega) (by simp;omega) 1000000 false
    have hl1:(s.slots++[Za3 1000000 false]).length=m+1:=by simp [hsl]
    simp only [hl1] at hf2
    have k2:=k1.fresh (h:=1000000) (b:=false) (c:=⟨(m+1:Nat),Za3 0 false,true⟩) (by omega) (by simp;omega)
    have hy2:(s.slots++[Za3 1000000 false]++[Za3 1000000 false])[i]?=some y:=by
     rw [List.getElem?_append_left (by simp;omega),List.getElem?_append_left (by omega)]
     exact hy
    have ha2:=Zep (A:=A) (.mk 1 [] m 0 []) (.mk 1 [] (m+1:Nat) 0 [])
    have hi2:=ZlE (A:=A) (.mk 1 [] m 0 []) (.mk 1 [] (m+1:Nat) 0 [])
    have hset:=Zlc (A:=A) ⟨s.slots++[Za3 1000000 false]++[Za3 1000000 false],s.trail++[⟨m,Za3 0 false,true⟩]++[⟨(m+1:Nat),Za3 0 false,true⟩]⟩ (by simp;omega) (by simp;omega) i y hy2 ⟨true,.mk 4 [45,62] 0 0 [.mk 1 [] m 0 [],.mk 1 [] (m+1:Nat) 0 []],y.home,y.base⟩
    rw [Zhj] at hset
    simp only [hb] at hset
    have hin2:i<(s.slots++[Za3 1000000 false]++[Za3 1000000 false]).length:=by simp;omega
    have hvaS:tyS (m+1+1) (.mk 1 [] m 0 [])∧(Ty.mk 1 [] m 0 []).size≤1:=⟨ZfD (by omega),by simp [Ty.size_leaf]⟩
    have hvbS:tyS (m+1+1) (.mk 1 [] (m+1:Nat) 0 [])∧(Ty.mk 1 [] (m+1:Nat) 0 []).size≤1:=⟨ZfD (by omega),by simp [Ty.size_leaf]⟩
    have hfaS:tyS (m+1+1) (.mk 4 [45,62] 0 0 [.mk 1 [] m 0 [],.mk 1 [] (m+1:Nat) 0 []])∧(Ty.mk 4 [45,62] 0 0 [.mk 1 [] m 0 [],.mk 1 [] (m+1:Nat) 0 []]).size≤10:=by
     refine ⟨ZgQ Zcq ?_,?_⟩
     ·intro x hx
      simp only [List.mem_cons,List.not_mem_nil,or_false] at hx
      rcases hx with rfl|rfl
      ·exact hvaS.1
      ·exact hvbS.1
     ·rw [Ty.size_eq]
      simp [Ty.args,Ty.size_leaf]
    have hbu:y.bound=false:=by
     obtain ⟨f1,_,i',z,f2,_,f3,f4⟩:=Ze0 q1 q5 (by rw [←hu'];exact hk)
     rw [←hu'] at f1
     rw [←f1] at f2
     have:i'=i:=by omega
     subst this
     rw [hy] at f3
     cases f3
     exact f4
    have hue:u=u':=by
     obtain ⟨f1,_⟩:=Ze0 q1 q5 (by rw [←hu'];exact hk)
     rw [←f1,←hu']
    have he1:ext s ⟨(s.slots++[Za3 1000000 false]++[Za3 1000000 false]).set i ⟨true,.mk 4 [45,62] 0 0 [.mk 1 [] m 0 [],.mk 1 [] (m+1:Nat) 0 []],y.home,false⟩,s.trail++[⟨m,Za3 0 false,true⟩]++[⟨(m+1:Nat),Za3 0 false,true⟩]++[⟨i,y,false⟩]⟩:=by
     have e1:ext s ⟨s.slots++[Za3 1000000 false]++[Za3 1000000 false],[]⟩:=by
      have:=ext.app (s:=s) (l:=[Za3 1000000 false]++[Za3 1000000 false]) (T:=[])
      rwa [←List.append_assoc] at this
     refine e1.trans (ext.set fun z hz hb2 => ?_)
     rw [hy2] at hz
     cases hz
     rw [hbu] at hb2
     cases hb2
    have hwk:Zbi ⟨(s.slots++[Za3 1000000 false]++[Za3 1000000 false]).set i ⟨true,.mk 4 [45,62] 0 0 [.mk 1 [] m 0 [],.mk 1 [] (m+1:Nat) 0 []],y.home,false⟩,s.trail++[⟨m,Za3 0 false,true⟩]++[⟨(m+1:Nat),Za3 0 false,true⟩]++[⟨i,y,false⟩]⟩ u=.mk 4 [45,62] 0 0 [.mk 1 [] m 0 [],.mk 1 [] (m+1:Nat) 0 []] :=
     ZcQ (i:=i) (x:=⟨true,.mk 4 [45,62] 0 0 [.mk 1 [] m 0 [],.mk 1 [] (m+1:Nat) 0 []],y.home,false⟩) (by rw [hue];exact hk) (by rw [hue];exact hi) (by rw [List.getElem?_set_self (List.getElem?_eq_some_iff.1 hy2).1]) rfl
    have hTl:(s.trail++[(⟨m,Za3 0 false,true⟩:ChgD)]++[(⟨(m+1:Nat),Za3 0 false,true⟩:ChgD)]).length=s.trail.length+2:=by simp
    generalize hva:Ty.mk 1 [] m 0 []=va at *
    generalize hvb:Ty.mk 1 [] (m+1:Nat) 0 []=vb at *
    generalize hfa:Ty.mk 4 [45,62] 0 0 [va,vb]=fa at *
    generalize hS2:s.slots++[Za3 1000000 false]++[Za3 1000000 false]=S2 at *
    generalize hT2:s.trail++[⟨m,Za3 0 false,true⟩]++[⟨(m+1:Nat),Za3 0 false,true⟩]=T2 at *
    generalize hS1:s.slots++[Za3 1000000 false]=S1 at *
    generalize hT1:s.trail++[⟨m,Za3 0 false,true⟩]=T1 at *
    rw [tyV,wc_ty fa] at hi2
    unfold ZfU
    simp (maxSteps:=4000000) (disch:=first|omega|(simp;done)|(simp;omega)) [hj,q7,hw,hk,hi,hin,hy,hb,hf1,hf2,hin2,hy2,ha2,Zhj y,Zi8,hset,hi2,-getElem?_pos]
    have hst:=k2.set (i:=i) (x:=⟨true,fa,y.home,false⟩) (c:=⟨i,y,false⟩) (fun _=>⟨hfaS.1,by show fa.size≤1073741824;omega,by show fa.kind≠1;rw [←hfa];show (4:Int)≠1;decide⟩) (by show T2.length<1000000;omega)
    refine ⟨m+1+1,⟨S2.set i ⟨true,fa,y.home,false⟩,T2++[⟨i,y,false⟩]⟩,hst,by omega,by omega,by simp;omega,vb,hvbS.1,by omega,ar++[va],by simp [q7],?_,q10.push (n:=m+1+1) he1 hst (q5.mono (by omega)) (by rw [hwk,←hfa];show (4:Int)≠1;decide) (by rw [hwk,←hfa];rfl),_,⟨_,_,_,_,rfl⟩,⟨rfl,rfl⟩,rfl,rfl,rfl⟩
    intro x hx
    rcases List.mem_append.1 hx with hx|hx
    ·exact ⟨(q8 x hx).1.mono (by omega),(q8 x hx).2⟩
    ·simp only [List.mem_singleton] at hx
     subst hx
     exact ⟨hvaS.1,by omega⟩
  ·rcases ZcO (A:=A) u' with ⟨a,b,hab,har⟩|har
   ·unfold ZfU
    simp (maxSteps:=4000000) (disch:=first|omega|(simp;done)|(simp;omega)) [hj,q7,hw,hk,har,-getElem?_pos]
    refine ⟨m,s,q1,q2,by omega,by omega,b,w1.arg (by rw [hab];simp),by have:=Ty.arg_lt (t:=u') (x:=b) (by rw [hab];simp);omega,ar++[a],by simp [q7],?_,q10.push (ext.refl s) q1 q5 (by rw [←hu'];exact hk) (by rw [←hu'];exact hab),_,⟨_,_,_,_,rfl⟩,⟨rfl,rfl⟩,rfl,rfl,rfl⟩
    intro x hx
    rcases List.mem_append.1 hx with hx|hx
    ·exact q8 x hx
    ·simp only [List.mem_singleton] at hx
     subst hx
     exact ⟨w1.arg (by rw [hab];simp),by have:=Ty.arg_lt (t:=u') (x:=x) (by rw [hab];simp);omega⟩
   ·unfold ZfU
    simp (maxSteps:=4000000) (disch:=first|omega|(simp;done)|(simp;omega)) [hj,q7,hw,hk,har,-getElem?_pos]
    exact Zff
variable {A:Zac}
theorem ZlQ {L:Nat→Option Obj}{s:Nat}{k:IntKind}{rows:List (List Cell)}(h:Za0 s rows=true):Zbb L s (.sc (.c (.sl rows))) none (some (.sc (.c (.int k 0)))) none=some (.sc (.c (.sl [])),[]):=by
 have:=slice_to (L:=L) (s:=s) (n:=0) (k:=k) (rows:=rows) (Nat.zero_le _)
 rw [h] at this
 simpa using this
theorem ZiX {L:Nat→Option Obj}{s:Nat}{k:IntKind}{rows:List (List Cell)}(h:Za0 s rows=true):Zbb L s (.sc (.c (.sl rows))) (some (.sc (.c (.int k 0)))) none none=some (.sc (.c (.sl rows)),[]):=by
 have:=slice_from (L:=L) (s:=s) (n:=0) (k:=k) (rows:=rows) (Nat.zero_le _)
 rw [h] at this
 simpa using this
theorem ZpJ (l:List Ty):Za0 5 (Ty.rows l)=true:=by rw [Ty.rows_map];exact Zc9 Ty.row_len l
theorem Zek {L:Nat→Option Obj}{k:IntKind}(l:List Ty):Zbb L 5 (.sc (.c (.sl (Ty.rows l)))) none (some (.sc (.c (.int k 0)))) none=some (.sc (.c (.sl [])),[]):=ZlQ (ZpJ l)
theorem Zc0 {L:Nat→Option Obj}{k:IntKind}(l:List Ty):Zbb L 5 (.sc (.c (.sl (Ty.rows l)))) (some (.sc (.c (.int k 0)))) none none=some (.sc (.c (.sl (Ty.rows l))),[]):=ZiX (ZpJ l)
def Zne (mid:List (Nat × Option Obj)):Prop:=mid=[]∨∃ a b rows q,mid=[(6976,some (.box a)),(7040,some (.box b)),(7744,some (.arr 5 rows q))]
theorem Zea:Zne []:=.inl rfl
theorem Zds (a b:List W)(rows:List (List W))(q:Nat):Zne [(6976,some (.box a)),(7040,some (.box b)),(7744,some (.arr 5 rows q))]:=.inr ⟨a,b,rows,q,rfl⟩
theorem Zh7 {m n c:Nat}(s:StoD)(hs:stoOk m s)(is ar:List Ty)(hn:n≤3)(hal:ar.length=n)(ha:∀ x∈ar,tyS m x∧x.size≤1073741824)(hres:∀ x∈ar,∃ v,Res s x v∧v.size≤200)(mid:List (Nat × Option Obj))(hm:Zne mid) :
 wp (K A) (.loop Zjz) (Zby 4 (Zcv (K A) (.seq (.seq (.region [] [o 33 (.mv (ki 0))] [] [3,5,18,29,33]) (.block 6 (.loop Zgn)))
  (.seq (.region [] [o 197 (.mv (tv 29)),oa 198 (.call (kf 236) [(false,tv 197)] []) 15040,o 29 (.mv (tv 198))] [] [3,29])
    (.seq (.region [] [o 199 (.mv (tv 29)),o 200 (.mv (tv 3)),o 201 (.len false (tv 200)),o 202 (.sl 5 (tv 199) none (some (tv 201)) none),o 203 (.mv (tv 29)),o 204 (.mv (tv 3)),o 205 (.len false (tv 204)),o 206 (.sl 5 (tv 203) (some (tv 205)) none none),
      o 10 (.mv (tv 202)),o 11 (.mv (tv 206)),o 12 (.mv kt)] [(2,6),(3,6),(2,7),(3,7)] [10,11,12]) .ret))) (Zdy false 0 [.tmp 10,.tmp 11,.tmp 12] ZkH)))
  ⟨[(3,.sc (.c (.sl []))),(5,.sc (.ptr 64 0)),(18,.sc (.arr 2433 n)),(29,.sc (.arr 10945 0)),(30,intV 0)],
    (64,some (.box [.c (.sl (ZaT s.slots)),.c (.sl (ZaZ s.trail))]))::(449,some (.arr 5 (wr (Ty.rows is)) c))::(2433,some (.arr 5 (wr (Ty.rows ar)) 0))::(mid++[(10945,some (.arr 5 [] 0))])⟩:=by
 rcases hm with rfl|⟨ta,tb,tr,tq,rfl⟩
 ·refine ZaV (fun _=>_) 0 rfl (fun i hi=>by omega) ?_
  unfold Zjz
  simp (maxSteps:=4000000) (disch:=first|omega|(simp;done)|(simp;omega)) [-getElem?_pos]
  refine Zaf (fun i st=>∃ (l:List Ty) (mid:List (Nat × Option Obj)),l.length=i∧(∀ x∈l,tyS m x∧x.size≤4000)∧Zne mid∧st=⟨[(3,.sc (.c (.sl []))),(5,.sc (.ptr 64 0)),(18,.sc (.arr 2433 n)),(29,.sc (.arr 10945 i)),(33,intV i)],
   (64,some (.box [.c (.sl (ZaT s.slots)),.c (.sl (ZaZ s.trail))]))::(449,some (.arr 5 (wr (Ty.rows is)) c))::(2433,some (.arr 5 (wr (Ty.rows ar)) 0))::(mid++[(10945,some (.arr 5 (wr (Ty.rows l)) 0))])⟩) n
   ⟨[],[],rfl,by simp,Zea,by simp⟩ ?_ ?_
  ·rintro i st hi ⟨l,mid,hl,hq,hmd,rfl⟩
   obtain ⟨x,hx⟩:=Zaa (l:=ar) (i:=i) (by omega)
   obtain ⟨hx1,hx2⟩:=ha x (List.mem_of_getElem? hx)
   obtain ⟨v,hv,hvl⟩:=hres x (List.mem_of_getElem? hx)
   obtain ⟨_,⟨u,hu1,hu2,rfl⟩,hr⟩:=Zj2 (A:=A) s hs x hx1 hx2 v hv (by omega)
   have mem:∀ y∈l++[u],tyS m y∧y.size≤4000:=by
    intro y hy
    rcases List.mem_append.1 hy with hy|hy
    ·exact hq y hy
    ·simp only [List.mem_singleton] at hy
     exact hy▸⟨hu1,hu2⟩
   unfold Zgn
   rcases hmd with rfl|⟨ua,ub,ur,uq,rfl⟩
   ·simp (maxSteps:=4000000) (disch:=first|omega|(simp;done)|(simp;omega)) [hi,hal,hl,hx,hr,-getElem?_pos]
    exact ⟨l++[u],by simp [hl],mem,[],Zea,by simp⟩
   ·simp (maxSteps:=4000000) (disch:=first|omega|(simp;done)|(simp;omega)) [hi,hal,hl,hx,hr,-getElem?_pos]
    exact ⟨l++[u],by simp [hl],mem,_,Zds _ _ _ _,rfl⟩
  ·rintro st ⟨l,mid,hl,hq,hmd,rfl⟩
   have hsz:=ZlN (fun x hx=>(hq x hx).2) (show l.length≤3 by omega)
   obtain ⟨_,⟨M,l2,c1,c2,rfl⟩,hcn⟩:=ZeK (A:=A) l (by omega) (fun x hx=>(hq x hx).1)
   have res:ZkH (.tu [.sc (.c (.sl [])),tysV l2,ZaG true],[]):=by
    refine ⟨true,l2,by omega,fun x hx => ?_,rfl⟩
    obtain ⟨j,hj,he⟩:=List.getElem_of_mem hx
    obtain ⟨y,hy⟩:=Zaa (l:=l) (i:=j) (by omega)
    obtain ⟨d1,d2⟩:=c2 j y x hy (by rw [List.getElem?_eq_getElem hj,he])
    exact ⟨M,d1,by have:=(hq y (List.mem_of_getElem? hy)).2;omega⟩
   unfold Zgn
   rcases hmd with rfl|⟨ua,ub,ur,uq,rfl⟩
   ·simp (maxSteps:=4000000) (disch:=first|omega|(simp;done)|(simp;omega)) [hal,hl,hcn,Zek,Zc0,-getElem?_pos]
    exact res
   ·simp (maxSteps:=4000000) (disch:=first|omega|(simp;done)|(simp;omega)) [hal,hl,hcn,Zek,Zc0,-getElem?_pos]
    exact res
 ·refine ZaV (fun _=>_) 0 rfl (fun i hi=>by omega) ?_
  unfold Zjz
  simp (maxSteps:=4000000) (disch:=first|omega|(simp;done)|(simp;omega)) [-getElem?_pos]
  refine Zaf (fun i st=>∃ (l:List Ty) (mid:List (Nat × Option Obj)),l.length=i∧(∀ x∈l,tyS m x∧x.size≤4000)∧Zne mid∧st=⟨[(3,.sc (.c (.sl []))),(5,.sc (.ptr 64 0)),(18,.sc (.arr 2433 n)),(29,.sc (.arr 10945 i)),(33,intV i)],
   (64,some (.box [.c (.sl (ZaT s.slots)),.c (.sl (ZaZ s.trail))]))::(449,some (.arr 5 (wr (Ty.rows is)) c))::(2433,some (.arr 5 (wr (Ty.rows ar)) 0))::(mid++[(10945,some (.arr 5 (wr (Ty.rows l)) 0))])⟩) n
   ⟨[],[(6976,some (.box ta)),(7040,some (.box tb)),(7744,some (.arr 5 tr tq))],rfl,by simp,Zds _ _ _ _,by simp⟩ ?_ ?_
  ·rintro i st hi ⟨l,mid,hl,hq,hmd,rfl⟩
   obtain ⟨x,hx⟩:=Zaa (l:=ar) (i:=i) (by omega)
   obtain ⟨hx1,hx2⟩:=ha x (List.mem_of_getElem? hx)
   obtain ⟨v,hv,hvl⟩:=hres x (List.mem_of_getElem? hx)
   obtain ⟨_,⟨u,hu1,hu2,rfl⟩,hr⟩:=Zj2 (A:=A) s hs x hx1 hx2 v hv (by omega)
   have mem:∀ y∈l++[u],tyS m y∧y.size≤4000:=by
    intro y hy
    rcases List.mem_append.1 hy with hy|hy
    ·exact hq y hy
    ·simp only [List.mem_singleton] at hy
     exact hy▸⟨hu1,hu2⟩
   unfold Zgn
   rcases hmd with rfl|⟨ua,ub,ur,uq,rfl⟩
   ·simp (maxSteps:=4000000) (disch:=first|omega|(simp;done)|(simp;omega)) [hi,hal,hl,hx,hr,-getElem?_pos]
    exact ⟨l++[u],by simp [hl],mem,[],Zea,by simp⟩
   ·simp (maxSteps:=4000000) (disch:=first|omega|(simp;done)|(simp;omega)) [hi,hal,hl,hx,hr,-getElem?_pos]
    exact ⟨l++[u],by simp [hl],mem,_,Zds _ _ _ _,rfl⟩
  ·rintro st ⟨l,mid,hl,hq,hmd,rfl⟩
   have hsz:=ZlN (fun x hx=>(hq x hx).2) (show l.length≤3 by omega)
   obtain ⟨_,⟨M,l2,c1,c2,rfl⟩,hcn⟩:=ZeK (A:=A) l (by omega) (fun x hx=>(hq x hx).1)
   have res:ZkH (.tu [.sc (.c (.sl [])),tysV l2,ZaG true],[]):=by
    refine ⟨true,l2,by omega,fun x hx => ?_,rfl⟩
    obtain ⟨j,hj,he⟩:=List.getElem_of_mem hx
    obtain ⟨y,hy⟩:=Zaa (l:=l) (i:=j) (by omega)
    obtain ⟨d1,d2⟩:=c2 j y x hy (by rw [List.getElem?_eq_getElem hj,he])
    exact ⟨M,d1,by have:=(hq y (List.mem_of_getElem? hy)).2;omega⟩
   unfold Zgn
   rcases hmd with rfl|⟨ua,ub,ur,uq,rfl⟩
   ·simp (maxSteps:=4000000) (disch:=first|omega|(simp;done)|(simp;omega)) [hal,hl,hcn,Zek,Zc0,-getElem?_pos]
    exact res
   ·simp (maxSteps:=4000000) (disch:=first|omega|(simp;done)|(simp;omega)) [hal,hl,hcn,Zek,Zc0,-getElem?_pos]
    exact res
variable {A:Zac}
theorem ZkP (c:Nat)(hc:c≤900)(t goal:Ty)(ht:tyB 0 c t)(htl:t.size≤1000000)(hg:tyS 0 goal)(hgl:goal.size≤900000)(n:Nat)(hn:n≤3) :
 ∃ r,ZkH r∧(K A).call 216 [stoV ⟨[],[]⟩,schV c t,tyV goal,ZdI [],intV n] []=some r:=by
 refine Zap _ (vf:=v216) (by kernel_rfl) rfl (by simp) ?_
 unfold v216
 simp (disch:=first|omega|(simp;done)|(simp;omega)) [ZaI]
 refine Zaf (fun i st=>∃ (s:StoD) (is:List Ty),stoOk i s∧s.trail.length≤i∧is.length=i∧(∀ x∈is,tyS i x∧x.size≤1)∧st=⟨[(3,ZdI []),(4,intV n),(5,.sc (.ptr 64 0)),(6,.sc (.ptr 128 0)),(7,.sc (.ptr 192 0)),(13,.sc (.arr 449 i)),(14,intV i)],
  [(64,some (.box [.c (.sl (ZaT s.slots)),.c (.sl (ZaZ s.trail))])),(128,some (.box (wc (ZaI c t)))),(192,some (.box (wc goal.row))),(449,some (.arr 5 (wr (Ty.rows is)) 0))]⟩) c ⟨⟨[],[]⟩,[],⟨rfl,by omega,by simp,by simp⟩,by simp,rfl,by simp,by simp [ZaI]⟩ ?_ ?_
 ·rintro i st hi ⟨s,is,h1,h2,h3,h4,rfl⟩
  have hf:=ZgW (A:=A) s (by have:=h1.1;omega) (by have:=h1.2.2.1;omega) 1000000 false
  have hsl:=h1.1
  rw [hsl] at hf
  unfold Zl0
  simp (disch:=first|omega|(simp;done)|(simp;omega)) [hi,hf,h3,-getElem?_pos]
  refine ⟨⟨s.slots++[Za3 1000000 false],s.trail++[⟨i,Za3 0 false,true⟩]⟩,h1.fresh (by omega) (by omega),by simp;omega,is++[.mk 1 [] i 0 []],by simp [h3],?_,⟨rfl,rfl⟩,rfl⟩
  intro x hx
  rcases List.mem_append.1 hx with hx|hx
  ·exact ⟨(h4 x hx).1.mono (by omega),(h4 x hx).2⟩
  ·simp only [List.mem_singleton] at hx
   subst hx
   exact ⟨ZfD (by omega),by simp [Ty.size_leaf]⟩
 ·rintro st ⟨s,is,h1,h2,h3,h4,rfl⟩
  have hop:=ZiZ (A:=A) is (by omega) t (by omega)
  have hoS:tyS c (Zdf is t):=Zi4 (fun x hx=>(h4 x hx).1) (by rw [h3];exact ht.mono (Nat.zero_le _) (Nat.le_refl _))
  have hoZ:=ZeD (Nat.le_refl 1) (fun x hx=>(h4 x hx).2) t
  generalize Zdf is t=w at *
  unfold Zl0
  simp (disch:=first|omega|(simp;done)|(simp;omega)) [hop,h3,-getElem?_pos]
  refine Zaf (ZoM c n goal w is) n ⟨c,s,w,[],[],h1,by omega,by omega,by omega,hoS,by omega,rfl,by simp,SpineOk.nil s w,.inl rfl,by simp⟩ ?_ ?_
  ·intro j st hj hI
   exact ZkD c hc goal w is n hn _ j st hj hI
  ·rintro st ⟨m,s,u,ar,tail,q1,q2,q3,q4,q5,q6,q7,q8,q10,q9,rfl⟩
   obtain ⟨_,⟨u1,w1,w2,_,rfl⟩,hw⟩:=ZiQ (A:=A) s q1 u q5 q6
   obtain ⟨_,⟨s1,m1,m2,x1,rfl⟩,hm1⟩:=Zl5 (A:=A) s u1 q1 w1 w2 (by omega)
   obtain ⟨_,⟨s2,m3,m4,x2,rfl⟩,hm2⟩:=Zl5 (A:=A) s1 goal m1 (hg.mono (Nat.zero_le _)) (by omega) (by omega)
   obtain ⟨_,⟨s3,e,m5,m6,x3,rfl⟩,hun⟩:=Zoi (A:=A) s2 u1 goal m3 w1 w2 hg (by omega) (by omega)
   obtain ⟨k,_,_,hsz,hszr,_⟩:=Zfm (A:=A) s3 m5 200 (by omega) w (hoS.mono q2) (by omega)
   have hsz':(K A).call 234 [stoV s3,tyV w,intV 200] []=some (intV k,[]):=hsz
   unfold ZfU
   rcases q9 with rfl|⟨ta,tb,tr,tq,rfl⟩
   all_goals
    rcases ZcO (A:=A) u1 with ⟨a,b,hab,har⟩|har
    ·simp (maxSteps:=4000000) (disch:=first|omega|(simp;done)|(simp;omega)) [q7,hw,har,-getElem?_pos]
     exact Zff
    ·by_cases he:e=0
     ·by_cases hk:200<k
      ·have hki:(200:Int)<k:=by omega
       simp (maxSteps:=4000000) (disch:=first|omega|(simp;done)|(simp;omega)) [q7,hw,har,hm1,hm2,hun,he,hsz',hk,hki,-getElem?_pos]
       exact Zff
      ·have hki:¬(200:Int)<k:=by omega
       obtain ⟨U,_,hU,hUk,_⟩:=hszr (by omega)
       have hres:=(q10 s3 ((x1.trans x2).trans x3) U hU (by omega)).1
       simp (maxSteps:=4000000) (disch:=first|omega|(simp;done)|(simp;omega)) [q7,hw,har,hm1,hm2,hun,he,hsz',hk,hki,-getElem?_pos]
       first
        | exact Zh7 (c:=c) s3 m5 is ar hn q7 q8 hres [] Zea
        | exact Zh7 (c:=c) s3 m5 is ar hn q7 q8 hres [(6976,some (.box _)),(7040,some (.box _)),(7744,some (.arr 5 _ _))] (Zds _ _ _ _)
     ·simp (maxSteps:=4000000) (disch:=first|omega|(simp;done)|(simp;omega)) [q7,hw,har,hm1,hm2,hun,he,-getElem?_pos]
      exact Zff
end Go.Vs.Tryz
namespace Go.Vs
open Go
structure HeadD where
 name:Str
 con:Bool
 args:List Ty
 types:List Ty
def Zc3 (h:HeadD):List Cell:=[.str h.name,.bool h.con,.sl (Ty.rows h.args),.sl (Ty.rows h.types)]
def ZbL (l:List HeadD):List (List Cell):=l.map Zc3
@[simp] theorem hdRow_len (h:HeadD):(Zc3 h).length=4:=rfl
@[simp] theorem hdRows_len (l:List HeadD):(ZbL l).length=l.length:=by simp [ZbL]
@[simp] theorem hdRows_get (l:List HeadD) (i:Nat):(ZbL l)[i]?=(l[i]?).map Zc3:=by simp [ZbL]
@[simp] theorem okRows_hd (l:List HeadD):ZaM 4 (wr (ZbL l))=true:=Za2 l hdRow_len
@[simp] theorem hdRows0:ZbL []=[]:=rfl
@[simp] theorem hdRows_app (l m:List HeadD):wr (ZbL l)++wr (ZbL m)=wr (ZbL (l++m)):=by simp [ZbL,wr]
@[simp] theorem hdRows_snoc (l:List HeadD) (h:HeadD):wr (ZbL l)++[wc (Zc3 h)]=wr (ZbL (l++[h])):=by simp [ZbL,wr]
section
variable (h:HeadD)
@[simp] theorem cut_hd0:cut (Zc3 h) 0 1=some [.str h.name]:=rfl
@[simp] theorem cut_hd1:cut (Zc3 h) 1 1=some [.bool h.con]:=rfl
@[simp] theorem cut_hd2:cut (Zc3 h) 2 1=some [.sl (Ty.rows h.args)]:=rfl
@[simp] theorem cut_hd3:cut (Zc3 h) 3 1=some [.sl (Ty.rows h.types)]:=rfl
@[simp] theorem cut_hd:cut (Zc3 h) 0 4=some (Zc3 h):=rfl
@[simp] theorem cutw_hd0:cut (wc (Zc3 h)) 0 1=some [.c (.str h.name)]:=rfl
@[simp] theorem cutw_hd1:cut (wc (Zc3 h)) 1 1=some [.c (.bool h.con)]:=rfl
@[simp] theorem cutw_hd2:cut (wc (Zc3 h)) 2 1=some [.c (.sl (Ty.rows h.args))]:=rfl
@[simp] theorem cutw_hd:cut (wc (Zc3 h)) 0 4=some (wc (Zc3 h)):=rfl
end
end Go.Vs
namespace Go.Vs.Tryz
open Go Go.Vs
variable {A:Zac}
def ZpD (nm:Str)(con:Bool)(h:HeadD):Prop:=h.name=nm∧h.con=con∧h.args.length≤3∧∀ x∈h.args,∃ M,tyS M x∧x.size≤4000
def HeadsR (nm:Str)(con:Bool)(r:V × List Obj):Prop:=∃ hs:List HeadD,hs.length≤4∧(∀ h∈hs,ZpD nm con h)∧r=(.sc (.c (.sl (ZbL hs))),[])
theorem ZnB (nm:Str)(con:Bool)(c:Nat)(hc:c≤900)(t goal:Ty)(ht:tyB 0 c t)(htl:t.size≤1000000)(hg:tyS 0 goal)(hgl:goal.size≤900000) :
 ∃ r,HeadsR nm con r∧(K A).call 193 [stoV ⟨[],[]⟩,schV c t,tyV goal,ZdI [],intV 3,.ag [.c (.str nm),.c (.bool con),.c (.sl []),.c (.sl [])]] []=some r:=by
 refine Zap _ (vf:=v193) (by kernel_rfl) rfl (by simp) ?_
 unfold v193
 simp (disch:=first|omega|(simp;done)|(simp;omega))
 refine Zaf (fun i st=>∃ hs:List HeadD,hs.length≤i∧(∀ h∈hs,ZpD nm con h)∧st=⟨[(3,ZdI []),(4,intV 3),(6,.sc (.ptr 64 0)),(7,.sc (.ptr 128 0)),(8,.sc (.ptr 192 0)),(11,.sc (.ptr 256 0)),(13,.sc (.arr 385 hs.length)),(14,intV i)],
  [(64,some (.box [.c (.sl []),.c (.sl [])])),(128,some (.box (wc (ZaI c t)))),(192,some (.box (wc goal.row))),(256,some (.box [.c (.str nm),.c (.bool con),.c (.sl []),.c (.sl [])])),(385,some (.arr 4 (wr (ZbL hs)) 0))]⟩) 4 ⟨[],by simp,by simp,by simp⟩ ?_ ?_
 ·rintro i st hi ⟨hs,h1,h2,rfl⟩
  obtain ⟨_,⟨b,l2,e1,e2,rfl⟩,hel⟩:=ZkP (A:=A) c hc t goal ht htl hg hgl i (by omega)
  simp only [stoV,ZdI,slRows0,chRows0,assRows0] at hel
  have hi3:(i:Int)≤3:=by omega
  unfold ZmR
  cases b with
  | false =>
   simp (disch:=first|omega|(simp;done)|(simp;omega)) [hi3,hel,-getElem?_pos]
   exact ⟨hs,by omega,h2,by simp⟩
  | true =>
   simp (disch:=first|omega|(simp;done)|(simp;omega)) [hi3,hel,-getElem?_pos]
   refine ⟨hs++[⟨nm,con,l2,[]⟩],by simp;omega,?_,by simp,?_⟩
   ·intro h hh
    rcases List.mem_append.1 hh with hh|hh
    ·exact h2 h hh
    ·simp only [List.mem_singleton] at hh
     subst hh
     exact ⟨rfl,rfl,e1,e2⟩
   ·rw [←hdRows_snoc]
    simp [Zc3]
 ·rintro st ⟨hs,h1,h2,rfl⟩
  unfold ZmR
  simp (disch:=first|omega|(simp;done)|(simp;omega)) [-getElem?_pos]
  exact ⟨hs,h1,h2,rfl⟩
variable {A:Zac}
def elOk (ds:List DataD)(h:HeadD):Prop:=(h.con=false→h.name∈Zbf)∧(h.con=true→cOk ds h.name)∧h.args.length≤3∧∀ x∈h.args,∃ M,tyS M x∧x.size≤4000
def ListR (ds:List DataD)(r:V × List Obj):Prop:=∃ hs:List HeadD,hs.length≤1000000∧(∀ h∈hs,elOk ds h)∧r=(.sc (.c (.sl (ZbL hs))),[])
theorem Zp8 {n m:Nat}(hn:n≤1000)(hm:m≤100000)(ds:List DataD)(hds:fitDs ds)(ctx:List EntD)(hctx:ctxOk n m ctx)(goal:Ty)(hg:tyS 0 goal)(hgl:goal.size≤900000) :
 ∃ r,ListR ds r∧(K A).call 139 [Zal ds,Zbv ctx,tyV goal,.sc (.c (.sl [])),intV 3] []=some r:=by
 have hnm:n*m≤100000000:=Nat.le_trans (Nat.mul_le_mul hn hm) (by omega)
 have hst:=Zn3 (A:=A) (by omega) ctx hctx goal hg (by omega)
 have hrp:=ZcI (A:=A) [] (by simp) goal (by omega)
 rw [ZjP goal hg] at hrp
 obtain ⟨hc1,hc2⟩:=hctx
 have hs:=ZlK (A:=A) ctx (by omega)
 have hsl:=ZcR ctx ctx.length
 have hsub:=Zcg ctx ctx.length
 generalize ZbQ ctx ctx.length=l at *
 have hds1:=hds.1
 simp only [stoV,ZdI,slRows0,chRows0,assRows0] at hst hrp
 refine Zap _ (vf:=v139) (by kernel_rfl) rfl (by simp) ?_
 unfold v139
 rcases ZcO (A:=A) goal with ⟨a,b,_,har⟩|har
 ·simp (disch:=first|omega|(simp;done)|(simp;omega)) [har,-getElem?_pos]
  exact ⟨[],by simp,by simp,by simp⟩
 ·simp (disch:=first|omega|(simp;done)|(simp;omega)) [har,hst,hrp,hs,-getElem?_pos]
  refine Zaf (fun i st=>∃ hl:List HeadD,hl.length≤4*i∧(∀ h∈hl,elOk ds h)∧st=⟨[(0,Zal ds),(4,intV 3),(14,.sc (.ptr 1728 0)),(15,.sc (.c (.sl []))),(16,.sc (.ptr 2112 0)),(17,.sc (.arr 2241 hl.length)),(18,Zbv l),(19,intV i)],
   [(1728,some (.box [.c (.sl []),.c (.sl [])])),(2112,some (.box (wc goal.row))),(2241,some (.arr 4 (wr (ZbL hl)) 0))]⟩) l.length ⟨[],by simp,by simp,by simp⟩ ?_ ?_
  ·rintro i st hi ⟨hl,h1,h2,rfl⟩
   obtain ⟨x,hx⟩:=Zaa hi
   obtain ⟨x1,⟨c,hc,hcl⟩,x3,x4⟩:=hc2 x (hsub x (List.mem_of_getElem? hx))
   rw [hc,Int.toNat_natCast] at x3
   have hap:=Zf0 (A:=A) [] (by simp) x.count x.ty (by omega)
   rw [ZjP x.ty x3] at hap
   obtain ⟨_,⟨hs2,g1,g2,rfl⟩,hh⟩:=ZnB (A:=A) x.name false c (by omega) x.ty goal x3 (by omega) hg hgl
   rw [←hc] at hh
   simp only [stoV,ZdI,slRows0,chRows0,assRows0] at hh hap
   unfold Znz
   simp (disch:=first|omega|(simp;done)|(simp;omega)) [hi,hx,hap,hh,-getElem?_pos]
   refine ⟨hl++hs2,by simp;omega,?_,by simp⟩
   intro h hm2
   rcases List.mem_append.1 hm2 with hm2|hm2
   ·exact h2 h hm2
   ·obtain ⟨k1,k2,k3,k4⟩:=g2 h hm2
    exact ⟨fun _=>by rw [k1];exact x1,fun hcon=>absurd (k2.symm.trans hcon) (by simp),k3,k4⟩
  ·rintro st ⟨hl,h1,h2,rfl⟩
   unfold Znz
   simp (disch:=first|omega|(simp;done)|(simp;omega)) [-getElem?_pos]
   refine Zaf (fun i st=>∃ hl2:List HeadD,hl2.length≤4*l.length+24*i∧(∀ h∈hl2,elOk ds h)∧st=⟨[(0,Zal ds),(4,intV 3),(14,.sc (.ptr 1728 0)),(15,.sc (.c (.sl []))),(16,.sc (.ptr 2112 0)),(17,.sc (.arr 2241 hl2.length)),(21,intV i)],
    [(1728,some (.box [.c (.sl []),.c (.sl [])])),(2112,some (.box (wc goal.row))),(2241,some (.arr 4 (wr (ZbL hl2)) 0))]⟩) ds.length ⟨hl,by omega,h2,by simp⟩ ?_ ?_
   ·rintro i st hi ⟨hl2,h3,h4,rfl⟩
    obtain ⟨d,hd⟩:=Zaa hi
    obtain ⟨⟨hg1,hg2,hg3,hg4⟩,hff⟩:=hds.2 d (List.mem_of_getElem? hd)
    unfold ZlH
    simp (disch:=first|omega|(simp;done)|(simp;omega)) [hi,hd,-getElem?_pos]
    refine Zaf (fun k st=>∃ hl3:List HeadD,hl3.length≤4*l.length+24*i+4*k∧(∀ h∈hl3,elOk ds h)∧st=⟨[(0,Zal ds),(4,intV 3),(14,.sc (.ptr 1728 0)),(15,.sc (.c (.sl []))),(16,.sc (.ptr 2112 0)),(17,.sc (.arr 2241 hl3.length)),(21,intV i),(22,intV k)],
     [(1728,some (.box [.c (.sl []),.c (.sl [])])),(2112,some (.box (wc goal.row))),(2241,some (.arr 4 (wr (ZbL hl3)) 0))]⟩) d.cons.length ⟨hl2,by omega,h4,by simp⟩ ?_ ?_
    ·rintro k st hk ⟨hl3,h5,h6,rfl⟩
     obtain ⟨cc,hcc⟩:=Zaa hk
     obtain ⟨_,⟨c,u,b,u1,u2,u3,rfl⟩,hcon⟩:=Zf1 (A:=A) ds hds cc.name ⟨d,List.mem_of_getElem? hd,cc,List.mem_of_getElem? hcc,rfl⟩
     obtain ⟨_,⟨hs2,g1,g2,rfl⟩,hh⟩:=ZnB (A:=A) cc.name true c (by omega) u goal u2 (by omega) hg hgl
     simp only [stoV,ZdI,slRows0,chRows0,assRows0] at hh
     unfold Zl1
     simp (disch:=first|omega|(simp;done)|(simp;omega)) [hi,hd,hk,hcc,hcon,hh,-getElem?_pos]
     refine ⟨hl3++hs2,by simp;omega,?_,by simp⟩
     intro h hm2
     rcases List.mem_append.1 hm2 with hm2|hm2
     ·exact h6 h hm2
     ·obtain ⟨k1,k2,k3,k4⟩:=g2 h hm2
      exact ⟨fun hcon=>absurd (k2.symm.trans hcon) (by simp),fun _=>.inr ⟨d,List.mem_of_getElem? hd,cc,List.mem_of_getElem? hcc,k1⟩,k3,k4⟩
    ·rintro st ⟨hl3,h5,h6,rfl⟩
     unfold Zl1
     simp (disch:=first|omega|(simp;done)|(simp;omega)) [hi,hd,-getElem?_pos]
     exact ⟨hl3,by omega,h6,by simp⟩
   ·rintro st ⟨hl2,h3,h4,rfl⟩
    unfold ZlH
    simp (disch:=first|omega|(simp;done)|(simp;omega)) [-getElem?_pos]
    exact ⟨hl2,by omega,h4,rfl⟩
end Go.Vs.Tryz
