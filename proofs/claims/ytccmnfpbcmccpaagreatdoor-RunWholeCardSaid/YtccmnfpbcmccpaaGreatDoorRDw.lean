/- Stores of type variables, walked: Walk. -/
import Derived.Test.YtccmnfpbcmccpaaGreatDoorRCw
set_option linter.all false
set_option maxHeartbeats 32000000
namespace Go.Vs.Tryz
open Go Go.Vs
variable {A:Ag}
theorem KF {n:Nat}(s:StoD)(hs:stoOk n s)(t:Ty)(ht:tyS n t):(K A).call 230 [stoV s,tyV t] []=some (tyV (A8 s t),[]):=by
 have hs0:=hs;obtain⟨h1,h2,h3,h4⟩:=hs0;refine fnO v230 ?_;unfold v230;simp(disch:=try exact zd);refine Al (fun i st=>∃u:Ty,((i=0/\u=t)\/u=A8 s t)/\st=⟨[(2,.sc (.ptr 64 0)),(3,.sc (.ptr 128 0)),(4,.sc (.ptr 192 0)),(5,intV i)],
  [(64,some (.box [.c (.sl (Bd s.slots)),.c (.sl (Bk s.trail))])),(128,some (.box (wc u.row))),(192,some (.box [zi,zs,zi,zi,.nil]))]⟩) (n+1) ⟨t,.inl ⟨rfl,rfl⟩,by simp⟩ ?_ ?_
 .rintro i st hi ⟨u,hu,rfl⟩
  obtain⟨_,⟨b,hb,rfl⟩,hc⟩:=ZdX (A:=A) s oz u;have hi2:(i:Int)<=s.slots.length:=oz
  unfold Mp;cases b with
  |true=>
   obtain⟨hk,j,x,hj,hx,hxb⟩:=hb.1 rfl;have hjl:=(qf.1 hx).1;have hut:u=t:=by
    rcases hu with ⟨_,h⟩|h
    .exact h
    .obtain ⟨e1,e2,i',x',e3,e4,e5,e6⟩:=Kz hs ht (by rw [<-h];exact hk)
     rw[h,e1]at hj;have:i'=j:=oz;subst this;rw[hx]at e5;cases e5;rw[hxb]at e6;cases e6
   simp(disch:=try exact zd) [hi2,hc,hj,hx,hjl,-getElem?_pos];rw[hut]at hk hj;rw[HO hk hj hx hxb]
  |false=>
   have hu2:u=A8 s t:=by
    rcases hu with ⟨_,rfl⟩|h
    .by_cases hk:u.kind=1
     .obtain ⟨g1,g2,_⟩:=ht.one.1 hk
      obtain⟨j,hj⟩:∃j:Nat,u.id=j:=⟨u.id.toNat,oz⟩;obtain⟨x,hx⟩:=Ab (l:=s.slots) (i:=j) oz;cases hxb:x.bound with
      |true=>exact absurd (hb.2 ⟨hk,j,x,hj,hx,hxb⟩) sy
      |false=>exact(Ps hj hx hxb).symm
     .exact(I5 hk).symm
    .exact h
   simp(disch:=try exact zd) [hi2,hc,<-hu2,-getElem?_pos]
 .rintro st ⟨u,hu,rfl⟩
  have hu2:u=A8 s t:=by
   rcases hu with ⟨h,_⟩|h
   .omega
   .exact h
  have hi2:¬(n:Int)+1<=s.slots.length:=oz
  unfold Mp;simp(disch:=try exact zd) [hi2,<-hu2,-getElem?_pos]
def Zgt (n:Nat)(t:Ty)(r:V×List Obj):Prop:=∃u:Ty,tyS n u/\u.size<=687194767360/\(t.kind≠1->u=t)/\r=(tyV u,[])
theorem Nl {n:Nat}(s:StoD)(hs:stoOk n s)(t:Ty)(ht:tyS n t)(hl:t.size<=687194767360):∃r,Zgt n t r/\(K A).call 230 [stoV s,tyV t] []=some r:=by
 obtain⟨h1,h2⟩:=Kw hs ht hl;exact⟨_,⟨A8 s t,h1,h2,I5,rfl⟩,KF s hs t ht⟩
def SzOk (A:Ag)(n:Nat)(s:StoD)(t:Ty)(k:Nat):Prop:=∃u:Ty,tyS n u/\Res s t u/\u.size<=k/\(K A).call 254 [stoV s,tyV t] []=some (tyV u,[])
theorem Zgr {n k:Nat}(s:StoD)(t w:Ty)(hwp:w=A8 s t)(hwa:w.args.length<=687194767360)(hw:tyS n w)(hc:(K A).call 230 [stoV s,tyV t] []=some (tyV w,[]))(us:List Ty)(hl:us.length=w.args.length)
 (hus:∀(j:Nat) x,w.args[j]?=some x->∃u,us[j]?=some u/\tyS n u/\Res s x u/\(K A).call 254 [stoV s,tyV x] []=some (tyV u,[])) (hk:(us.map Ty.size).sum+1<=k):SzOk A n s t k:=by
 refine⟨.mk w.kind w.name w.id w.home us,?_,?_,?_,?_⟩
 .refine GQ.2 ⟨?_,?_⟩
  .exact hw.one.len hl
  .intro x hx
   obtain⟨j,hj,he⟩:=qT (show x∈us from hx);obtain⟨y,hy⟩:=Ab (l:=w.args) (i:=j) oz;obtain⟨u,hu,hs,_,_⟩:=hus j y hy;rw[qj hj,he]at hu;cases hu;exact hs
 .subst hwp
  refine .mk t us hl fun j x y hx hy=>?_;obtain⟨u,hu,_,hr,_⟩:=hus j x hx;rw[hu]at hy;cases hy;exact hr
 .rw [Ty.size_eq]
  show 1+(us.map Ty.size).sum<=k;omega
 .refine fnO v254 ?_
  unfold v254;simp(disch:=try exact zd) [hc];simp(disch:=try exact zd) [Ty.row_eq w];refine Al (fun i st=>st=⟨[(2,.sc (.ptr 64 0)),(3,.sc (.ptr 128 0)),(4,.sc (.ptr 192 0)),(5,.sc (.ptr 576 0)),(6,intV i)],
   [(64,some (.box [.c (.sl (Bd s.slots)),.c (.sl (Bk s.trail))])),(128,some (.box [.c (.int .i64 w.kind),.c (.str w.name),.c (.int .i64 w.id),.c (.int .i64 w.home),.c (.sl (Ty.rows w.args))])),(192,some (.box [zi,zs,zi,zi,.nil])),
     (576,some (.box [.c (.int .i64 w.kind),.c (.str w.name),.c (.int .i64 w.id),.c (.int .i64 w.home),.arr 769 i])),(769,some (.arr 5 (wr (Ty.rows (us.take i))) 0))]⟩) w.args.length sy ?_ ?_
  .rintro i st hi rfl
   obtain⟨x,hx⟩:=Ab hi;obtain⟨u,hu,hs,_,hcu⟩:=hus i x hx;have hlen:(us.take i).length=i:=(by simp;omega);unfold NV;simp(disch:=try exact zd) [hi,hx,hcu,hlen,AP hu,-getElem?_pos]
  .rintro st rfl
   have htk:us.take w.args.length=us:=qh oz;unfold NV;simp(disch:=try exact zd) [htk,hl,Ix,-getElem?_pos]
def ZM (A:Ag)(n:Nat)(s:StoD)(most:Nat)(t:Ty):Prop:=∃k:Nat,1<=k/\k<=most+1/\(K A).call 253 [stoV s,tyV t,intV most] []=some (intV k,[])/\(k<=most->SzOk A n s t k)/\∀u,Res s t u->u.size<=most->k=u.size
theorem ZfR {n:Nat}(s:StoD)(hs:stoOk n s):∀(most:Nat),most<=1000000->∀t:Ty,tyS n t->t.size<=687194767360->ZM A n s most t:=by
 intro most
 induction most using Nat.strongRecOn with
 |ind most ih=>
 intro hm t ht hl;obtain⟨hw1,hw2⟩:=Kw hs ht hl;have hcw:=KF (A:=A) s hs t ht;obtain⟨w,hw⟩:∃w,w=A8 s t:=⟨_,rfl⟩;rw[<-hw]at hw1 hw2 hcw;have hwl:=w.args_lt;have main:∃r,(∃k:Nat,1<=k/\k<=most+1/\(k<=most->SzOk A n s t k)/\(∀u,Res s t u->u.size<=most->k=u.size)/\r=(intV k,[]))/\(K A).call 253 [stoV s,tyV t,intV most] []=some r:=by
  refine fnE v253 ?_;unfold v253;simp(disch:=try exact zd) [hcw];refine Al (fun i st=>∃(k:Nat) (us:List Ty),1<=k/\k<=most+1/\(k<=most->us.length=i/\(us.map Ty.size).sum+1<=k/\∀(j:Nat) x,j<i->w.args[j]?=some x->∃u,us[j]?=some u/\tyS n u/\Res s x u/\(K A).call 254 [stoV s,tyV x] []=some (tyV u,[]))/\
   (∀vs:List Ty,vs.length=w.args.length->(∀(j:Nat) x y,w.args[j]?=some x->vs[j]?=some y->Res s x y)->1+((vs.map Ty.size).take i).sum<=most->k=1+((vs.map Ty.size).take i).sum)/\
   st=⟨[(2,intV most),(3,.sc (.ptr 64 0)),(4,.sc (.ptr 128 0)),(7,intV k),(8,intV i)],[(64,some (.box [.c (.sl (Bd s.slots)),.c (.sl (Bk s.trail))])),(128,some (.box (wc w.row)))]⟩) w.args.length
   ⟨1,[],oz,oz,fun _=>⟨rfl,by simp,oz⟩,fun _ _ _ _=>by simp,by simp⟩ ?_ ?_
  .rintro i st hi ⟨k,us,hk1,hk2,hk3,hkv,rfl⟩
   obtain⟨x,hx⟩:=Ab hi;have hxm:=qc hx;have hxs:=Ty.arg_lt hxm;have nx:∀vs:List Ty,vs.length=w.args.length->∃y,vs[i]?=some y/\((vs.map Ty.size).take (i+1)).sum=((vs.map Ty.size).take i).sum+y.size:=fun vs hv=>by
    obtain⟨y,hy⟩:=Ab (l:=vs) (i:=i) oz;have hym:(vs.map Ty.size)[i]?=some y.size:=(by rw[qk,hy];rfl);exact⟨y,hy,by rw[AP hym];simp⟩
   unfold M1;by_cases hkm:k<=most
   .obtain ⟨q1,q2,q3⟩:=hk3 hkm
    obtain⟨k2,h1,h2,hc,h3,h4⟩:=ih (most-k) oz oz x (hw1.arg hxm) oz;have e1:(most:Int)-k=((most-k:Nat):Int):=oz;have hnext:∀vs:List Ty,vs.length=w.args.length->(∀(j:Nat) x y,w.args[j]?=some x->vs[j]?=some y->Res s x y)->1+((vs.map Ty.size).take (i+1)).sum<=most->k+k2=1+((vs.map Ty.size).take (i+1)).sum:=fun vs hv hr hle=>by
     obtain⟨y,hy,hsum⟩:=nx vs hv;have g1:=hkv vs hv hr oz;have g2:=h4 y (hr i x y hx hy) oz;omega
    simp(disch:=try exact zd) [hi,hkm,hx,e1,hc,-getElem?_pos];by_cases hle:k+k2<=most
    .obtain ⟨u,hu1,hur,hu2,hu3⟩:=h3 oz
     refine⟨k+k2,oz,oz,⟨us++[u],fun _=>⟨by simp[q1],?_,?_⟩⟩,hnext,oz⟩
     .simp only [qai,qt,qX,qaF,qQ,qaJ]
      omega
     .intro j y hj hy
      by_cases hji:j<i
      .obtain ⟨v,hv,hv2⟩:=q3 j y hji hy
       exact⟨v,by rw[qF oz];exact hv,hv2⟩
      .obtain rfl:j=i:=oz
       rw[hx]at hy;cases hy;exact⟨u,by rw[qN oz,q1];simp,hu1,hur,hu3⟩
    .exact⟨k+k2,oz,oz,⟨us,fun h=>absurd h hle⟩,hnext,oz⟩
   .simp (disch:=try exact zd) [hi,hkm,-getElem?_pos]
    refine⟨k,hk1,hk2,fun h=>absurd h hkm,fun u hu hle=>?_,by split<;>omega⟩;cases hu with
    |mk _ vs hl hr=>
     rw[<-hw]at hl hr;rw[Ty.size_eq]at hle;have hle':1+(vs.map Ty.size).sum<=most:=hle;have hst:((vs.map Ty.size).take i).sum<=(vs.map Ty.size).sum:=DS;have:=hkv vs hl hr oz;omega
  .rintro st ⟨k,us,hk1,hk2,hk3,hkv,rfl⟩
   unfold M1;simp(disch:=try exact zd);refine⟨k,hk1,hk2,fun h=>?_,fun u hu hle=>?_,by split<;>omega⟩
   .obtain ⟨q1,q2,q3⟩:=hk3 h
    exact Zgr s t w hw oz hw1 hcw us q1 (fun j x hx=>q3 j x (qf.1 hx).1 hx) q2
   .cases hu with
    |mk _ vs hl hr=>
     rw[<-hw]at hl hr;rw[Ty.size_eq]at hle |-;have hle':1+(vs.map Ty.size).sum<=most:=hle;have:=hkv vs hl hr (by rw[qh (by simp;omega)];exact hle');rw[qh (by simp;omega)]at this;exact this
 obtain⟨_,⟨k,h1,h2,h3,h4,rfl⟩,hc⟩:=main;exact⟨k,h1,h2,hc,h3,h4⟩
variable {A:Ag}
theorem IV {n:Nat}(s:StoD)(hs:stoOk n s)(most:Nat)(hm:most<=1000000)(t:Ty)(ht:tyS n t)(hl:t.size<=687194767360):∃k:Nat,1<=k/\k<=most+1/\(K A).call 234 [stoV s,tyV t,intV most] []=some (intV k,[])/\(k<=most->SzOk A n s t k)/\∀u,Res s t u->u.size<=most->k=u.size:=by
 obtain⟨k,h1,h2,hc,h3,h4⟩:=ZfR (A:=A) s hs most hm t ht hl;refine⟨k,h1,h2,?_,h3,h4⟩;refine fnO v234 ?_;have h0:¬(most:Int)<0:=oz
 unfold v234;simp(disch:=try exact zd) [h0,hc]
def ResR (r:V×List Obj):Prop:=∃(u:Ty) (b:Bool),u.size<=4000/\r=(.tu [tyV u,Ac b],[])
def ResS (n:Nat)(r:V×List Obj):Prop:=∃(u:Ty),tyS n u/\u.size<=4000/\r=(.tu [tyV u,Ac true],[])
theorem Va {n:Nat}(s:StoD)(hs:stoOk n s)(t:Ty)(ht:tyS n t)(hl:t.size<=687194767360)(v:Ty)(hv:Res s t v)(hvz:v.size<=4000):∃r,ResS n r/\(K A).call 235 [stoV s,tyV t] []=some r:=by
 obtain⟨k,h1,h2,hc,h3,h4⟩:=IV (A:=A) s hs 4000 oz t ht hl;have hkv:=h4 v hv hvz;refine fnE v235 ?_;have hc':(K A).call 234 [stoV s,tyV t,intV 4000] []=some (intV k,[]):=hc;unfold v235;obtain⟨u,hu1,_,hu2,hu3⟩:=h3 oz;have hk2:¬(4000:Int)<k:=oz
 have hk3:¬4000<k:=oz
 simp(disch:=try exact zd) [hc',hk2,hk3,hu3];exact⟨u,hu1,oz,rfl⟩
theorem Za7 {n:Nat}(s:StoD)(hs:stoOk n s)(t:Ty)(ht:tyS n t)(hl:t.size<=687194767360):∃r,ResR r/\(K A).call 235 [stoV s,tyV t] []=some r:=by
 obtain⟨k,h1,h2,hc,h3,_⟩:=IV (A:=A) s hs 4000 oz t ht hl;refine fnE v235 ?_;have hc':(K A).call 234 [stoV s,tyV t,intV 4000] []=some (intV k,[]):=hc;unfold v235;by_cases hk:k<=4000
 .obtain ⟨u,hu1,_,hu2,hu3⟩:=h3 hk
  have hk2:¬(4000:Int)<k:=oz
  have hk3:¬4000<k:=oz
  simp(disch:=try exact zd) [hc',hk2,hk3,hu3];exact⟨u,true,oz,rfl⟩
 .have hk2:(4000:Int)<k:=oz
  have hk3:4000<k:=oz
  simp(disch:=try exact zd) [hc',hk2,hk3];exact⟨.mk 0 [] 0 0 [],false,by rw[Ty.size_leaf];omega,by simp[Ty.row]⟩
abbrev MC (s:StoD)(ks:List Bool):List Obj:=[.box [.c (.sl (Bd s.slots)),.c (.sl (Bk s.trail)),.nil,.arr 1 ks.length],.arr 1 (boOs ks) 0]
theorem Za8 (s:StoD)(ks:List Bool)(t:Ty):tyS 0 t->t.size<=687194767360->(K A).call 302 [.sc (.ptr 0 0),tyV t] (MC s ks)=some (.tu [],MC s ks):=by
 induction t using Ty.ind with
 |h t ih=>
 intro ht hl;have hk:¬t.kind=1:=fun hk=>by
  have:=ht.one.1 hk;omega
 have hal:=t.args_lt;refine fnO v302 ?_;unfold v302;simp(disch:=try exact zd) [hk];refine Al (fun i st=>st=⟨[(0,.sc (.ptr 0 0)),(3,.sc (.ptr 64 0)),(4,intV i)],[(0,some (.box [.c (.sl (Bd s.slots)),.c (.sl (Bk s.trail)),.nil,.arr 1 ks.length])),(1,some (.arr 1 (boOs ks) 0)),(64,some (.box (wc t.row)))]⟩) t.args.length sy ?_ ?_
 .rintro i st hi rfl
  obtain⟨x,hx⟩:=Ab hi;have hxs:=Ty.arg_lt (qc hx);have hc:=ih x (qc hx) (ht.arg (qc hx)) oz;unfold MT;simp(disch:=try exact zd) [hi,hx,hc,-getElem?_pos]
 .rintro st rfl
  unfold MT;simp(disch:=try exact zd) [-getElem?_pos]
theorem ZcH (s:StoD)(hs:s.slots.length<=1000)(t:Ty)(ht:tyS 0 t)(hl:t.size<=687194767360):(K A).call 297 [stoV s,tysV [t]] []=some (Cy [],[]):=by
 have hv:=Za8 (A:=A) s (List.replicate s.slots.length false) t ht hl;have hr2:(List.replicate s.slots.length false).length=s.slots.length:=by simp
 generalize hK0:List.replicate s.slots.length false=K0 at *
 have hg:([t]:List Ty)[0]?=some t:=rfl;refine fnO v297 ?_;unfold v297;simp(disch:=try exact zd) [ON,hK0,-List.map_replicate];refine Am (fun i=>⟨[(1,tysV [t]),(5,.sc (.ptr 576 0)),(6,intV i)],[(448,some (.arr 1 (boOs K0) 0)),(576,some (.box [.c (.sl (Bd s.slots)),.c (.sl (Bk s.trail)),.nil,.arr 448 s.slots.length]))]⟩) 1 ?_ ?_ ?_
 .simp
 .intro i hi
  obtain rfl:i=0:=oz
  rw[MC,hr2]at hv;unfold N9;simp(disch:=try exact zd) [hv,hg,hr2,-getElem?_pos]
 .unfold N9
  simp(disch:=try exact zd) [Bo,-getElem?_pos]
def StoR (n T:Nat)(s0:StoD)(r:V×List Obj):Prop:=∃(s:StoD) (e:Int),stoOk n s/\s.trail.length<=T/\ext s0 s/\r=(.tu [stoV s,intV e],[])
theorem stoOk.set {n:Nat}{s:StoD}(hs:stoOk n s){i:Nat}{x:SlotD}(hx:x.bound=true->tyS n x.ty/\x.ty.size<=687194767360/\x.ty.kind≠1){c:ChgD}(ht:s.trail.length<1000000):stoOk n ⟨s.slots.set i x,s.trail++[c]⟩:=by
 obtain⟨h1,h2,h3,h4⟩:=hs;refine⟨by simp[h1],h2,by simp;omega,?_⟩;intro y hy;rcases List.mem_or_eq_of_mem_set hy with hy|hy
 .exact h4 y hy
 .exact hy▸hx
theorem NG (a b c d e f g:W)(t:Ty):splice [a,b,c,d,e,f,g] 0 (wc t.row)=some [.c (.int .i64 t.kind),.c (.str t.name),.c (.int .i64 t.id),.c (.int .i64 t.home),.c (.sl (Ty.rows t.args)),f,g]:=by
 unfold splice;rw[Ty.row_eq];simp
theorem Zam {n:Nat}(s:StoD)(hs:stoOk n s)(ht:s.trail.length<1000000)(i:Nat)(hi:i<n)(hub:∀y,s.slots[i]?=some y->y.bound=false)(t:Ty)(hg:tyS 0 t)(hl:t.size<=687194767360):∃r,StoR n (s.trail.length+1) s r/\(K A).call 283 [stoV s,intV i,tyV t] []=some r:=by
 have hs0:=hs;obtain⟨h1,h2,h3,h4⟩:=hs0;obtain⟨y,hy⟩:=Ab (l:=s.slots) (i:=i) oz;have hin:i<s.slots.length:=oz
 have hv:=ZcH (A:=A) s oz t hg hl;have hn:Ty.rows [t]=[t.row]:=by simp[Ty.rows]
 have hv:(K A).call 297 [stoV s,.sc (.c (.sl [t.row]))] []=some (Cy [],[]):=by rw[<-hn];exact hv
 have hh:=NI (A:=A) [] (i:Int) sy;obtain⟨_,⟨u,b,hu2,rfl⟩,hr⟩:=Za7 (A:=A) s hs t (hg.mono (qaa _)) hl;obtain⟨_,⟨o2,⟨q1,q2,q3,q4⟩,rfl⟩,hq⟩:=Vv (A:=A) [u] (by simp;omega);have hn2:Ty.rows [u]=[u.row]:=by simp[Ty.rows]
 have hq:(K A).call 186 [.sc (.c (.sl [u.row]))] []=some (tysV o2,[]):=by rw[<-hn2];exact hq
 have q1':o2.length<=4000:=by simp at q1;omega
 have hset:=PG (A:=A) s oz h3 i y hy ⟨true,t,y.home,y.base⟩;rw[EX]at hset;simp only at hset;have hk1:t.kind≠1:=fun hk=>by have:=hg.one.1 hk;omega
 have same:∀e:Int,StoR n (s.trail.length+1) s (.tu [stoV s,intV e],[]):=fun e=>⟨s,e,hs,oz,ext.refl s,rfl⟩;have fin:StoR n (s.trail.length+1) s (.tu [stoV ⟨s.slots.set i ⟨true,t,y.home,y.base⟩,s.trail++[⟨i,y,false⟩]⟩,intV 0],[]):=⟨_,0,hs.set (fun _=>⟨hg.mono (qaa _),hl,hk1⟩) ht,by simp,ext.set (fun z hz hb=>by rw[hub z hz]at hb;cases hb),rfl⟩;refine fnE v283 ?_;unfold v283;simp[Bo]at hv hh
 rcases GM (A:=A) t with ⟨a,c,_,har⟩|har
 .cases hb:y.base with
  |true=>
   simp(disch:=try exact zd) [hin,hy,hv,hh,har,hb,-getElem?_pos];exact same 14
  |false=>
   simp(disch:=try exact zd) [hin,hy,hv,hh,har,hb,hr,hq,-getElem?_pos];refine Al (fun j st=>st=⟨[(1,intV i),(3,.sc (.ptr 64 0)),(5,.sc (.ptr 128 0)),(6,.sc (.ptr 192 0)),(8,.sc (.ptr 640 0)),(9,.sc (.c (.sl []))),(15,tysV o2),(16,intV j)],
    [(64,some (.box [.c (.sl (Bd s.slots)),.c (.sl (Bk s.trail))])),(128,some (.box (wc t.row))),(192,some (.box [.nil,.nil])),(640,some (.box (wc (Bn y))))]⟩) o2.length (by simp[Bo]) ?_ ?_
   .rintro j st hj rfl
    obtain⟨x,hx⟩:=Ab hj;unfold F7;by_cases hxh:x.home>y.home
    .have hxh':y.home<x.home:=hxh
     simp(disch:=try exact zd) [hj,hx,hxh,hxh',-getElem?_pos];exact same 13
    .have hxh':¬y.home<x.home:=hxh
     simp(disch:=try exact zd) [hj,hx,hxh,hxh',-getElem?_pos]
   .rintro st rfl
    unfold F7;simp(disch:=try exact zd) [-getElem?_pos];refine Am (fun _=>⟨[(1,intV i),(3,.sc (.ptr 64 0)),(5,.sc (.ptr 128 0)),(6,.sc (.ptr 192 0)),(8,.sc (.ptr 640 0)),(9,.sc (.c (.sl []))),(17,intV 0)],
     [(64,some (.box [.c (.sl (Bd s.slots)),.c (.sl (Bk s.trail))])),(128,some (.box (wc t.row))),(192,some (.box [.nil,.nil])),(640,some (.box (wc (Bn y))))]⟩) 0 sy (fun i hi=>by omega) ?_
    unfold Lt;simp(disch:=try exact zd) [-getElem?_pos];refine Am (fun _=>⟨[(1,intV i),(3,.sc (.ptr 64 0)),(5,.sc (.ptr 128 0)),(6,.sc (.ptr 192 0)),(8,.sc (.ptr 640 0)),(9,.sc (.c (.sl []))),(18,intV 0)],
     [(64,some (.box [.c (.sl (Bd s.slots)),.c (.sl (Bk s.trail))])),(128,some (.box (wc t.row))),(192,some (.box [.nil,.nil])),(640,some (.box (wc (Bn y))))]⟩) 0 sy (fun i hi=>by omega) ?_
    unfold Mw;rw[EX y];simp(disch:=try exact zd) [NG,hset,-getElem?_pos];exact fin
 .simp (disch:=try exact zd) [hin,hy,hv,hh,har,hr,hq,-getElem?_pos]
  refine Al (fun j st=>st=⟨[(1,intV i),(3,.sc (.ptr 64 0)),(5,.sc (.ptr 128 0)),(6,.sc (.ptr 192 0)),(8,.sc (.ptr 640 0)),(9,.sc (.c (.sl []))),(15,tysV o2),(16,intV j)],
   [(64,some (.box [.c (.sl (Bd s.slots)),.c (.sl (Bk s.trail))])),(128,some (.box (wc t.row))),(192,some (.box [.nil,.nil])),(640,some (.box (wc (Bn y))))]⟩) o2.length (by simp[Bo]) ?_ ?_
  .rintro j st hj rfl
   obtain⟨x,hx⟩:=Ab hj;unfold F7;by_cases hxh:x.home>y.home
   .have hxh':y.home<x.home:=hxh
    simp(disch:=try exact zd) [hj,hx,hxh,hxh',-getElem?_pos];exact same 13
   .have hxh':¬y.home<x.home:=hxh
    simp(disch:=try exact zd) [hj,hx,hxh,hxh',-getElem?_pos]
  .rintro st rfl
   unfold F7;simp(disch:=try exact zd) [-getElem?_pos];refine Am (fun _=>⟨[(1,intV i),(3,.sc (.ptr 64 0)),(5,.sc (.ptr 128 0)),(6,.sc (.ptr 192 0)),(8,.sc (.ptr 640 0)),(9,.sc (.c (.sl []))),(17,intV 0)],
    [(64,some (.box [.c (.sl (Bd s.slots)),.c (.sl (Bk s.trail))])),(128,some (.box (wc t.row))),(192,some (.box [.nil,.nil])),(640,some (.box (wc (Bn y))))]⟩) 0 sy (fun i hi=>by omega) ?_
   unfold Lt;simp(disch:=try exact zd) [-getElem?_pos];refine Am (fun _=>⟨[(1,intV i),(3,.sc (.ptr 64 0)),(5,.sc (.ptr 128 0)),(6,.sc (.ptr 192 0)),(8,.sc (.ptr 640 0)),(9,.sc (.c (.sl []))),(18,intV 0)],
    [(64,some (.box [.c (.sl (Bd s.slots)),.c (.sl (Bk s.trail))])),(128,some (.box (wc t.row))),(192,some (.box [.nil,.nil])),(640,some (.box (wc (Bn y))))]⟩) 0 sy (fun i hi=>by omega) ?_
   unfold Mw;rw[EX y];simp(disch:=try exact zd) [NG,hset,-getElem?_pos];exact fin
variable {A:Ag}
theorem Qw (s:StoD)(t:Ty):∃r,IffB (t.kind=1/\0<=t.id/\t.id<s.slots.length) r/\(K A).call 281 [stoV s,tyV t] []=some r:=by
 refine fnE v281 ?_;unfold v281;by_cases h1:t.kind=1
 .by_cases h2:0<=t.id
  .by_cases h3:t.id<s.slots.length
   .simp (disch:=try exact zd) [h1,h2,h3]
    exact IffB.yes trivial
   .simp (disch:=try exact zd) [h1,h2,h3]
    exact IffB.no id
  .simp (disch:=try exact zd) [h1,h2]
   exact IffB.no id
 .simp (disch:=try exact zd) [h1]
  exact IffB.no id
theorem ZX {n:Nat}(b:Ty):∀(s:StoD) (a:Ty),stoOk n s->tyS n a->a.size<=687194767360->tyS 0 b->b.size<=687194767360->s.trail.length+b.size<1000000->
 ∃r,StoR n (s.trail.length+b.size) s r/\(K A).call 252 [stoV s,tyV a,tyV b] []=some r:=by
 induction b using Ty.ind with
 |h b ih=>
 intro s a hs ha hal hb hbl htr;have hbn:=hb.mono (qaa n);have hk1:b.kind≠1:=fun hk=>by
  have:=hb.one.1 hk;omega
 obtain⟨k1,_,_,hc1,_,_⟩:=IV (A:=A) s hs 200 oz a ha hal;obtain⟨k2,_,_,hc2,_,_⟩:=IV (A:=A) s hs 200 oz b hbn hbl;obtain⟨hx1,hx2⟩:=Kw hs ha hal;have hcx:=KF (A:=A) s hs a ha;obtain⟨x,hxw⟩:∃x,x=A8 s a:=⟨_,rfl⟩;rw[<-hxw]at hx1 hx2 hcx;obtain⟨_,⟨y,_,_,hy3,rfl⟩,hcy⟩:=Nl (A:=A) s hs b hbn hbl;obtain rfl:=hy3 hk1;obtain⟨_,⟨p,hp,rfl⟩,hsx⟩:=Qw (A:=A) s x;obtain⟨_,⟨q,hq,rfl⟩,hsy⟩:=Qw (A:=A) s y
 have hq0:q=false:=by
  cases q with
  |false=>rfl
  |true=>exact absurd (hq.1 rfl).1 hk1
 subst hq0;have hc1':(K A).call 234 [stoV s,tyV a,intV 200] []=some (intV k1,[]):=hc1;have hc2':(K A).call 234 [stoV s,tyV y,intV 200] []=some (intV k2,[]):=hc2;have hbp:=y.size_pos;have same:∀e:Int,StoR n (s.trail.length+y.size) s (.tu [stoV s,intV e],[]):=fun e=>⟨s,e,hs,oz,ext.refl s,rfl⟩;refine fnE v252 ?_;unfold v252;by_cases hk1':200<k1
 .have hk1i:(200:Int)<k1:=oz
  simp(disch:=try exact zd) [hc1',hk1',hk1i];exact same 15
 .have hk1i:¬(200:Int)<k1:=oz
  by_cases hk2':200<k2
  .have hk2i:(200:Int)<k2:=oz
   simp(disch:=try exact zd) [hc1',hc2',hk1',hk1i,hk2',hk2i];exact same 15
  .have hk2i:¬(200:Int)<k2:=oz
   cases p with
   |true=>
    obtain⟨g1,g2,g3⟩:=hp.1 rfl;obtain⟨i,hi⟩:∃i:Nat,x.id=i:=⟨x.id.toNat,oz⟩;have hsl:=hs.1;obtain⟨f1,_,i',z,f2,_,f3,f4⟩:=Kz hs ha (by rw[<-hxw];exact g1);have hub:∀y,s.slots[i]?=some y->y.bound=false:=fun y hy=>by
     rw[<-hxw]at f1;rw[<-f1]at f2;have:i'=i:=oz;subst this;rw[f3]at hy;cases hy;exact f4
    obtain⟨_,⟨s2,e2,h1,h2,h2e,rfl⟩,hbd⟩:=Zam (A:=A) s hs oz i oz hub y hb hbl;simp(disch:=try exact zd) [hc1',hc2',hk1',hk1i,hk2',hk2i,hcx,hcy,hsx,hsy,hi,hbd];exact⟨s2,e2,h1,oz,h2e,rfl⟩
   |false=>
    by_cases a1:x.kind=y.kind
    .by_cases a2:x.name=y.name
     .by_cases a3:x.id=y.id
      .by_cases a4:x.home=y.home
       .by_cases a5:x.args.length=y.args.length
        .have hyl:=y.args_lt
         simp(disch:=try exact zd) [hc1',hc2',hk1',hk1i,hk2',hk2i,hcx,hcy,hsx,hsy,a1,a2,a3,a4,a5,-getElem?_pos];refine Al (fun j st=>∃(s2:StoD) (e:Int),stoOk n s2/\s2.trail.length<=s.trail.length+((y.args.map Ty.size).take j).sum/\ext s s2/\st=⟨[(3,.sc (.ptr 64 0)),(6,.sc (.ptr 256 0)),(8,.sc (.ptr 1600 0)),(9,.sc (.ptr 1664 0)),(10,intV e),(11,intV j)],
          [(64,some (.box [.c (.sl (Bd s2.slots)),.c (.sl (Bk s2.trail))])),(256,some (.box [.nil,.nil])),(1600,some (.box (wc x.row))),(1664,some (.box (wc y.row)))]⟩) y.args.length ⟨s,0,hs,by simp,ext.refl s,by simp⟩ ?_ ?_
         .rintro j st hj ⟨s2,e,hs2,ht2,he2,rfl⟩
          obtain⟨u,hu⟩:=Ab (l:=x.args) (i:=j) oz;obtain⟨v,hv⟩:=Ab (l:=y.args) (i:=j) oz;have hum:=qc hu;have hvm:=qc hv;have hus:=Ty.arg_lt hum;have hvs:=Ty.arg_lt hvm;have hxm:(y.args.map Ty.size)[j]?=some v.size:=(by rw[qk,hv];rfl);have hsum:((y.args.map Ty.size).take (j+1)).sum=((y.args.map Ty.size).take j).sum+v.size:=(by rw[AP hxm];simp)
          have hle:((y.args.map Ty.size).take (j+1)).sum<=(y.args.map Ty.size).sum:=DS;have hys:=y.size_eq;obtain⟨_,⟨s3,e3,g1,g2,g3,rfl⟩,hc⟩:=ih v hvm s2 u hs2 (hx1.arg hum) oz (hb.arg hvm) oz oz;unfold Nd;by_cases he:e=0
          .simp (disch:=try exact zd) [hj,a5,he,hu,hv,hc,-getElem?_pos]
           exact⟨s3,g1,oz,he2.trans g3,by simp⟩
          .simp (disch:=try exact zd) [hj,a5,he,-getElem?_pos]
           exact⟨s2,e,hs2,oz,he2,rfl⟩
         .rintro st ⟨s2,e,hs2,ht2,he2,rfl⟩
          have hys:=y.size_eq;rw[qh sy]at ht2;unfold Nd;simp(disch:=try exact zd) [a5];exact⟨s2,e,hs2,oz,he2,rfl⟩
        .have a5':¬(x.args.length:Int)=y.args.length:=oz
         simp(disch:=try exact zd) [hc1',hc2',hk1',hk1i,hk2',hk2i,hcx,hcy,hsx,hsy,a1,a2,a3,a4,a5,a5'];exact same 11
       .simp (disch:=try exact zd) [hc1',hc2',hk1',hk1i,hk2',hk2i,hcx,hcy,hsx,hsy,a1,a2,a3,a4]
        exact same 11
      .simp (disch:=try exact zd) [hc1',hc2',hk1',hk1i,hk2',hk2i,hcx,hcy,hsx,hsy,a1,a2,a3]
       exact same 11
     .simp (disch:=try exact zd) [hc1',hc2',hk1',hk1i,hk2',hk2i,hcx,hcy,hsx,hsy,a1,a2]
      exact same 11
    .simp (disch:=try exact zd) [hc1',hc2',hk1',hk1i,hk2',hk2i,hcx,hcy,hsx,hsy,a1]
     exact same 11
variable {A:Ag}
theorem Zak {n:Nat}(s:StoD)(a b:Ty)(hs:stoOk n s)(ha:tyS n a)(hal:a.size<=687194767360)(hb:tyS 0 b)(hbl:b.size<=687194767360)(ht:s.trail.length+b.size<1000000):
 ∃r,StoR n (s.trail.length+b.size) s r/\(K A).call 233 [stoV s,tyV a,tyV b] []=some r:=by
 obtain⟨_,⟨s2,e,h1,h2,h3,rfl⟩,hc⟩:=ZX (A:=A) b s a hs ha hal hb hbl ht;refine fnE v233 ?_;unfold v233;by_cases he:e=0
 .simp (disch:=try exact zd) [hc,he]
  exact⟨s2,0,h1,h2,h3,rfl⟩
 .simp (disch:=try exact zd) [hc,he,-getElem?_pos]
  exact⟨s,e,hs,oz,ext.refl s,rfl⟩
def Zi (n T:Nat)(s0:StoD)(r:V×List Obj):Prop:=∃s:StoD,stoOk n s/\s.trail.length<=T/\ext s0 s/\r=(stoV s,[])
theorem Vd {n:Nat}(s:StoD)(t:Ty)(hs:stoOk n s)(ht:tyS n t)(hl:t.size<=687194767360)(htr:s.trail.length<1000000):∃r,Zi n (s.trail.length+1) s r/\(K A).call 232 [stoV s,tyV t] []=some r:=by
 have hs0:=hs;obtain⟨h1,h2,h3,h4⟩:=hs0;obtain⟨_,⟨u,hu1,hu2,_,rfl⟩,hc⟩:=Nl (A:=A) s hs t ht hl;refine fnE v232 ?_;unfold v232;by_cases hk:u.kind=1
 .obtain ⟨g1,g2,_⟩:=hu1.one.1 hk
  obtain⟨i,hi⟩:∃i:Nat,u.id=i:=⟨u.id.toNat,oz⟩;obtain⟨y,hy⟩:=Ab (l:=s.slots) (i:=i) oz;have hin:i<s.slots.length:=oz
  have hset:=PG (A:=A) s oz h3 i y hy ⟨y.bound,y.ty,y.home,true⟩;rw[EX]at hset;simp only at hset;simp(disch:=try exact zd) [hc,hk,hi,hy,hin,-getElem?_pos];rw[EX y];simp(disch:=try exact zd) [hi,hset,-getElem?_pos];exact⟨_,hs.set (i:=i) (x:=⟨y.bound,y.ty,y.home,true⟩) (h4 y (qc hy)) (c:=⟨i,y,false⟩) htr,by simp,ext.set (fun z hz hb=>by rw[hy]at hz;cases hz;exact⟨hb,rfl⟩),rfl⟩
 .simp (disch:=try exact zd) [hc,hk,-getElem?_pos]
  exact⟨s,hs,oz,ext.refl s,rfl⟩
def YY (l:List Ty)(r:V×List Obj):Prop:=∃(M:Nat) (l2:List Ty),l2.length=l.length/\(∀(i:Nat) x y,l[i]?=some x->l2[i]?=some y->tyS M y/\y.size<=x.size)/\r=(tysV l2,[])
theorem Vy {n:Nat}(l:List Ty)(h:(l.map Ty.size).sum<=687194767360)(hS:∀t∈l,tyS n t):∃r,YY l r/\(K A).call 236 [tysV l] []=some r:=by
 have hlen:=Ty.len_le l;obtain⟨_,⟨v,⟨g1,g2,g3⟩,rfl⟩,hv⟩:=KA (A:=A) (c:=0) l h hS;refine fnE v236 ?_;unfold v236;simp(disch:=try exact zd) [hv];refine Al (fun i st=>∃s:List AssD,s.length=i/\(∀(j:Nat) x,j<i->v[j]?=some x->∃a∈s,a.id=x)/\(∀a∈s,tyS v.length a.ty/\a.ty.size<=1)/\
  st=⟨[(0,tysV l),(3,Cy v),(4,.sc (.arr 321 i)),(5,intV i)],[(321,some (.arr 6 (wr (De s)) 0))]⟩) v.length ⟨[],rfl,oz,by simp,by simp⟩ ?_ ?_
 .rintro i st hi ⟨s,hs,q1,q2,rfl⟩
  obtain⟨x,hx⟩:=Ab hi;have hb:=N1 (A:=A) i;have he:(W.c (.int .i64 x)::wc (Ty.mk 1 [] i 0 []).row)=wc (BE ⟨x,.mk 1 [] i 0 []⟩):=rfl;unfold JS;simp(disch:=try exact zd) [hi,hx,hb,he,hs,-getElem?_pos];refine⟨s++[⟨x,.mk 1 [] i 0 []⟩],by simp[hs],?_,?_,by simp⟩
  .intro j y hj hy
   by_cases hji:j<i
   .obtain ⟨a,ha,hai⟩:=q1 j y hji hy
    exact⟨a,by simp[ha],hai⟩
   .obtain rfl:j=i:=oz
    rw[hx]at hy;cases hy;exact⟨_,qp.2 (.inr (qo.2 rfl)),rfl⟩
  .intro a ha
   rcases qp.1 ha with ha|ha
   .exact q2 a ha
   .simp only [qo] at ha
    subst ha;exact⟨IK hi,by simp[Ty.size_leaf]⟩
 .rintro st ⟨s,hs,q1,q2,rfl⟩
  unfold JS;simp(disch:=try exact zd) [-getElem?_pos];refine Al (fun i st=>∃p:Nat,st=⟨[(0,tysV l),(4,.sc (.arr 321 v.length)),(6,.sc (.arr 1601 i)),(7,intV i)],[(321,some (.arr 6 (wr (De s)) p)),(1601,some (.arr 5 (wr (Ty.rows ((l.map (Bt s)).take i))) 0))]⟩) l.length ⟨0,by simp⟩ ?_ ?_
  .rintro i st hi ⟨p,rfl⟩
   obtain⟨x,hx⟩:=Ab hi;have hxm:=qc hx;have hxs:=Hq (qaz (f:=Ty.size) hxm);have hc:=I1 (A:=A) s oz x oz;have hmx:(l.map (Bt s))[i]?=some (Bt s x):=(by rw[qk,hx];rfl);have hlen2:((l.map (Bt s)).take i).length=i:=(by simp;omega);unfold PF;simp(disch:=try exact zd) [hi,hx,hc,hs,hlen2,AP hmx,-getElem?_pos]
  .rintro st ⟨p,rfl⟩
   have htk:(l.map (Bt s)).take l.length=l.map (Bt s):=qh sy;unfold PF;simp(disch:=try exact zd) [htk];refine⟨v.length,l.map (Bt s),by simp,?_,rfl⟩;intro i x y hx hy;rw[qk,hx]at hy;cases hy;have hxm:=qc hx;refine⟨Nt (c:=0) (l:=v) (fun i hi=>?_) (fun a ha=>(q2 a ha).1) (hS x hxm) (g2 x hxm),?_⟩
   .obtain ⟨j,hj,he⟩:=qT hi
    exact q1 j i hj (by rw[qj hj,he])
   .have:=OG (qg 1) (fun a ha=>(q2 a ha).2) x
    omega
variable {A:Ag}
@[simp] theorem cut_n2 (e:EntD):cut (Bw e) 2 5=some e.ty.row:=by rw[Bw,Ty.row_eq];rfl
theorem WK (s:List AssD)(hs:s.length<=687194767360)(t:Ty)(hl:t.size<=687194767360):(K A).call 215 [C4 s,tyV t] []=some (tyV (Bt s t),[]):=by
 have hc:=I1 (A:=A) s hs t hl;refine fnO v215 ?_;unfold v215;simp(disch:=try exact zd) [hc]
theorem Zhd (s:List AssD)(hs:s.length<=687194767360)(c:Int)(t:Ty)(hl:t.size<=687194767360):(K A).call 192 [C4 s,schV c t] []=some (schV c (Bt s t),[]):=by
 have hc:=WK (A:=A) s hs t hl;refine fnO v192 ?_;unfold v192;simp(disch:=try exact zd) [AY,hc]
theorem P6 {l:List Ty}{m:Nat}(h:∀x∈l,x.size<=m){k:Nat}(hl:l.length<=k):(l.map Ty.size).sum<=k*m:=
 qr (GU h) (qD m hl)
theorem Zfm {n m:Nat}(hn:n<=1000000)(ctx:List EntD)(hctx:ctxOk n m ctx)(goal:Ty)(hg:tyS 0 goal)(hb:goal.size+n*m<=687194767360):
 (K A).call 190 [tyV goal,Be ctx,.sc (.c (.sl []))] []=some (.tu [stoV ⟨[],[]⟩,C4 []],[]):=by
 obtain⟨hc1,hc2⟩:=hctx;have hs:=PY (A:=A) ctx oz;have hsl:=HV ctx ctx.length;have hsub:=Hu ctx ctx.length;generalize Cj ctx ctx.length=l at *
 have hnew:=ZeM (A:=A);refine fnO v190 ?_;unfold v190;simp(disch:=try exact zd) [hs];refine Am (fun i=>⟨[(2,.sc (.c (.sl []))),(3,.sc (.ptr 64 0)),(6,.sc (.ptr 128 0)),(8,.sc (.arr 257 i)),(9,Be l),(10,intV i)],
  [(64,some (.box (wc goal.row))),(128,some (.box [.nil,.nil])),(257,some (.arr 5 (wr (Ty.rows ((l.map EntD.ty).take i))) 0))]⟩) l.length sy ?_ ?_
 .intro i hi
  obtain⟨x,hx⟩:=Ab hi;have hmx:(l.map EntD.ty)[i]?=some x.ty:=by rw[qk,hx];rfl
  have hlen2:((l.map EntD.ty).take i).length=i:=by simp;omega
  unfold JR;simp(disch:=try exact zd) [hi,hx,hlen2,AP hmx,-getElem?_pos]
 .have htk:(l.map EntD.ty).take l.length=l.map EntD.ty:=qh sy
  have hty:∀x∈l.map EntD.ty,tyB 0 900 x/\x.size<=m:=by
   intro x hx;obtain⟨e,he,rfl⟩:=qJ.1 hx;obtain⟨_,⟨c,hc,hcl⟩,x3,x4⟩:=hc2 e (hsub e he);exact⟨x3.mono (qg 0) oz,x4⟩
  have hsz:=P6 (fun x hx=>(hty x hx).2) (show(l.map EntD.ty).length<=n by simp;omega);obtain⟨_,⟨v,⟨g1,g2,g3⟩,rfl⟩,hv⟩:=KA (A:=A) (n:=0) (c:=900) (goal::l.map EntD.ty) (by simp only[qt,qQ];omega) (by
   intro x hx;rcases qG.1 hx with rfl|hx
   .exact hg.up
   .exact(hty x hx).1)
  have hv0:v=[]:=by
   cases v with
   |nil=>rfl
   |cons a r=>have:=g3 a sy;omega
  subst hv0;have hrow:Ty.rows (goal::l.map EntD.ty)=goal.row::Ty.rows (l.map EntD.ty):=by rw[Ty.rows]
  rw[tysV,hrow]at hv;have hcomm:(l.length+1==1+l.length)=true:=by simp;omega
  simp only[Cy,Bo,qX]at hv;unfold JR;simp(disch:=try exact zd) [htk,hv,hcomm,hnew];refine Am (fun _=>⟨[(2,.sc (.c (.sl []))),(6,.sc (.ptr 128 0)),(11,.sc (.c (.sl []))),(12,.sc (.ptr 2112 0)),(13,.sc (.arr 2241 0)),(14,intV 0)],
   [(128,some (.box [.nil,.nil])),(257,some (.arr 5 (wr (Ty.rows (l.map EntD.ty))) 0)),(1728,some (.arr 5 (wc goal.row::wr (Ty.rows (l.map EntD.ty))) (l.length+1))),(2112,some (.box [.c (.sl []),.c (.sl [])])),(2241,some (.arr 6 [] 0))]⟩) 0 rfl (fun i hi=>by omega) ?_
  unfold TO;simp(disch:=try exact zd)
variable {A:Ag}
@[simp] theorem cutw_sc0 (c:Int) (t:Ty):cut (wc (AY c t)) 0 1=some [.c (.int .i64 c)]:=by rw[AY,Ty.row_eq];rfl
@[simp] theorem cutw_sc1 (c:Int) (t:Ty):cut (wc (AY c t)) 1 5=some (wc t.row):=by rw[AY,Ty.row_eq];rfl
theorem ZhA (t:Ty):wc t.row=[.c (.int .i64 t.kind),.c (.str t.name),.c (.int .i64 t.id),.c (.int .i64 t.home),.c (.sl (Ty.rows t.args))]:=by rw[Ty.row_eq];rfl
def SpineOk (s:StoD)(w:Ty)(ar:List Ty)(u:Ty):Prop:=∀s',ext s s'->∀U,Res s' w U->U.size<=200->(∀x∈ar,∃v,Res s' x v/\v.size<=200)/\∃v,Res s' u v/\v.size<=200
theorem SpineOk.nil (s:StoD)(w:Ty):SpineOk s w [] w:=fun s' _ U hU hl=>⟨by simp,U,hU,hl⟩
theorem SpineOk.push {n:Nat}{s s1:StoD}{w u a b:Ty}{ar:List Ty}(h:SpineOk s w ar u)(he:ext s s1)(hs1:stoOk n s1)(hu:tyS n u)(hk:(A8 s1 u).kind≠1)(hab:(A8 s1 u).args=[a,b]):SpineOk s1 w (ar++[a]) b:=fun s' hs' U hU hl=>by
 obtain⟨h1,v,hv,hvl⟩:=h s' (he.trans hs') U hU hl;obtain⟨v1,v2,g1,g2,g3,g4⟩:=hv.two (by rw[Zfk hs1 hs' hu hk];exact hab);refine⟨fun x hx=>?_,v2,g2,oz⟩;rcases qp.1 hx with hx|hx
 .exact h1 x hx
 .simp only [qo] at hx
  exact⟨v1,hx▸g1,oz⟩
def GD (r:V×List Obj):Prop:=∃(b:Bool) (l2:List Ty),l2.length<=3/\(∀x∈l2,∃M,tyS M x/\x.size<=4000)/\r=(.tu [.sc (.c (.sl [])),tysV l2,Ac b],[])
theorem stoOk.fresh {n:Nat}{s:StoD}(hs:stoOk n s)(hn:n<1000)(ht:s.trail.length<1000000){h:Int}{b:Bool}{c:ChgD}:stoOk (n+1) ⟨s.slots++[AT h b],s.trail++[c]⟩:=by
 obtain⟨h1,h2,h3,h4⟩:=hs;refine⟨by simp[h1],oz,by simp;omega,?_⟩;intro x hx;rcases qp.1 hx with hx|hx
 .exact fun hb=>⟨(h4 x hx hb).1.mono oz,(h4 x hx hb).2⟩
 .simp only [qo] at hx
  subst hx;intro hb;cases hb
theorem Xk (a b:Ty):(K A).call 84 [tyV (.mk 4 [45,62] 0 0 [a,b])] []=some (.tu [tyV a,tyV b,Ac true],[]):=by
 have hr:Ty.rows [a,b]=[a.row,b.row]:=by simp[Ty.rows]
 refine fnO v84 ?_;unfold v84;simp(disch:=try exact zd) [Ty.kind,Ty.name,Ty.args,hr]
def Jg (c n:Nat)(goal w:Ty)(is:List Ty)(j:Nat)(st:St):Prop:=∃(m:Nat) (s:StoD) (u:Ty) (ar:List Ty) (tail:List (Nat×Option Obj)),stoOk m s/\c<=m/\m<=c+2*j/\s.trail.length<=c+3*j/\tyS m u/\u.size<=687194767360/\ar.length=j/\(∀x∈ar,tyS m x/\x.size<=687194767360)/\SpineOk s w ar u/\
 (tail=[]\/∃a b rows q,tail=[(6976,some (.box a)),(7040,some (.box b)),(7744,some (.arr 5 rows q))])/\
 st=⟨[(3,C4 []),(4,intV n),(5,.sc (.ptr 64 0)),(7,.sc (.ptr 192 0)),(16,.sc (.ptr 2112 0)),(17,.sc (.ptr 2304 0)),(18,.sc (.arr 2433 j))],
  [(64,some (.box [.c (.sl (Bd s.slots)),.c (.sl (Bk s.trail))])),(192,some (.box (wc goal.row))),(449,some (.arr 5 (wr (Ty.rows is)) c)),(2112,some (.box (wc w.row))),(2304,some (.box (wc u.row))),(2433,some (.arr 5 (wr (Ty.rows ar)) 0))]++tail⟩
theorem Iv:GD (.tu [.sc (.c (.sl [])),.sc (.c (.sl [])),Ac false],[]):=⟨false,[],by simp,by simp,by simp⟩
theorem Yi (c:Nat)(hc:c<=900)(goal w:Ty)(is:List Ty)(n:Nat)(hn:n<=3)(rest:VCode)(j:Nat)(st:St)(hj:j<n)(hI:Jg c n goal w is j st):
 wp (K A) EQ (fun e st=>(e=.normal/\Jg c n goal w is (j+1) st)\/(e≠.normal/\BH 2 (BO (K A) rest (B3 false 0 [.tmp 10,.tmp 11,.tmp 12] GD)) e st)) st:=by
 obtain⟨m,s,u,ar,tail,q1,q2,q3,q4,q5,q6,q7,q8,q10,q9,rfl⟩:=hI;unfold Jg;obtain⟨w1,w2⟩:=Kw q1 q5 q6;have hw:=KF (A:=A) s q1 u q5;obtain⟨u',hu'⟩:∃u',u'=A8 s u:=⟨_,rfl⟩;rw[<-hu']at w1 w2 hw;have hsl:=q1.1;rcases q9 with rfl|⟨ta,tb,tr,tq,rfl⟩
 all_goals
  by_cases hk:u'.kind=1
  .obtain ⟨g1,g2,g0⟩:=w1.one.1 hk
   obtain⟨i,hi⟩:∃i:Nat,u'.id=i:=⟨u'.id.toNat,oz⟩;obtain⟨y,hy⟩:=Ab (l:=s.slots) (i:=i) oz;have hin:i<s.slots.length:=oz;cases hb:y.base with
   |true=>
    rcases GM (A:=A) u' with ⟨a,b,hab,har⟩|har
    .have:=(w1.one.1 hk).2.2
     rw[hab]at this;cases this
    .unfold EQ
     simp(maxSteps:=9^7) (disch:=try exact zd) [hj,q7,hw,hk,hi,hin,hy,hb,har,-getElem?_pos];exact Iv
   |false=>
    have hm3:m<=906:=oz;have hf1:=PO (A:=A) s oz oz 1000000 false;rw[hsl]at hf1;have k1:=q1.fresh (h:=1000000) (b:=false) (c:=⟨m,AT 0 false,true⟩) oz oz;have hf2:=PO (A:=A) ⟨s.slots++[AT 1000000 false],s.trail++[⟨m,AT 0 false,true⟩]⟩ (by simp;omega) (by simp;omega) 1000000 false;have hl1:(s.slots++[AT 1000000 false]).length=m+1:=(by simp[hsl]);simp only[hl1]at hf2
    have k2:=k1.fresh (h:=1000000) (b:=false) (c:=⟨(m+1:Nat),AT 0 false,true⟩) oz (by simp;omega);have hy2:(s.slots++[AT 1000000 false]++[AT 1000000 false])[i]?=some y:=by
     rw[qF (by simp;omega),qF oz];exact hy
    have ha2:=Ig (A:=A) (.mk 1 [] m 0 []) (.mk 1 [] (m+1:Nat) 0 []);have hi2:=Xk (A:=A) (.mk 1 [] m 0 []) (.mk 1 [] (m+1:Nat) 0 []);have hset:=PG (A:=A) ⟨s.slots++[AT 1000000 false]++[AT 1000000 false],s.trail++[⟨m,AT 0 false,true⟩]++[⟨(m+1:Nat),AT 0 false,true⟩]⟩ (by simp;omega) (by simp;omega) i y hy2 ⟨true,.mk 4 [45,62] 0 0 [.mk 1 [] m 0 [],.mk 1 [] (m+1:Nat) 0 []],y.home,y.base⟩;rw[EX]at hset
    simp only[hb]at hset;have hin2:i<(s.slots++[AT 1000000 false]++[AT 1000000 false]).length:=(by simp;omega);have hvaS:tyS (m+1+1) (.mk 1 [] m 0 [])/\(Ty.mk 1 [] m 0 []).size<=1:=⟨IK oz,by simp[Ty.size_leaf]⟩;have hvbS:tyS (m+1+1) (.mk 1 [] (m+1:Nat) 0 [])/\(Ty.mk 1 [] (m+1:Nat) 0 []).size<=1:=⟨IK oz,by simp[Ty.size_leaf]⟩
    have hfaS:tyS (m+1+1) (.mk 4 [45,62] 0 0 [.mk 1 [] m 0 [],.mk 1 [] (m+1:Nat) 0 []])/\(Ty.mk 4 [45,62] 0 0 [.mk 1 [] m 0 [],.mk 1 [] (m+1:Nat) 0 []]).size<=10:=by
     refine⟨Jw IN ?_,?_⟩
     .intro x hx
      simp only[qG,qag,or_false]at hx;rcases hx with rfl|rfl
      .exact hvaS.1
      .exact hvbS.1
     .rw [Ty.size_eq]
      simp[Ty.args,Ty.size_leaf]
    have hbu:y.bound=false:=by
     obtain⟨f1,_,i',z,f2,_,f3,f4⟩:=Kz q1 q5 (by rw[<-hu'];exact hk);rw[<-hu']at f1;rw[<-f1]at f2;have:i'=i:=oz;subst this;rw[hy]at f3;cases f3;exact f4
    have hue:u=u':=by
     obtain⟨f1,_⟩:=Kz q1 q5 (by rw[<-hu'];exact hk);rw[<-f1,<-hu']
    have he1:ext s ⟨(s.slots++[AT 1000000 false]++[AT 1000000 false]).set i ⟨true,.mk 4 [45,62] 0 0 [.mk 1 [] m 0 [],.mk 1 [] (m+1:Nat) 0 []],y.home,false⟩,s.trail++[⟨m,AT 0 false,true⟩]++[⟨(m+1:Nat),AT 0 false,true⟩]++[⟨i,y,false⟩]⟩:=by
     have e1:ext s ⟨s.slots++[AT 1000000 false]++[AT 1000000 false],[]⟩:=by
      have:=ext.app (s:=s) (l:=[AT 1000000 false]++[AT 1000000 false]) (T:=[]);rwa[<-qaj]at this
     refine e1.trans (ext.set fun z hz hb2=>?_);rw[hy2]at hz;cases hz;rw[hbu]at hb2;cases hb2
    have hwk:A8 ⟨(s.slots++[AT 1000000 false]++[AT 1000000 false]).set i ⟨true,.mk 4 [45,62] 0 0 [.mk 1 [] m 0 [],.mk 1 [] (m+1:Nat) 0 []],y.home,false⟩,s.trail++[⟨m,AT 0 false,true⟩]++[⟨(m+1:Nat),AT 0 false,true⟩]++[⟨i,y,false⟩]⟩ u=.mk 4 [45,62] 0 0 [.mk 1 [] m 0 [],.mk 1 [] (m+1:Nat) 0 []]:=
     HO (i:=i) (x:=⟨true,.mk 4 [45,62] 0 0 [.mk 1 [] m 0 [],.mk 1 [] (m+1:Nat) 0 []],y.home,false⟩) (by rw[hue];exact hk) (by rw[hue];exact hi) (by rw[qbf (qf.1 hy2).1]) rfl
    have hTl:(s.trail++[(⟨m,AT 0 false,true⟩:ChgD)]++[(⟨(m+1:Nat),AT 0 false,true⟩:ChgD)]).length=s.trail.length+2:=(by simp);generalize hva:Ty.mk 1 [] m 0 []=va at *
    generalize hvb:Ty.mk 1 [] (m+1:Nat) 0 []=vb at *
    generalize hfa:Ty.mk 4 [45,62] 0 0 [va,vb]=fa at *
    generalize hS2:s.slots++[AT 1000000 false]++[AT 1000000 false]=S2 at *
    generalize hT2:s.trail++[⟨m,AT 0 false,true⟩]++[⟨(m+1:Nat),AT 0 false,true⟩]=T2 at *
    generalize hS1:s.slots++[AT 1000000 false]=S1 at *
    generalize hT1:s.trail++[⟨m,AT 0 false,true⟩]=T1 at *
    rw[tyV,ZhA fa]at hi2;unfold EQ;simp(maxSteps:=9^7) (disch:=try exact zd) [hj,q7,hw,hk,hi,hin,hy,hb,hf1,hf2,hin2,hy2,ha2,EX y,NG,hset,hi2,-getElem?_pos];have hst:=k2.set (i:=i) (x:=⟨true,fa,y.home,false⟩) (c:=⟨i,y,false⟩) (fun _=>⟨hfaS.1,by show fa.size<=687194767360;omega,by show fa.kind≠1;rw[<-hfa];show(4:Int)≠1;decide⟩) (by show T2.length<1000000;omega)
    refine⟨m+1+1,⟨S2.set i ⟨true,fa,y.home,false⟩,T2++[⟨i,y,false⟩]⟩,hst,oz,oz,by simp;omega,vb,hvbS.1,oz,ar++[va],by simp[q7],?_,q10.push (n:=m+1+1) he1 hst (q5.mono oz) (by rw[hwk,<-hfa];show(4:Int)≠1;decide) (by rw[hwk,<-hfa];rfl),_,⟨_,_,_,_,rfl⟩,⟨rfl,rfl⟩,rfl,rfl,rfl⟩;intro x hx;rcases qp.1 hx with hx|hx
    .exact⟨(q8 x hx).1.mono oz,(q8 x hx).2⟩
    .simp only [qo] at hx
     subst hx;exact⟨hvaS.1,oz⟩
  .rcases GM (A:=A) u' with ⟨a,b,hab,har⟩|har
   .unfold EQ
    simp(maxSteps:=9^7) (disch:=try exact zd) [hj,q7,hw,hk,har];refine⟨m,s,q1,q2,oz,oz,b,w1.arg (by rw[hab];simp),by have:=Ty.arg_lt (t:=u') (x:=b) (by rw[hab];simp);omega,ar++[a],by simp[q7],?_,q10.push (ext.refl s) q1 q5 (by rw[<-hu'];exact hk) (by rw[<-hu'];exact hab),_,⟨_,_,_,_,rfl⟩,⟨rfl,rfl⟩,rfl,rfl,rfl⟩;intro x hx;rcases qp.1 hx with hx|hx
    .exact q8 x hx
    .simp only [qo] at hx
     subst hx;exact⟨w1.arg (by rw[hab];simp),by have:=Ty.arg_lt (t:=u') (x:=x) (by rw[hab];simp);omega⟩
   .unfold EQ
    simp(disch:=try exact zd) [hj,q7,hw,hk,har];exact Iv
variable {A:Ag}
theorem Y0 {L:LO1}{s:Nat}{k:IntKind}{rows:CC1}(h:BK s rows=true):Bm L s (.sc (.c (.sl rows))) none (some (.sc (.c (.int k 0)))) none=some (.sc (.c (.sl [])),[]):=by
 have:=slice_to (L:=L) (s:=s) (n:=0) (k:=k) (rows:=rows) (qaa _);rw[h]at this;simpa using this
theorem ZfP {L:LO1}{s:Nat}{k:IntKind}{rows:CC1}(h:BK s rows=true):Bm L s (.sc (.c (.sl rows))) (some (.sc (.c (.int k 0)))) none none=some (.sc (.c (.sl rows)),[]):=by
 have:=slice_from (L:=L) (s:=s) (n:=0) (k:=k) (rows:=rows) (qaa _);rw[h]at this;simpa using this
theorem Wd (l:List Ty):BK 5 (Ty.rows l)=true:=by rw[Ty.rows_map];exact F8 Ty.row_len l
theorem JC {L:LO1}{k:IntKind}(l:List Ty):Bm L 5 (.sc (.c (.sl (Ty.rows l)))) none (some (.sc (.c (.int k 0)))) none=some (.sc (.c (.sl [])),[]):=Y0 (Wd l)
theorem Kk {L:LO1}{k:IntKind}(l:List Ty):Bm L 5 (.sc (.c (.sl (Ty.rows l)))) (some (.sc (.c (.int k 0)))) none none=some (.sc (.c (.sl (Ty.rows l))),[]):=ZfP (Wd l)
def HJ (mid:List (Nat×Option Obj)):Prop:=mid=[]\/∃a b rows q,mid=[(6976,some (.box a)),(7040,some (.box b)),(7744,some (.arr 5 rows q))]
theorem LG:HJ []:=.inl rfl
theorem Lb (a b:List W)(rows:WW1)(q:Nat):HJ [(6976,some (.box a)),(7040,some (.box b)),(7744,some (.arr 5 rows q))]:=.inr ⟨a,b,rows,q,rfl⟩
theorem Qo {m n c:Nat}(s:StoD)(hs:stoOk m s)(is ar:List Ty)(hn:n<=3)(hal:ar.length=n)(ha:∀x∈ar,tyS m x/\x.size<=687194767360)(hres:∀x∈ar,∃v,Res s x v/\v.size<=200)(mid:List (Nat×Option Obj))(hm:HJ mid):
 wp (K A) (.loop HT) (BH 4 (BO (K A) (.seq (.seq (.region [] [o 33 (.mv (ki 0))] [] [3,5,18,29,33]) (.block 6 (.loop Hg)))
  (.seq (.region [] [o 197 (.mv (tv 29)),oa 198 (.call (kf 236) [(false,tv 197)] []) 15040,o 29 (.mv (tv 198))] [] [3,29])
    (.seq (.region [] [o 199 (.mv (tv 29)),o 200 (.mv (tv 3)),o 201 (.len false (tv 200)),o 202 (.sl 5 (tv 199) none (some (tv 201)) none),o 203 (.mv (tv 29)),o 204 (.mv (tv 3)),o 205 (.len false (tv 204)),o 206 (.sl 5 (tv 203) (some (tv 205)) none none),
      o 10 (.mv (tv 202)),o 11 (.mv (tv 206)),o 12 (.mv kt)] [(2,6),(3,6),(2,7),(3,7)] [10,11,12]) .ret))) (B3 false 0 [.tmp 10,.tmp 11,.tmp 12] GD)))
  ⟨[(3,.sc (.c (.sl []))),(5,.sc (.ptr 64 0)),(18,.sc (.arr 2433 n)),(29,.sc (.arr 10945 0)),(30,intV 0)],
    (64,some (.box [.c (.sl (Bd s.slots)),.c (.sl (Bk s.trail))]))::(449,some (.arr 5 (wr (Ty.rows is)) c))::(2433,some (.arr 5 (wr (Ty.rows ar)) 0))::(mid++[(10945,some (.arr 5 [] 0))])⟩:=by
 rcases hm with rfl|⟨ta,tb,tr,tq,rfl⟩
 .refine Am (fun _=>_) 0 rfl (fun i hi=>by omega) ?_
  unfold HT;simp(disch:=try exact zd);refine Al (fun i st=>∃(l:List Ty) (mid:List (Nat×Option Obj)),l.length=i/\(∀x∈l,tyS m x/\x.size<=4000)/\HJ mid/\st=⟨[(3,.sc (.c (.sl []))),(5,.sc (.ptr 64 0)),(18,.sc (.arr 2433 n)),(29,.sc (.arr 10945 i)),(33,intV i)],
   (64,some (.box [.c (.sl (Bd s.slots)),.c (.sl (Bk s.trail))]))::(449,some (.arr 5 (wr (Ty.rows is)) c))::(2433,some (.arr 5 (wr (Ty.rows ar)) 0))::(mid++[(10945,some (.arr 5 (wr (Ty.rows l)) 0))])⟩) n
   ⟨[],[],rfl,by simp,LG,by simp⟩ ?_ ?_
  .rintro i st hi ⟨l,mid,hl,hq,hmd,rfl⟩
   obtain⟨x,hx⟩:=Ab (l:=ar) (i:=i) oz;obtain⟨hx1,hx2⟩:=ha x (qc hx);obtain⟨v,hv,hvl⟩:=hres x (qc hx);obtain⟨_,⟨u,hu1,hu2,rfl⟩,hr⟩:=Va (A:=A) s hs x hx1 hx2 v hv oz;have mem:∀y∈l++[u],tyS m y/\y.size<=4000:=by
    intro y hy;rcases qp.1 hy with hy|hy
    .exact hq y hy
    .simp only [qo] at hy
     exact hy▸⟨hu1,hu2⟩
   unfold Hg;rcases hmd with rfl|⟨ua,ub,ur,uq,rfl⟩
   .simp (maxSteps:=9^7) (disch:=try exact zd) [hi,hal,hl,hx,hr,-getElem?_pos]
    exact⟨l++[u],by simp[hl],mem,[],LG,by simp⟩
   .simp (maxSteps:=9^7) (disch:=try exact zd) [hi,hal,hl,hx,hr,-getElem?_pos]
    exact⟨l++[u],by simp[hl],mem,_,Lb _ _ _ _,rfl⟩
  .rintro st ⟨l,mid,hl,hq,hmd,rfl⟩
   have hsz:=P6 (fun x hx=>(hq x hx).2) (show l.length<=3 by omega);obtain⟨_,⟨M,l2,c1,c2,rfl⟩,hcn⟩:=Vy (A:=A) l oz (fun x hx=>(hq x hx).1);have res:GD (.tu [.sc (.c (.sl [])),tysV l2,Ac true],[]):=by
    refine⟨true,l2,oz,fun x hx=>?_,rfl⟩;obtain⟨j,hj,he⟩:=qT hx;obtain⟨y,hy⟩:=Ab (l:=l) (i:=j) oz;obtain⟨d1,d2⟩:=c2 j y x hy (by rw[qj hj,he]);exact⟨M,d1,by have:=(hq y (qc hy)).2;omega⟩
   unfold Hg;rcases hmd with rfl|⟨ua,ub,ur,uq,rfl⟩
   .simp (maxSteps:=9^7) (disch:=try exact zd) [hal,hl,hcn,JC,Kk,-getElem?_pos]
    exact res
   .simp (maxSteps:=9^7) (disch:=try exact zd) [hal,hl,hcn,JC,Kk,-getElem?_pos]
    exact res
 .refine Am (fun _=>_) 0 rfl (fun i hi=>by omega) ?_
  unfold HT;simp(disch:=try exact zd);refine Al (fun i st=>∃(l:List Ty) (mid:List (Nat×Option Obj)),l.length=i/\(∀x∈l,tyS m x/\x.size<=4000)/\HJ mid/\st=⟨[(3,.sc (.c (.sl []))),(5,.sc (.ptr 64 0)),(18,.sc (.arr 2433 n)),(29,.sc (.arr 10945 i)),(33,intV i)],
   (64,some (.box [.c (.sl (Bd s.slots)),.c (.sl (Bk s.trail))]))::(449,some (.arr 5 (wr (Ty.rows is)) c))::(2433,some (.arr 5 (wr (Ty.rows ar)) 0))::(mid++[(10945,some (.arr 5 (wr (Ty.rows l)) 0))])⟩) n
   ⟨[],[(6976,some (.box ta)),(7040,some (.box tb)),(7744,some (.arr 5 tr tq))],rfl,by simp,Lb _ _ _ _,by simp⟩ ?_ ?_
  .rintro i st hi ⟨l,mid,hl,hq,hmd,rfl⟩
   obtain⟨x,hx⟩:=Ab (l:=ar) (i:=i) oz;obtain⟨hx1,hx2⟩:=ha x (qc hx);obtain⟨v,hv,hvl⟩:=hres x (qc hx);obtain⟨_,⟨u,hu1,hu2,rfl⟩,hr⟩:=Va (A:=A) s hs x hx1 hx2 v hv oz;have mem:∀y∈l++[u],tyS m y/\y.size<=4000:=by
    intro y hy;rcases qp.1 hy with hy|hy
    .exact hq y hy
    .simp only [qo] at hy
     exact hy▸⟨hu1,hu2⟩
   unfold Hg;rcases hmd with rfl|⟨ua,ub,ur,uq,rfl⟩
   .simp (maxSteps:=9^7) (disch:=try exact zd) [hi,hal,hl,hx,hr,-getElem?_pos]
    exact⟨l++[u],by simp[hl],mem,[],LG,by simp⟩
   .simp (maxSteps:=9^7) (disch:=try exact zd) [hi,hal,hl,hx,hr,-getElem?_pos]
    exact⟨l++[u],by simp[hl],mem,_,Lb _ _ _ _,rfl⟩
  .rintro st ⟨l,mid,hl,hq,hmd,rfl⟩
   have hsz:=P6 (fun x hx=>(hq x hx).2) (show l.length<=3 by omega);obtain⟨_,⟨M,l2,c1,c2,rfl⟩,hcn⟩:=Vy (A:=A) l oz (fun x hx=>(hq x hx).1);have res:GD (.tu [.sc (.c (.sl [])),tysV l2,Ac true],[]):=by
    refine⟨true,l2,oz,fun x hx=>?_,rfl⟩;obtain⟨j,hj,he⟩:=qT hx;obtain⟨y,hy⟩:=Ab (l:=l) (i:=j) oz;obtain⟨d1,d2⟩:=c2 j y x hy (by rw[qj hj,he]);exact⟨M,d1,by have:=(hq y (qc hy)).2;omega⟩
   unfold Hg;rcases hmd with rfl|⟨ua,ub,ur,uq,rfl⟩
   .simp (maxSteps:=9^7) (disch:=try exact zd) [hal,hl,hcn,JC,Kk,-getElem?_pos]
    exact res
   .simp (maxSteps:=9^7) (disch:=try exact zd) [hal,hl,hcn,JC,Kk,-getElem?_pos]
    exact res
variable {A:Ag}
theorem Zd7 (c:Nat)(hc:c<=900)(t goal:Ty)(ht:tyB 0 c t)(htl:t.size<=1000000)(hg:tyS 0 goal)(hgl:goal.size<=900000)(n:Nat)(hn:n<=3):
 ∃r,GD r/\(K A).call 216 [stoV ⟨[],[]⟩,schV c t,tyV goal,C4 [],intV n] []=some r:=by
 refine fnE v216 ?_;unfold v216;simp(disch:=try exact zd) [AY];refine Al (fun i st=>∃(s:StoD) (is:List Ty),stoOk i s/\s.trail.length<=i/\is.length=i/\(∀x∈is,tyS i x/\x.size<=1)/\st=⟨[(3,C4 []),(4,intV n),(5,.sc (.ptr 64 0)),(6,.sc (.ptr 128 0)),(7,.sc (.ptr 192 0)),(13,.sc (.arr 449 i)),(14,intV i)],
  [(64,some (.box [.c (.sl (Bd s.slots)),.c (.sl (Bk s.trail))])),(128,some (.box (wc (AY c t)))),(192,some (.box (wc goal.row))),(449,some (.arr 5 (wr (Ty.rows is)) 0))]⟩) c ⟨⟨[],[]⟩,[],⟨rfl,oz,by simp,by simp⟩,by simp,rfl,by simp,by simp[AY]⟩ ?_ ?_
 .rintro i st hi ⟨s,is,h1,h2,h3,h4,rfl⟩
  have hf:=PO (A:=A) s (by have:=h1.1;omega) (by have:=h1.2.2.1;omega) 1000000 false;have hsl:=h1.1;rw[hsl]at hf;unfold He;simp(disch:=try exact zd) [hi,hf,h3];refine⟨⟨s.slots++[AT 1000000 false],s.trail++[⟨i,AT 0 false,true⟩]⟩,h1.fresh oz oz,by simp;omega,is++[.mk 1 [] i 0 []],by simp[h3],?_,⟨rfl,rfl⟩,rfl⟩;intro x hx;rcases qp.1 hx with hx|hx
  .exact⟨(h4 x hx).1.mono oz,(h4 x hx).2⟩
  .simp only [qo] at hx
   subst hx;exact⟨IK oz,by simp[Ty.size_leaf]⟩
 .rintro st ⟨s,is,h1,h2,h3,h4,rfl⟩
  have hop:=P4 (A:=A) is oz t oz;have hoS:tyS c (CE is t):=NY (fun x hx=>(h4 x hx).1) (by rw[h3];exact ht.mono (qaa _) (qg _));have hoZ:=Qc (qg 1) (fun x hx=>(h4 x hx).2) t;generalize CE is t=w at *
  unfold He;simp(disch:=try exact zd) [hop,h3];refine Al (Jg c n goal w is) n ⟨c,s,w,[],[],h1,oz,oz,oz,hoS,oz,rfl,by simp,SpineOk.nil s w,.inl rfl,by simp⟩ ?_ ?_
  .intro j st hj hI
   exact Yi c hc goal w is n hn _ j st hj hI
  .rintro st ⟨m,s,u,ar,tail,q1,q2,q3,q4,q5,q6,q7,q8,q10,q9,rfl⟩
   obtain⟨_,⟨u1,w1,w2,_,rfl⟩,hw⟩:=Nl (A:=A) s q1 u q5 q6;obtain⟨_,⟨s1,m1,m2,x1,rfl⟩,hm1⟩:=Vd (A:=A) s u1 q1 w1 w2 oz;obtain⟨_,⟨s2,m3,m4,x2,rfl⟩,hm2⟩:=Vd (A:=A) s1 goal m1 (hg.mono (qaa _)) oz oz;obtain⟨_,⟨s3,e,m5,m6,x3,rfl⟩,hun⟩:=Zak (A:=A) s2 u1 goal m3 w1 w2 hg oz oz;obtain⟨k,_,_,hsz,hszr,_⟩:=IV (A:=A) s3 m5 200 oz w (hoS.mono q2) oz
   have hsz':(K A).call 234 [stoV s3,tyV w,intV 200] []=some (intV k,[]):=hsz;unfold EQ;rcases q9 with rfl|⟨ta,tb,tr,tq,rfl⟩
   all_goals
    rcases GM (A:=A) u1 with ⟨a,b,hab,har⟩|har
    .simp (disch:=try exact zd) [q7,hw,har]
     exact Iv
    .by_cases he:e=0
     .by_cases hk:200<k
      .have hki:(200:Int)<k:=oz
       simp(disch:=try exact zd) [q7,hw,har,hm1,hm2,hun,he,hsz',hk,hki];exact Iv
      .have hki:¬(200:Int)<k:=oz
       obtain⟨U,_,hU,hUk,_⟩:=hszr oz;have hres:=(q10 s3 ((x1.trans x2).trans x3) U hU oz).1;simp(disch:=try exact zd) [q7,hw,har,hm1,hm2,hun,he,hsz',hk,hki]
       first
        |exact Qo (c:=c) s3 m5 is ar hn q7 q8 hres [] LG
        |exact Qo (c:=c) s3 m5 is ar hn q7 q8 hres [(6976,some (.box _)),(7040,some (.box _)),(7744,some (.arr 5 _ _))] (Lb _ _ _ _)
     .simp (disch:=try exact zd) [q7,hw,har,hm1,hm2,hun,he]
      exact Iv
end Go.Vs.Tryz
namespace Go.Vs
open Go
structure HeadD where
 name:Str
 con:Bool
 args:List Ty
 types:List Ty
def Ct (h:HeadD):List Cell:=[.str h.name,.bool h.con,.sl (Ty.rows h.args),.sl (Ty.rows h.types)]
def Cm (l:List HeadD):CC1:=l.map Ct
@[simp] theorem hdRow_len (h:HeadD):(Ct h).length=4:=rfl
@[simp] theorem hdRows_len (l:List HeadD):(Cm l).length=l.length:=by simp[Cm]
@[simp] theorem hdRows_get (l:List HeadD) (i:Nat):(Cm l)[i]?=(l[i]?).map Ct:=by simp[Cm]
@[simp] theorem okRows_hd (l:List HeadD):AZ 4 (wr (Cm l))=true:=Dc l hdRow_len
@[simp] theorem hdRows0:Cm []=[]:=rfl
@[simp] theorem hdRows_app (l m:List HeadD):wr (Cm l)++wr (Cm m)=wr (Cm (l++m)):=by simp[Cm,wr]
@[simp] theorem hdRows_snoc (l:List HeadD) (h:HeadD):wr (Cm l)++[wc (Ct h)]=wr (Cm (l++[h])):=by simp[Cm,wr]
section
variable (h:HeadD)
@[simp] theorem cut_hd0:cut (Ct h) 0 1=some [.str h.name]:=rfl
@[simp] theorem cut_hd1:cut (Ct h) 1 1=some [.bool h.con]:=rfl
@[simp] theorem cut_hd2:cut (Ct h) 2 1=some [.sl (Ty.rows h.args)]:=rfl
@[simp] theorem cut_hd3:cut (Ct h) 3 1=some [.sl (Ty.rows h.types)]:=rfl
@[simp] theorem cut_hd:cut (Ct h) 0 4=some (Ct h):=rfl
@[simp] theorem cutw_hd0:cut (wc (Ct h)) 0 1=some [.c (.str h.name)]:=rfl
@[simp] theorem cutw_hd1:cut (wc (Ct h)) 1 1=some [.c (.bool h.con)]:=rfl
@[simp] theorem cutw_hd2:cut (wc (Ct h)) 2 1=some [.c (.sl (Ty.rows h.args))]:=rfl
@[simp] theorem cutw_hd:cut (wc (Ct h)) 0 4=some (wc (Ct h)):=rfl
end
end Go.Vs
namespace Go.Vs.Tryz
open Go Go.Vs
variable {A:Ag}
def SI (nm:Str)(con:Bool)(h:HeadD):Prop:=h.name=nm/\h.con=con/\h.args.length<=3/\∀x∈h.args,∃M,tyS M x/\x.size<=4000
def Xs (nm:Str)(con:Bool)(r:V×List Obj):Prop:=∃hs:List HeadD,hs.length<=4/\(∀h∈hs,SI nm con h)/\r=(.sc (.c (.sl (Cm hs))),[])
theorem VN (nm:Str)(con:Bool)(c:Nat)(hc:c<=900)(t goal:Ty)(ht:tyB 0 c t)(htl:t.size<=1000000)(hg:tyS 0 goal)(hgl:goal.size<=900000):
 ∃r,Xs nm con r/\(K A).call 193 [stoV ⟨[],[]⟩,schV c t,tyV goal,C4 [],intV 3,.ag [.c (.str nm),.c (.bool con),.c (.sl []),.c (.sl [])]] []=some r:=by
 refine fnE v193 ?_;unfold v193;simp(disch:=try exact zd);refine Al (fun i st=>∃hs:List HeadD,hs.length<=i/\(∀h∈hs,SI nm con h)/\st=⟨[(3,C4 []),(4,intV 3),(6,.sc (.ptr 64 0)),(7,.sc (.ptr 128 0)),(8,.sc (.ptr 192 0)),(11,.sc (.ptr 256 0)),(13,.sc (.arr 385 hs.length)),(14,intV i)],
  [(64,some (.box [.c (.sl []),.c (.sl [])])),(128,some (.box (wc (AY c t)))),(192,some (.box (wc goal.row))),(256,some (.box [.c (.str nm),.c (.bool con),.c (.sl []),.c (.sl [])])),(385,some (.arr 4 (wr (Cm hs)) 0))]⟩) 4 ⟨[],by simp,by simp,by simp⟩ ?_ ?_
 .rintro i st hi ⟨hs,h1,h2,rfl⟩
  obtain⟨_,⟨b,l2,e1,e2,rfl⟩,hel⟩:=Zd7 (A:=A) c hc t goal ht htl hg hgl i oz;simp only[stoV,C4,slRows0,chRows0,assRows0]at hel;have hi3:(i:Int)<=3:=oz
  unfold Pa;cases b with
  |false=>
   simp(disch:=try exact zd) [hi3,hel];exact⟨hs,oz,h2,by simp⟩
  |true=>
   simp(disch:=try exact zd) [hi3,hel];refine⟨hs++[⟨nm,con,l2,[]⟩],by simp;omega,?_,by simp,?_⟩
   .intro h hh
    rcases qp.1 hh with hh|hh
    .exact h2 h hh
    .simp only [qo] at hh
     subst hh;exact⟨rfl,rfl,e1,e2⟩
   .rw [<-hdRows_snoc]
    simp[Ct]
 .rintro st ⟨hs,h1,h2,rfl⟩
  unfold Pa;simp(disch:=try exact zd);exact⟨hs,h1,h2,rfl⟩
variable {A:Ag}
def elOk (ds:List DataD)(h:HeadD):Prop:=(h.con=false->h.name∈B1)/\(h.con=true->cOk ds h.name)/\h.args.length<=3/\∀x∈h.args,∃M,tyS M x/\x.size<=4000
def ZfQ (ds:List DataD)(r:V×List Obj):Prop:=∃hs:List HeadD,hs.length<=1000000/\(∀h∈hs,elOk ds h)/\r=(.sc (.c (.sl (Cm hs))),[])
theorem Yw {n m:Nat}(hn:n<=1000)(hm:m<=100000)(ds:List DataD)(hds:fitDs ds)(ctx:List EntD)(hctx:ctxOk n m ctx)(goal:Ty)(hg:tyS 0 goal)(hgl:goal.size<=900000):
 ∃r,ZfQ ds r/\(K A).call 139 [Aw ds,Be ctx,tyV goal,.sc (.c (.sl [])),intV 3] []=some r:=by
 have hnm:n*m<=100000000:=qr (Nat.mul_le_mul hn hm) oz;have hst:=Zfm (A:=A) oz ctx hctx goal hg oz;have hrp:=I1 (A:=A) [] sy goal oz;rw[Ve goal hg]at hrp;obtain⟨hc1,hc2⟩:=hctx;have hs:=PY (A:=A) ctx oz;have hsl:=HV ctx ctx.length;have hsub:=Hu ctx ctx.length;generalize Cj ctx ctx.length=l at *
 have hds1:=hds.1;simp only[stoV,C4,slRows0,chRows0,assRows0]at hst hrp;refine fnE v139 ?_;unfold v139;rcases GM (A:=A) goal with ⟨a,b,_,har⟩|har
 .simp (disch:=try exact zd) [har]
  exact⟨[],by simp,by simp,by simp⟩
 .simp (disch:=try exact zd) [har,hst,hrp,hs,-getElem?_pos]
  refine Al (fun i st=>∃hl:List HeadD,hl.length<=4*i/\(∀h∈hl,elOk ds h)/\st=⟨[(0,Aw ds),(4,intV 3),(14,.sc (.ptr 1728 0)),(15,.sc (.c (.sl []))),(16,.sc (.ptr 2112 0)),(17,.sc (.arr 2241 hl.length)),(18,Be l),(19,intV i)],
   [(1728,some (.box [.c (.sl []),.c (.sl [])])),(2112,some (.box (wc goal.row))),(2241,some (.arr 4 (wr (Cm hl)) 0))]⟩) l.length ⟨[],by simp,by simp,by simp⟩ ?_ ?_
  .rintro i st hi ⟨hl,h1,h2,rfl⟩
   obtain⟨x,hx⟩:=Ab hi;obtain⟨x1,⟨c,hc,hcl⟩,x3,x4⟩:=hc2 x (hsub x (qc hx));rw[hc,qam]at x3;have hap:=Zhd (A:=A) [] sy x.count x.ty oz;rw[Ve x.ty x3]at hap;obtain⟨_,⟨hs2,g1,g2,rfl⟩,hh⟩:=VN (A:=A) x.name false c oz x.ty goal x3 oz hg hgl;rw[<-hc]at hh;simp only[stoV,C4,slRows0,chRows0,assRows0]at hh hap;unfold Io;simp(disch:=try exact zd) [hi,hx,hap,hh,-getElem?_pos]
   refine⟨hl++hs2,by simp;omega,?_,by simp⟩;intro h hm2;rcases qp.1 hm2 with hm2|hm2
   .exact h2 h hm2
   .obtain ⟨k1,k2,k3,k4⟩:=g2 h hm2
    exact⟨fun _=>by rw[k1];exact x1,fun hcon=>absurd (k2.symm.trans hcon) sy,k3,k4⟩
  .rintro st ⟨hl,h1,h2,rfl⟩
   unfold Io;simp(disch:=try exact zd) [-getElem?_pos];refine Al (fun i st=>∃hl2:List HeadD,hl2.length<=4*l.length+24*i/\(∀h∈hl2,elOk ds h)/\st=⟨[(0,Aw ds),(4,intV 3),(14,.sc (.ptr 1728 0)),(15,.sc (.c (.sl []))),(16,.sc (.ptr 2112 0)),(17,.sc (.arr 2241 hl2.length)),(21,intV i)],
    [(1728,some (.box [.c (.sl []),.c (.sl [])])),(2112,some (.box (wc goal.row))),(2241,some (.arr 4 (wr (Cm hl2)) 0))]⟩) ds.length ⟨hl,oz,h2,by simp⟩ ?_ ?_
   .rintro i st hi ⟨hl2,h3,h4,rfl⟩
    obtain⟨d,hd⟩:=Ab hi;obtain⟨⟨hg1,hg2,hg3,hg4⟩,hff⟩:=hds.2 d (qc hd);unfold ME;simp(disch:=try exact zd) [hi,hd,-getElem?_pos];refine Al (fun k st=>∃hl3:List HeadD,hl3.length<=4*l.length+24*i+4*k/\(∀h∈hl3,elOk ds h)/\st=⟨[(0,Aw ds),(4,intV 3),(14,.sc (.ptr 1728 0)),(15,.sc (.c (.sl []))),(16,.sc (.ptr 2112 0)),(17,.sc (.arr 2241 hl3.length)),(21,intV i),(22,intV k)],
     [(1728,some (.box [.c (.sl []),.c (.sl [])])),(2112,some (.box (wc goal.row))),(2241,some (.arr 4 (wr (Cm hl3)) 0))]⟩) d.cons.length ⟨hl2,oz,h4,by simp⟩ ?_ ?_
    .rintro k st hk ⟨hl3,h5,h6,rfl⟩
     obtain⟨cc,hcc⟩:=Ab hk;obtain⟨_,⟨c,u,b,u1,u2,u3,rfl⟩,hcon⟩:=Zcw (A:=A) ds hds cc.name ⟨d,qc hd,cc,qc hcc,rfl⟩;obtain⟨_,⟨hs2,g1,g2,rfl⟩,hh⟩:=VN (A:=A) cc.name true c oz u goal u2 oz hg hgl;simp only[stoV,C4,slRows0,chRows0,assRows0]at hh;unfold JD;simp(disch:=try exact zd) [hi,hd,hk,hcc,hcon,hh,-getElem?_pos];refine⟨hl3++hs2,by simp;omega,?_,by simp⟩;intro h hm2
     rcases qp.1 hm2 with hm2|hm2
     .exact h6 h hm2
     .obtain ⟨k1,k2,k3,k4⟩:=g2 h hm2
      exact⟨fun hcon=>absurd (k2.symm.trans hcon) sy,fun _=>.inr ⟨d,qc hd,cc,qc hcc,k1⟩,k3,k4⟩
    .rintro st ⟨hl3,h5,h6,rfl⟩
     unfold JD;simp(disch:=try exact zd) [hi,hd,-getElem?_pos];exact⟨hl3,oz,h6,by simp⟩
   .rintro st ⟨hl2,h3,h4,rfl⟩
    unfold ME;simp(disch:=try exact zd) [-getElem?_pos];exact⟨hl2,oz,h4,rfl⟩
variable {A:Ag}
def tyG (t:Ty):Prop:=tyS 0 t/\rigB t
theorem ZaX {s:Str}{l:List Ty}(h:∀x∈l,rigB x):rigB (.mk 4 s 0 0 l):=Ty.all_iff.2 ⟨fun hk=>absurd (show(4:Int)=3 from hk.1) (by decide),h⟩
theorem IS {s:Str}{l:List Ty}(hs:C1 s l.length)(h:∀x∈l,tyG x):tyG (.mk 4 s 0 0 l):=⟨Jw hs fun x hx=>(h x hx).1,ZaX fun x hx=>(h x hx).2⟩
theorem O5:tyG (.mk 4 [73,110,116] 0 0 []):=IS (.inr (.inl ⟨rfl,rfl⟩)) fun x hx=>by cases hx
def EH (L:List Int)(m:Nat)(r:V×List Obj):Prop:=∃t J,tyG t/\t.size<=m/\J<=L.length/\r=(tyV t,[Ao L J])
def Zdj (L:List Int)(ds:List DataD)(ls:List Ty)(dd:DataD)(d i:Nat)(s:St):Prop:=∃tys J,tys.length=i/\(∀x∈tys,tyG x/\x.size<=5 ^ d)/\J<=L.length/\
 s=⟨[(0,.sc (.ptr 0 0)),(1,Aw ds),(2,tysV ls),(3,intV (d+1)),(8,.sc (.ptr 64 0)),(10,.sc (.ptr 3392 0)),(11,.sc (.arr 3521 i)),(12,intV i)],
  [(0,some (Ao L J)),(64,some (.box [zi,zs,zi,zi,.nil])),(3392,some (.box (wc (A2 dd)))),(3521,some (.arr 5 (wr (Ty.rows tys)) 0))]⟩
theorem Vu (L:List Int)(ds:List DataD)(ls:List Ty)(hL:L.length<=687194767360)(hds:fitDs ds)(hls:0<ls.length)(hls2:ls.length<=100)(hls3:∀x∈ls,tyG x/\x.size=1):∀(d I:Nat),d<=100->I<=L.length->
 ∃r,EH L (5 ^ d) r/\(K A).call 45 [.sc (.ptr 0 0),Aw ds,tysV ls,intV d] [Ao L I]=some r:=by
 intro d;have leafCase:∀(d I k J:Nat),k<3->J<=L.length->(K A).call 62 [.sc (.ptr 0 0),intV 7] [Ao L I]=some (intV k,[Ao L J])->
  ∃r,EH L (5 ^ d) r/\(K A).call 45 [.sc (.ptr 0 0),Aw ds,tysV ls,intV d] [Ao L I]=some r:=by
  intro d I k J h3 hJ hc;obtain⟨m,J1,hm,hJ1,hc1⟩:=BC (A:=A) L J ls.length hJ hL oz oz;obtain⟨x,hx⟩:=Ab (l:=ls) (i:=m) oz;have hm':(m:Int)<ls.length:=hm;have h3':(k:Int)<3:=oz
  refine AB _ (vf:=v45) (by rfl) rfl sy ?_;unfold v45;simp(disch:=try exact zd) [hc,h3',hls,hc1,hx,-getElem?_pos];exact⟨x,J1,(hls3 x (qc hx)).1,by grind,hJ1,rfl⟩
 have intSz:(Ty.mk 4 [73,110,116] 0 0 []).size=1:=Ty.size_leaf
 induction d with
 |zero=>
  intro I _ hI;obtain⟨k,J,hk,hJ,hc⟩:=BC (A:=A) L I 7 hI hL oz oz;by_cases h3:k<3
  .exact leafCase 0 I k J h3 hJ hc
  .refine AB _ (vf:=v45) (by rfl) rfl sy ?_
   have hi:=Ff (A:=A);unfold v45;have h3':¬(k:Int)<3:=oz;by_cases h4:k<4
   .have h4':(k:Int)<4:=oz
    simp(disch:=try exact zd) [hc,hi,h3',h4',-getElem?_pos];exact⟨_,J,O5,oz,hJ,rfl⟩
   .have h4':¬(k:Int)<4:=oz
    simp(disch:=try exact zd) [hc,hi,h3',h4'];exact⟨_,J,O5,oz,hJ,rfl⟩
 |succ d ih=>
  intro I hd hI;obtain⟨k,J,hk,hJ,hc⟩:=BC (A:=A) L I 7 hI hL oz oz;by_cases h3:k<3
  .exact leafCase (d+1) I k J h3 hJ hc
  have hi:=Ff (A:=A);have hd1:¬(d:Int)+1<1:=oz
  have hp:1<=5 ^ d:=Nat.pos_of_ne_zero sy;have hp1:5 ^ (d+1)=5*5 ^ d:=oz
  have h3':¬(k:Int)<3:=oz
  refine AB _ (vf:=v45) (by rfl) rfl sy ?_;by_cases h4:k<4
  .have h4':(k:Int)<4:=oz
   unfold v45;simp(disch:=try exact zd) [hc,hi,h3',h4'];exact⟨_,J,O5,oz,hJ,rfl⟩
  .have h4':¬(k:Int)<4:=oz
   by_cases hdata:ds≠[]/\k<6
   .have hpos:0<ds.length:=qay.2 hdata.1
    have hds1:=hds.1;obtain⟨m,J1,hm,hJ1,hc1⟩:=BC (A:=A) L J ds.length hJ hL oz oz;obtain⟨dd,hdd⟩:=Ab (l:=ds) (i:=m) oz;have hfit:=hds.2 dd (qc hdd);have hgood:=hfit.1;have hm':(m:Int)<ds.length:=hm
    have fin:wp (K A) (.loop Gj) (BH 1 (BO (K A) (.seq (.region [] [o 77 (.fld 1 (tv 10)),o 78 (.load false 1 (tv 77)),o 79 (.mv (tv 11)),oa 80 (.call (kf 90) [(false,(tv 78)),(false,(tv 79))] []) 4992,on (.store 5 (tv 8) (tv 80) [])] [] [8]) .ret)
     (BH 0 (BO (K A) (.seq (.region [] [o 81 (.mv (tv 0)),o 82 (.mv (tv 1)),o 83 (.mv (tv 2)),o 84 (.mv (tv 3)),o 85 (.bin .sub 0 (tv 84) (ki 1)),oa 86 (.call (kf 45) [(true,(tv 81)),(false,(tv 82)),(false,(tv 83)),(false,(tv 85))] []) 5440,oa 13 (.new [zi,zs,zi,zi,.nil] []) 5504,on (.store 5 (tv 13) (tv 86) [])] [] [0,1,2,3,8,13])
       (.seq (.region [] [o 87 (.load true 5 (tv 13)),o 88 (.mv (tv 0)),o 89 (.mv (tv 1)),o 90 (.mv (tv 2)),o 91 (.mv (tv 3)),o 92 (.bin .sub 0 (tv 91) (ki 1)),oa 93 (.call (kf 45) [(true,(tv 88)),(false,(tv 89)),(false,(tv 90)),(false,(tv 92))] []) 6016,oa 94 (.call (kf 85) [(false,(tv 87)),(false,(tv 93))] []) 6080,on (.store 5 (tv 8) (tv 94) [])] [(0,6)] [8]) .ret)) (B3 false 1 [.cell 8 true 5] (EH L (5 ^ (d+1))))))))
     ⟨[(0,.sc (.ptr 0 0)),(1,Aw ds),(2,tysV ls),(3,intV (d+1)),(8,.sc (.ptr 64 0)),(10,.sc (.ptr 3392 0)),(11,.sc (.arr 3521 0)),(12,intV 0)],
       [(0,some (Ao L J1)),(64,some (.box [zi,zs,zi,zi,.nil])),(3392,some (.box (wc (A2 dd)))),(3521,some (.arr 5 [] 0))]⟩:=by
     refine Al (Zdj L ds ls dd d) dd.params.length ⟨[],J1,rfl,by simp,hJ1,by simp⟩ ?_ ?_
     .rintro i s hi' ⟨tys,J2,ht,hts,hJ2,rfl⟩
      obtain⟨r,⟨ty,J3,hGt,hty,hJ3,rfl⟩,hc2⟩:=ih J2 oz hJ2;have hip:=hgood.1;unfold Gj;simp(disch:=try exact zd) [hi',hc2,ht,-getElem?_pos];refine⟨tys++[ty],J3,by grind,?_,hJ3,by simp⟩;grind
     .rintro s ⟨tys,J2,ht,hts,hJ2,rfl⟩
      have hip:=hgood.1;have hcon:=HA (A:=A) dd.name tys oz;unfold Gj;simp(disch:=try exact zd) [hcon,ht,-getElem?_pos];refine⟨_,J2,IS (by rw[ht];exact hfit.2.2.1) fun x hx=>(hts x hx).1,?_,hJ2,rfl⟩;have hs:=GU fun x hx=>(hts x hx).2;have hm4:tys.length*5 ^ d<=4*5 ^ d:=qD _ oz;grind[Ty.size,Ty.sizes_map]
    by_cases hk4:k=4
    .unfold v45
     simp(disch:=try exact zd) [hc,hi,h3',h4',hd1,hk4,hdata.1,hpos,hc1,hdd,-getElem?_pos];omega
    .have hk5:k=5:=oz
     unfold v45;simp(disch:=try exact zd) [hc,hi,h3',h4',hd1,hk5,hdata.1,hpos,hc1,hdd,-getElem?_pos];exact fin
   .obtain ⟨r1,⟨t1,J1,hG1,ht1,hJ1,rfl⟩,hc1⟩:=ih J oz hJ
    obtain⟨r2,⟨t2,J2,hG2,ht2,hJ2,rfl⟩,hc2⟩:=ih J1 oz hJ1;have har:=Ig (A:=A) t1 t2;have hGa:tyG (.mk 4 [45,62] 0 0 [t1,t2]):=IS IN fun x hx=>by
     grind
    have hsz:(Ty.mk 4 [45,62] 0 0 [t1,t2]).size<=5 ^ (d+1):=by
     grind[Ty.size,Ty.sizes]
    have hb4:¬((k:Int)=4/\0<ds.length):=by
     grind
    have hb5:¬((k:Int)=5/\0<ds.length):=by
     grind
    unfold v45;by_cases hz:ds=[]
    .subst hz
     simp only[Aw,dataRows0]at hc1 hc2;by_cases hk4:(k:Int)=4
     .simp (disch:=try exact zd) [hc,hi,h3',h4',hd1,hk4,hc1,hc2,har,-getElem?_pos]
      exact⟨_,J2,hGa,hsz,hJ2,rfl⟩
     .by_cases hk5:(k:Int)=5
      .simp (disch:=try exact zd) [hc,hi,h3',h4',hd1,hk4,hk5,hc1,hc2,har]
       exact⟨_,J2,hGa,hsz,hJ2,rfl⟩
      .simp (disch:=try exact zd) [hc,hi,h3',h4',hd1,hk4,hk5,hc1,hc2,har]
       exact⟨_,J2,hGa,hsz,hJ2,rfl⟩
    .have hk4:¬(k:Int)=4:=fun h=>hdata ⟨hz,oz⟩
     have hk5:¬(k:Int)=5:=fun h=>hdata ⟨hz,oz⟩;simp(disch:=try exact zd) [hc,hi,h3',h4',hd1,hk4,hk5,hc1,hc2,har,-getElem?_pos];exact⟨_,J2,hGa,hsz,hJ2,rfl⟩
def tyW (t:Ty):Prop:=tyG t/\Ty.all (fun u=>u.kind≠3) t
theorem MW {s:Str}{l:List Ty}(hs:C1 s l.length)(h:∀x∈l,tyW x):tyW (.mk 4 s 0 0 l):=⟨IS hs fun x hx=>(h x hx).1,Ty.all_iff.2 ⟨by show(4:Int)≠3;decide,fun x hx=>(h x hx).2⟩⟩
theorem H8:tyW (.mk 4 [73,110,116] 0 0 []):=MW (.inr (.inl ⟨rfl,rfl⟩)) fun x hx=>by cases hx
def WB (L:List Int)(m:Nat)(r:V×List Obj):Prop:=∃t J,tyW t/\t.size<=m/\J<=L.length/\r=(tyV t,[Ao L J])
def Zbw (L:List Int)(ds:List DataD)(dd:DataD)(d i:Nat)(s:St):Prop:=∃tys J,tys.length=i/\(∀x∈tys,tyW x/\x.size<=5 ^ d)/\J<=L.length/\
 s=⟨[(0,.sc (.ptr 0 0)),(1,Aw ds),(2,.sc (.c (.sl []))),(3,intV (d+1)),(8,.sc (.ptr 64 0)),(10,.sc (.ptr 3392 0)),(11,.sc (.arr 3521 i)),(12,intV i)],
  [(0,some (Ao L J)),(64,some (.box [zi,zs,zi,zi,.nil])),(3392,some (.box (wc (A2 dd)))),(3521,some (.arr 5 (wr (Ty.rows tys)) 0))]⟩
theorem XT (L:List Int)(ds:List DataD)(hL:L.length<=687194767360)(hds:fitDs ds):∀(d I:Nat),d<=100->I<=L.length->
 ∃r,WB L (5 ^ d) r/\(K A).call 45 [.sc (.ptr 0 0),Aw ds,.sc (.c (.sl [])),intV d] [Ao L I]=some r:=by
 intro d;have intSz:(Ty.mk 4 [73,110,116] 0 0 []).size=1:=Ty.size_leaf
 induction d with
 |zero=>
  intro I _ hI;obtain⟨k,J,hk,hJ,hc⟩:=BC (A:=A) L I 7 hI hL oz oz;refine AB _ (vf:=v45) (by rfl) rfl sy ?_;have hi:=Ff (A:=A);unfold v45;by_cases h3:k<3
  .have h3':(k:Int)<3:=oz
   have h4':(k:Int)<4:=oz;simp(disch:=try exact zd) [hc,hi,h3',h4'];exact⟨_,J,H8,oz,hJ,rfl⟩
  .have h3':¬(k:Int)<3:=oz
   by_cases h4:k<4
   .have h4':(k:Int)<4:=oz
    simp(disch:=try exact zd) [hc,hi,h3',h4'];exact⟨_,J,H8,oz,hJ,rfl⟩
   .have h4':¬(k:Int)<4:=oz
    simp(disch:=try exact zd) [hc,hi,h3',h4'];exact⟨_,J,H8,oz,hJ,rfl⟩
 |succ d ih=>
  intro I hd hI;obtain⟨k,J,hk,hJ,hc⟩:=BC (A:=A) L I 7 hI hL oz oz;have hi:=Ff (A:=A);have hn:Ty.rows []=[]:=by rfl
  have hd1:¬(d:Int)+1<1:=oz
  have hp:1<=5 ^ d:=Nat.pos_of_ne_zero sy;have hp1:5 ^ (d+1)=5*5 ^ d:=oz
  refine AB _ (vf:=v45) (by rfl) rfl sy ?_;by_cases h4:k<4
  .have h4':(k:Int)<4:=oz
   unfold v45;by_cases h3:k<3
   .have h3':(k:Int)<3:=oz
    simp(disch:=try exact zd) [hc,hi,h3',h4'];exact⟨_,J,H8,oz,hJ,rfl⟩
   .have h3':¬(k:Int)<3:=oz
    simp(disch:=try exact zd) [hc,hi,h3',h4'];exact⟨_,J,H8,oz,hJ,rfl⟩
  .have h3':¬(k:Int)<3:=oz
   have h4':¬(k:Int)<4:=oz;by_cases hdata:ds≠[]/\k<6
   .have hpos:0<ds.length:=qay.2 hdata.1
    have hds1:=hds.1;obtain⟨m,J1,hm,hJ1,hc1⟩:=BC (A:=A) L J ds.length hJ hL oz oz;obtain⟨dd,hdd⟩:=Ab (l:=ds) (i:=m) oz;have hfit:=hds.2 dd (qc hdd);have hgood:=hfit.1;have hm':(m:Int)<ds.length:=hm
    have fin:wp (K A) (.loop Gj) (BH 1 (BO (K A) (.seq (.region [] [o 77 (.fld 1 (tv 10)),o 78 (.load false 1 (tv 77)),o 79 (.mv (tv 11)),oa 80 (.call (kf 90) [(false,(tv 78)),(false,(tv 79))] []) 4992,on (.store 5 (tv 8) (tv 80) [])] [] [8]) .ret)
     (BH 0 (BO (K A) (.seq (.region [] [o 81 (.mv (tv 0)),o 82 (.mv (tv 1)),o 83 (.mv (tv 2)),o 84 (.mv (tv 3)),o 85 (.bin .sub 0 (tv 84) (ki 1)),oa 86 (.call (kf 45) [(true,(tv 81)),(false,(tv 82)),(false,(tv 83)),(false,(tv 85))] []) 5440,oa 13 (.new [zi,zs,zi,zi,.nil] []) 5504,on (.store 5 (tv 13) (tv 86) [])] [] [0,1,2,3,8,13])
       (.seq (.region [] [o 87 (.load true 5 (tv 13)),o 88 (.mv (tv 0)),o 89 (.mv (tv 1)),o 90 (.mv (tv 2)),o 91 (.mv (tv 3)),o 92 (.bin .sub 0 (tv 91) (ki 1)),oa 93 (.call (kf 45) [(true,(tv 88)),(false,(tv 89)),(false,(tv 90)),(false,(tv 92))] []) 6016,oa 94 (.call (kf 85) [(false,(tv 87)),(false,(tv 93))] []) 6080,on (.store 5 (tv 8) (tv 94) [])] [(0,6)] [8]) .ret)) (B3 false 1 [.cell 8 true 5] (WB L (5 ^ (d+1))))))))
     ⟨[(0,.sc (.ptr 0 0)),(1,Aw ds),(2,.sc (.c (.sl []))),(3,intV (d+1)),(8,.sc (.ptr 64 0)),(10,.sc (.ptr 3392 0)),(11,.sc (.arr 3521 0)),(12,intV 0)],
       [(0,some (Ao L J1)),(64,some (.box [zi,zs,zi,zi,.nil])),(3392,some (.box (wc (A2 dd)))),(3521,some (.arr 5 [] 0))]⟩:=by
     refine Al (Zbw L ds dd d) dd.params.length ⟨[],J1,rfl,by simp,hJ1,by rfl⟩ ?_ ?_
     .rintro i s hi' ⟨tys,J2,ht,hts,hJ2,rfl⟩
      obtain⟨r,⟨ty,J3,hGt,hty,hJ3,rfl⟩,hc2⟩:=ih J2 oz hJ2;have hip:=hgood.1;unfold Gj;simp(disch:=try exact zd) [hi',hc2,ht,-getElem?_pos];refine⟨tys++[ty],J3,by grind,?_,hJ3,by simp⟩;grind
     .rintro s ⟨tys,J2,ht,hts,hJ2,rfl⟩
      have hip:=hgood.1;have hcon:=HA (A:=A) dd.name tys oz;unfold Gj;simp(disch:=try exact zd) [hcon,ht,-getElem?_pos];refine⟨_,J2,MW (by rw[ht];exact hfit.2.2.1) fun x hx=>(hts x hx).1,?_,hJ2,rfl⟩;have hs:=GU fun x hx=>(hts x hx).2;have hm4:tys.length*5 ^ d<=4*5 ^ d:=qD _ oz;grind[Ty.size,Ty.sizes_map]
    by_cases hk4:k=4
    .unfold v45
     simp(disch:=try exact zd) [hc,hi,h3',h4',hd1,hk4,hdata.1,hpos,hc1,hdd,-getElem?_pos];omega
    .have hk5:k=5:=oz
     unfold v45;simp(disch:=try exact zd) [hc,hi,h3',h4',hd1,hk5,hdata.1,hpos,hc1,hdd,-getElem?_pos];exact fin
   .obtain ⟨r1,⟨t1,J1,hG1,ht1,hJ1,rfl⟩,hc1⟩:=ih J oz hJ
    obtain⟨r2,⟨t2,J2,hG2,ht2,hJ2,rfl⟩,hc2⟩:=ih J1 oz hJ1;have har:=Ig (A:=A) t1 t2;have hGa:tyW (.mk 4 [45,62] 0 0 [t1,t2]):=MW IN fun x hx=>by
     grind
    have hsz:(Ty.mk 4 [45,62] 0 0 [t1,t2]).size<=5 ^ (d+1):=by
     grind[Ty.size,Ty.sizes]
    have hb4:¬((k:Int)=4/\0<ds.length):=by
     grind
    have hb5:¬((k:Int)=5/\0<ds.length):=by
     grind
    unfold v45;by_cases hz:ds=[]
    .subst hz
     have hz2:AM []=[]:=rfl;simp only[Aw,hz2]at hc1 hc2;by_cases hk4:(k:Int)=4
     .simp (disch:=try exact zd) [hc,hi,h3',h4',hd1,hk4,hc1,hc2,har,-getElem?_pos]
      exact⟨_,J2,hGa,hsz,hJ2,rfl⟩
     .by_cases hk5:(k:Int)=5
      .simp (disch:=try exact zd) [hc,hi,h3',h4',hd1,hk4,hk5,hc1,hc2,har]
       exact⟨_,J2,hGa,hsz,hJ2,rfl⟩
      .simp (disch:=try exact zd) [hc,hi,h3',h4',hd1,hk4,hk5,hc1,hc2,har]
       exact⟨_,J2,hGa,hsz,hJ2,rfl⟩
    .have hk4:¬(k:Int)=4:=fun h=>hdata ⟨hz,oz⟩
     have hk5:¬(k:Int)=5:=fun h=>hdata ⟨hz,oz⟩;simp(disch:=try exact zd) [hc,hi,h3',h4',hd1,hk4,hk5,hc1,hc2,har,-getElem?_pos];exact⟨_,J2,hGa,hsz,hJ2,rfl⟩
theorem LC (L:List Int)(ds:List DataD)(hL:L.length<=687194767360)(hds:fitDs ds)(d I:Nat)(hd:d<=100)(hI:I<=L.length):
 ∃r,EH L (5 ^ d) r/\(K A).call 45 [.sc (.ptr 0 0),Aw ds,.sc (.c (.sl [])),intV d] [Ao L I]=some r:=by
 obtain⟨_,⟨t,J,h1,h2,h3,rfl⟩,hc⟩:=XT (A:=A) L ds hL hds d I hd hI;exact⟨_,⟨t,J,h1.1,h2,h3,rfl⟩,hc⟩
theorem tyW.wr {t:Ty}(h:tyW t):wrT t:=⟨h.1.1,h.2⟩
variable {A:Ag}
theorem Zaj {M:Nat}(x:Ty)(hx:tyS M x)(hl:x.size<=1000000):∃r,TyR 0 x.size r/\(K A).call 140 [tyV x] []=some r:=by
 obtain⟨_,⟨v,⟨g1,g2,g3⟩,rfl⟩,hv⟩:=KA (A:=A) (n:=M) (c:=0) [x] (by simp;omega) (fun u hu=>by rw[qo.1 hu];exact hx);have hn:Ty.rows [x]=[x.row]:=by simp[Ty.rows]
 have hv:(K A).call 195 [.sc (.c (.sl [x.row]))] []=some (Cy v,[]):=by rw[<-hn];exact hv
 have g1':v.length<=x.size:=by simpa using g1
 have hi:=Ff (A:=A);refine fnE v140 ?_;unfold v140;simp(disch:=try exact zd) [hv];refine Al (fun i st=>∃s:List AssD,s.length=i/\(∀(j:Nat) y,j<i->v[j]?=some y->∃a∈s,a.id=y)/\(∀a∈s,tyS 0 a.ty/\a.ty.size<=1)/\
  st=⟨[(1,.sc (.ptr 64 0)),(2,.sc (.ptr 128 0)),(3,Cy v),(4,.sc (.arr 449 i)),(5,intV i)],[(64,some (.box (wc x.row))),(128,some (.box [zi,zs,zi,zi,.nil])),(449,some (.arr 6 (wr (De s)) 0))]⟩) v.length ⟨[],rfl,oz,by simp,by simp⟩ ?_ ?_
 .rintro i st hi2 ⟨s,hs,q1,q2,rfl⟩
  obtain⟨y,hy⟩:=Ab hi2;have he:(W.c (.int .i64 y)::wc (Ty.mk 4 [73,110,116] 0 0 []).row)=wc (BE ⟨y,.mk 4 [73,110,116] 0 0 []⟩):=rfl;unfold N5;simp(disch:=try exact zd) [hi2,hy,hi,he,hs,-getElem?_pos];refine⟨s++[⟨y,.mk 4 [73,110,116] 0 0 []⟩],by simp[hs],?_,?_,by simp⟩
  .intro j z hj hz
   by_cases hji:j<i
   .obtain ⟨a,ha,hai⟩:=q1 j z hji hz
    exact⟨a,by simp[ha],hai⟩
   .obtain rfl:j=i:=oz
    rw[hy]at hz;cases hz;exact⟨_,qp.2 (.inr (qo.2 rfl)),rfl⟩
  .intro a ha
   rcases qp.1 ha with ha|ha
   .exact q2 a ha
   .simp only [qo] at ha
    subst ha;exact⟨Nw,by simp[Ty.size_leaf]⟩
 .rintro st ⟨s,hs,q1,q2,rfl⟩
  have hc:=I1 (A:=A) s oz x oz;have hS:tyS 0 (Bt s x):=Nt (c:=0) (l:=v) (fun i hi=>by
   obtain⟨j,hj,he⟩:=qT hi;exact q1 j i hj (by rw[qj hj,he])) (fun a ha=>(q2 a ha).1) hx (g2 x sy)
  have hz:=OG (qg 1) (fun a ha=>(q2 a ha).2) x;unfold N5;simp(disch:=try exact zd) [hc,hs,-getElem?_pos];exact⟨Bt s x,hS,oz,rfl⟩
def wD:Nat->Nat
 |0=>1
 |d+1=>7*wD d+25
theorem H6:∀d,1<=wD d
 |0=>qg _
 |d+1=>by have:=H6 d;simp only[wD];omega
theorem WH {d:Nat}(hd:d<=6):wD d<=1000000:=by
 have:d=0\/d=1\/d=2\/d=3\/d=4\/d=5\/d=6:=oz
 rcases this with rfl|rfl|rfl|rfl|rfl|rfl|rfl<;>decide
def JI (A:Ag)(L:List Int)(ds:List DataD)(d:Nat):Prop:=∀(ctx:List EntD) (goal:Ty) (I:Nat),ctxOk (1000-4*d) 50000 ctx->tyS 0 goal->goal.size+10*d<=50000->I<=L.length->
 ∃r,MkR L ds (wD d) r/\(K A).call 44 [.sc (.ptr 0 0),Aw ds,Be ctx,tyV goal,intV d] [Ao L I]=some r
theorem ctxOk.up {n n2 m:Nat}{l:List EntD}(h:ctxOk n m l)(hn:n<=n2):ctxOk n2 m l:=⟨qr h.1 hn,h.2⟩
theorem ctxOk.push {n n2 m:Nat}{l:List EntD}(h:ctxOk n m l)(hn:n+1<=n2){s:Str}{c:Nat}{t:Ty}(hs:s∈B1)(hc:c<=900)(ht:tyB 0 c t)(hz:t.size<=m):ctxOk n2 m (l++[⟨s,c,t⟩]):=by
 refine⟨by have:=h.1;simp;omega,fun x hx=>?_⟩;rcases qp.1 hx with hx|hx
 .exact h.2 x hx
 .simp only [qo] at hx
  subst hx;exact⟨hs,⟨c,rfl,hc⟩,ht,hz⟩
variable {A:Ag}
theorem MJ {ds:List DataD}{e x:Exp}(he:mkE ds e)(hx:mkE ds x):mkE ds (.mk 5 0 [] 0 [e,x] [] tz):=by
 rw[F5];refine⟨by simp[mkE1,mkS,annT,numB,Exp.kind,Exp.pos,Exp.name,Exp.num,Exp.kids,Exp.arms,Exp.ty,tz,Ty.size_leaf],?_,by simp⟩;intro y hy;simp only[qG,qag,or_false]at hy;rcases hy with rfl|rfl
 .exact he
 .exact hx
theorem Jo (e x:Exp):(Exp.mk 5 0 [] 0 [e,x] [] tz).row=[.int .i64 5,.int .i64 0,.str [],.int .i64 0,.sl [e.row,x.row],.sl [],.int .i64 0,.str [],.int .i64 0,.int .i64 0,.sl []]:=by
 simp[Exp.row,tz,Ty.kind,Ty.name,Ty.id,Ty.home,Ty.args]
theorem JV (e x:Exp):(Exp.mk 5 0 [] 0 [e,x] [] tz).weight=1+(e.weight+x.weight):=by
 rw[Gi];simp
abbrev IB (k:Int)(s:Str):List W:=[.c (.int .i64 k),zi,.c (.str s),zi,.nil,.nil,zi,zs,zi,zi,.nil]
theorem Zdk (L:List Int)(ds:List DataD)(hL:L.length<=687194767360)(hds:fitDs ds)(d:Nat)(hd:d<=6)(ih:JI A L ds d)(ctx:List EntD)(goal:Ty)(I:Nat)(hctx:ctxOk (1000-4*(d+1)) 50000 ctx)(hg:tyS 0 goal)(hgl:goal.size<=50000)(hI:I<=L.length):
 ∃r,MkR L ds (wD (d+1)) r/\(K A).call 89 [.sc (.ptr 0 0),Aw ds,Be ctx,tyV goal,intV (d+1)] [Ao L I]=some r:=by
 have hp:=H6 d;have h32:wD (d+1)=(7*wD d+25):=rfl;rw[h32];obtain⟨_,⟨hl,hl1,hl2,rfl⟩,hlist⟩:=Yw (A:=A) (n:=1000) (m:=50000) oz oz ds hds ctx (hctx.up oz) goal hg oz;refine fnE v89 ?_;unfold v89;cases hl with
 |nil=>
  obtain⟨_,⟨e,J,g1,g2,g3,rfl⟩,hleaf⟩:=Kn (A:=A) L ds hL (n:=1000) oz ctx (hctx.up oz) goal oz I hI;simp only[hdRows0]at hlist;simp(disch:=try exact zd) [hlist,hleaf,-getElem?_pos];exact⟨e,J,g1,oz,g3,rfl⟩
 |cons h0 hr=>
  obtain⟨q,J,hq,hJ,hc⟩:=BC (A:=A) L I ((h0::hr).length:Nat) hI hL sy (by simp only[qI]at hl1 |-;omega);obtain⟨h,hh⟩:=Ab (l:=h0::hr) (i:=q) oz;obtain⟨e1,e2,e3,e4⟩:=hl2 h (qc hh);have hql:(q:Int)<((h0::hr).length:Nat):=hq;have hne:¬((h0::hr).length:Nat)=0:=by simp
  generalize h0::hr=hl at *
  have hne':¬(hl.length:Int)=0:=oz
  have hne2:hl≠[]:=fun h=>hne (by rw[h];rfl);have main:∀k:Int,mkE ds (.mk k 0 h.name 0 [] [] tz)->wp (K A) (.loop Ji) (BH 0 (BO (K A) (.seq (.region [] [o 64 (.load true 11 (tv 13)),on (.store 11 (tv 10) (tv 64) [])] [] [10]) .ret) (B3 false 1 [.cell 10 true 11] (MkR L ds ((7*wD d+25))))))
   ⟨[(0,.sc (.ptr 0 0)),(1,Aw ds),(2,Be ctx),(4,intV (d+1)),(10,.sc (.ptr 128 0)),(12,.sc (.ptr 1536 0)),(13,.sc (.ptr 1856 0)),(14,intV 0)],
     [(0,some (Ao L J)),(64,some (.box (wc goal.row))),(128,some (.box [zi,zi,zs,zi,.nil,.nil,zi,zs,zi,zi,.nil])),(1536,some (.box (wc (Ct h)))),(1856,some (.box (IB k h.name)))]⟩:=by
   intro k hk;refine Al (fun i st=>∃(e:Exp) (J:Nat) (cs:List W),mkE ds e/\e.weight<=1+i*(1+wD d)/\J<=L.length/\(cs=wc e.row\/(cs=IB k h.name/\e=.mk k 0 h.name 0 [] [] tz))/\
    st=⟨[(0,.sc (.ptr 0 0)),(1,Aw ds),(2,Be ctx),(4,intV (d+1)),(10,.sc (.ptr 128 0)),(12,.sc (.ptr 1536 0)),(13,.sc (.ptr 1856 0)),(14,intV i)],
     [(0,some (Ao L J)),(64,some (.box (wc goal.row))),(128,some (.box [zi,zi,zs,zi,.nil,.nil,zi,zs,zi,zi,.nil])),(1536,some (.box (wc (Ct h)))),(1856,some (.box cs))]⟩) h.args.length
    ⟨_,J,IB k h.name,hk,by have:=F6 k 0 h.name;omega,hJ,.inr ⟨rfl,rfl⟩,by simp⟩ ?_ ?_
   .rintro i st hi ⟨e,J2,cs,p1,p2,p3,p4,rfl⟩
    obtain⟨x,hx⟩:=Ab hi;obtain⟨M,x1,x2⟩:=e4 x (qc hx);obtain⟨_,⟨u,u1,u2,rfl⟩,hgr⟩:=Zaj (A:=A) x x1 oz;obtain⟨_,⟨y,J3,y1,y2,y3,rfl⟩,hty⟩:=ih ctx u J2 (hctx.up oz) u1 oz p3;have hw:1+(e.weight+y.weight)<=1+(i+1)*(1+wD d):=(by rw[Nat.succ_mul];omega);unfold Ji;rcases p4 with rfl|⟨rfl,rfl⟩
    .simp (disch:=try exact zd) [hi,hx,hgr,hty,-getElem?_pos]
     exact⟨.mk 5 0 [] 0 [e,y] [] tz,MJ p1 y1,by rw[JV];exact hw,J3,y3,rfl,by rw[Jo];rfl⟩
    .simp (disch:=try exact zd) [hi,hx,hgr,hty,-getElem?_pos]
     exact⟨.mk 5 0 [] 0 [_,y] [] tz,MJ p1 y1,by rw[JV];exact hw,J3,y3,rfl,by rw[Jo,Hs];rfl⟩
   .rintro st ⟨e,J2,cs,p1,p2,p3,p4,rfl⟩
    have hw:e.weight<=(7*wD d+25):=by
     have:h.args.length*(1+wD d)<=3*(1+wD d):=qD _ e3;omega
    unfold Ji;rcases p4 with rfl|⟨rfl,rfl⟩
    .simp (disch:=try exact zd) [-getElem?_pos]
     exact⟨e,J2,p1,hw,p3,rfl⟩
    .simp (disch:=try exact zd) [-getElem?_pos]
     exact⟨_,J2,p1,hw,p3,by simp[expV,Hs]⟩
  cases hb:h.con with
  |true=>
   have hk:mkE ds (.mk 2 0 h.name 0 [] [] tz):=Fs (by simp[mkE1,mkS,annT,numB,Exp.kind,Exp.pos,Exp.name,Exp.num,Exp.kids,Exp.arms,Exp.ty,tz,Ty.size_leaf,e2 hb]);simp(disch:=try exact zd) [hlist,hne,hne',hne2,hc,hql,hh,hb,-getElem?_pos];exact main 2 hk
  |false=>
   have hk:mkE ds (.mk 1 0 h.name 0 [] [] tz):=Fs (by simp[mkE1,mkS,annT,numB,Exp.kind,Exp.pos,Exp.name,Exp.num,Exp.kids,Exp.arms,Exp.ty,tz,Ty.size_leaf,e1 hb]);simp(disch:=try exact zd) [hlist,hne,hne',hne2,hc,hql,hh,hb,-getElem?_pos];exact main 1 hk
variable {A:Ag}
theorem J9 (k:Int)(e:Exp):e.weight<=687194767360->∃r,Ky r/\(K A).call 68 [expV e,intV k] []=some r:=by
 induction e using Exp.ind with
 |h e ih=>
 intro hl;have hle:=e.children_le;rw[e.children_len]at hle;have hc:=E7 (A:=A) e oz;refine fnE v68 ?_;unfold v68;by_cases hk:e.kind=k
 .simp (disch:=try exact zd) [hk]
  exact⟨true,rfl⟩
 .simp (disch:=try exact zd) [hk,hc,-getElem?_pos]
  refine Al (fun i s=>s=⟨[(1,intV k),(5,.sc (.arr 608 e.children.length)),(6,intV i)],[(608,some (.arr 11 (wr (Exp.rows e.children)) 0))]⟩) e.children.length sy ?_ ?_
  .rintro i s hi rfl
   obtain⟨x,hx⟩:=Ab hi;have hmem:=qc hx;obtain⟨_,⟨b,rfl⟩,h68⟩:=ih x hmem (by have:=Exp.child_lt hmem;omega);rw[e.children_len]at hi;have hi':(i:Int)<(e.kids.length:Int)+e.arms.length:=oz;unfold Ol;cases b with
   |true=>
    simp(disch:=try exact zd) [hi',hx,h68,-getElem?_pos];exact⟨true,rfl⟩
   |false=>simp(disch:=try exact zd) [hi',hx,h68,-getElem?_pos]
  .rintro s rfl
   unfold Ol;simp(disch:=try exact zd);exact⟨false,rfl⟩
theorem Y3 {ds:List DataD}{k:Int}{s:Str}(hk:k=6\/k=7)(hs:s∈B1){e x:Exp}(he:mkE ds e)(hx:mkE ds x):mkE ds (.mk k 0 s 0 [e,x] [] tz):=by
 rw[F5];refine⟨?_,?_,by simp⟩
 .refine ⟨rfl,by simp [Exp.arms],by simp [Exp.ty,tz,Ty.size_leaf],⟨fun _=>rfl,fun h=>absurd (show k=9 from h) oz⟩,⟨fun _=>rfl,by show (0:Int)<=0;decide,by show (0:Int)<=999;decide⟩,?_⟩
  exact .inr (.inr (.inr (.inr (.inr (.inl ⟨hk,hs,⟨e,x,rfl⟩,rfl⟩)))))
 .intro y hy
  simp only[qG,qag,or_false]at hy;rcases hy with rfl|rfl
  .exact he
  .exact hx
theorem CK (k:Int)(s:Str)(e x:Exp):(Exp.mk k 0 s 0 [e,x] [] tz).row=[.int .i64 k,.int .i64 0,.str s,.int .i64 0,.sl [e.row,x.row],.sl [],.int .i64 0,.str [],.int .i64 0,.int .i64 0,.sl []]:=by
 simp[Exp.row,tz,Ty.kind,Ty.name,Ty.id,Ty.home,Ty.args]
theorem Zbm (k:Int)(s:Str)(e x:Exp):(Exp.mk k 0 s 0 [e,x] [] tz).weight=1+(e.weight+x.weight):=by
 rw[Gi];simp
def Fx:List Ty:=[.mk 3 [] 0 99 [],.mk 3 [] 1 99 []]
theorem ZcF:∀x∈Fx,tyG x/\x.size=1:=by
 intro x hx;simp only[Fx,qG,qag,or_false]at hx;rcases hx with rfl|rfl
 .exact⟨⟨O4,Ty.all_iff.2 ⟨fun _=>by decide,fun x hx=>by cases hx⟩⟩,Ty.size_leaf⟩
 .exact⟨⟨O4,Ty.all_iff.2 ⟨fun _=>by decide,fun x hx=>by cases hx⟩⟩,Ty.size_leaf⟩
theorem Sq:Ty.rows Fx=[(Ty.mk 3 [] 0 99 []).row,(Ty.mk 3 [] 1 99 []).row]:=by simp[Fx,Ty.rows]
theorem Zel (L:List Int)(ds:List DataD)(hL:L.length<=687194767360)(hds:fitDs ds)(d:Nat)(hd:d<=6)(ih:JI A L ds d)(ctx:List EntD)(goal:Ty)(I:Nat)(hctx:ctxOk (1000-4*(d+1)) 50000 ctx)(hg:tyS 0 goal)(hgl:goal.size+10*(d+1)<=50000)(hI:I<=L.length):
 ∃r,MkR L ds (wD (d+1)) r/\(K A).call 86 [.sc (.ptr 0 0),Aw ds,Be ctx,tyV goal,intV (d+1)] [Ao L I]=some r:=by
 have hp:=H6 d;have h32:wD (d+1)=(7*wD d+25):=rfl;rw[h32];obtain⟨k2,J1,hk2,hJ1,hc1⟩:=BC (A:=A) L I 2 hI hL oz oz;obtain⟨s,J2,hs,hJ2,hc2⟩:=TR (A:=A) L J1 hJ1 hL;obtain⟨b,J3,hb,hJ3,hc3⟩:=BC (A:=A) L J2 2 hJ2 hL oz oz;have hsA:=Ge hs;have hr0:=Oj (A:=A) 99 0;have hr1:=Oj (A:=A) 99 1;have hint:=Ff (A:=A)
 obtain⟨_,⟨x,J4,hxG,hxz,hJ4,rfl⟩,hx0⟩:∃r,EH L 25 r/\(K A).call 45 [.sc (.ptr 0 0),Aw ds,.sc (.c (.sl (if b=0 then Ty.rows Fx else []))),intV 2] [Ao L J3]=some r:=by
  by_cases hb0:b=0
  .obtain ⟨r,h1,h2⟩:=Vu (A:=A) L ds Fx hL hds (by simp [Fx]) (by simp [Fx]) ZcF 2 J3 oz hJ3
   exact⟨r,h1,by rw[if_pos hb0];exact h2⟩
  .obtain ⟨r,h1,h2⟩:=LC (A:=A) L ds hL hds 2 J3 oz hJ3
   exact⟨r,h1,by rw[if_neg hb0];exact h2⟩
 have hmx:=GJ (A:=A) x;have hpx:=FY (A:=A) ctx s 0 x (by have:=hctx.1;omega);have hin:ctxOk (1000-4*d) 50000 (if k2=1 then ctx++[⟨s,0,x⟩] else ctx):=by
  split
  .exact hctx.push (c:=0) oz hsA oz hxG.1 oz
  .exact hctx.up oz
 obtain⟨_,⟨e1,J5,g1,g2,g3,rfl⟩,ht1⟩:=ih _ x J4 hin hxG.1 oz hJ4;obtain⟨_,⟨c,u,u1,u2,u3,rfl⟩,hcl⟩:=WN (A:=A) x oz hxG.1 hxG.2;have hw1:e1.weight<=687194767360:=qr g2 (qr (WH hd) (by decide));obtain⟨_,⟨p,rfl⟩,hh1⟩:=J9 (A:=A) 10 e1 hw1;obtain⟨_,⟨q,rfl⟩,hh2⟩:=J9 (A:=A) 11 e1 hw1;have hmi:=GJ (A:=A) (.mk 4 [73,110,116] 0 0 []);have hp1:=FY (A:=A) ctx s c u (by have:=hctx.1;omega)
 have hp2:=FY (A:=A) ctx s 0 (.mk 4 [73,110,116] 0 0 []) (by have:=hctx.1;omega);obtain⟨_,⟨e2,J6,y1,y2,y3,rfl⟩,ht2⟩:=ih (ctx++[⟨s,c,u⟩]) goal J5 (hctx.push oz hsA oz u2 oz) hg oz g3;obtain⟨_,⟨e3,J7,z1,z2,z3,rfl⟩,ht3⟩:=ih (ctx++[⟨s,0,.mk 4 [73,110,116] 0 0 []⟩]) goal J5 (hctx.push (c:=0) oz hsA oz Nw (by rw[Ty.size_leaf];omega)) hg oz g3
 have res:∀(k:Int) (f:Exp) (J:Nat),k=6\/k=7->mkE ds f->f.weight<=wD d->J<=L.length->MkR L ds ((7*wD d+25)) (expV (.mk k 0 s 0 [e1,f] [] tz),[Ao L J]):=
  fun k f J hk hf hw hJ=>⟨_,J,Y3 hk hsA g1 hf,by rw[Zbm];omega,hJ,rfl⟩
 refine fnE v86 ?_;unfold v86;obtain rfl|rfl:k2=0\/k2=1:=oz
 .rw [if_neg (by decide)] at ht1
  obtain rfl|rfl:b=0\/b=1:=oz
  .rw [if_pos (by decide),Sq] at hx0
   cases p with
   |true=>
    simp(maxSteps:=9^7) (disch:=try exact zd) [hc1,hc2,hc3,hr0,hr1,hint,hx0,hmx,hpx,ht1,hcl,hh1,hh2,hmi,hp1,hp2,ht2,ht3,-getElem?_pos];have:=res 6 e3 J7 oz z1 z2 z3;simpa[expV,CK]using this
   |false=>
    cases q with
    |true=>
     simp(maxSteps:=9^7) (disch:=try exact zd) [hc1,hc2,hc3,hr0,hr1,hint,hx0,hmx,hpx,ht1,hcl,hh1,hh2,hmi,hp1,hp2,ht2,ht3,-getElem?_pos];have:=res 6 e3 J7 oz z1 z2 z3;simpa[expV,CK]using this
    |false=>
     simp(maxSteps:=9^7) (disch:=try exact zd) [hc1,hc2,hc3,hr0,hr1,hint,hx0,hmx,hpx,ht1,hcl,hh1,hh2,hmi,hp1,hp2,ht2,ht3,-getElem?_pos];have:=res 6 e2 J6 oz y1 y2 y3;simpa[expV,CK]using this
  .rw [if_neg (by decide)] at hx0
   cases p with
   |true=>
    simp(disch:=try exact zd) [hc1,hc2,hc3,hr0,hr1,hint,hx0,hmx,hpx,ht1,hcl,hh1,hh2,hmi,hp1,hp2,ht2,ht3];have:=res 6 e3 J7 oz z1 z2 z3;simpa[expV,CK]using this
   |false=>
    cases q with
    |true=>
     simp(disch:=try exact zd) [hc1,hc2,hc3,hr0,hr1,hint,hx0,hmx,hpx,ht1,hcl,hh1,hh2,hmi,hp1,hp2,ht2,ht3];have:=res 6 e3 J7 oz z1 z2 z3;simpa[expV,CK]using this
    |false=>
     simp(maxSteps:=9^7) (disch:=try exact zd) [hc1,hc2,hc3,hr0,hr1,hint,hx0,hmx,hpx,ht1,hcl,hh1,hh2,hmi,hp1,hp2,ht2,ht3,-getElem?_pos];have:=res 6 e2 J6 oz y1 y2 y3;simpa[expV,CK]using this
 .rw [if_pos (by decide)] at ht1
  obtain rfl|rfl:b=0\/b=1:=oz
  .rw [if_pos (by decide),Sq] at hx0
   cases p with
   |true=>
    simp(maxSteps:=9^7) (disch:=try exact zd) [hc1,hc2,hc3,hr0,hr1,hint,hx0,hmx,hpx,ht1,hcl,hh1,hh2,hmi,hp1,hp2,ht2,ht3,-getElem?_pos];have:=res 7 e3 J7 oz z1 z2 z3;simpa[expV,CK]using this
   |false=>
    cases q with
    |true=>
     simp(maxSteps:=9^7) (disch:=try exact zd) [hc1,hc2,hc3,hr0,hr1,hint,hx0,hmx,hpx,ht1,hcl,hh1,hh2,hmi,hp1,hp2,ht2,ht3,-getElem?_pos];have:=res 7 e3 J7 oz z1 z2 z3;simpa[expV,CK]using this
    |false=>
     simp(maxSteps:=9^7) (disch:=try exact zd) [hc1,hc2,hc3,hr0,hr1,hint,hx0,hmx,hpx,ht1,hcl,hh1,hh2,hmi,hp1,hp2,ht2,ht3,-getElem?_pos];have:=res 7 e2 J6 oz y1 y2 y3;simpa[expV,CK]using this
  .rw [if_neg (by decide)] at hx0
   cases p with
   |true=>
    simp(maxSteps:=9^7) (disch:=try exact zd) [hc1,hc2,hc3,hr0,hr1,hint,hx0,hmx,hpx,ht1,hcl,hh1,hh2,hmi,hp1,hp2,ht2,ht3,-getElem?_pos];have:=res 7 e3 J7 oz z1 z2 z3;simpa[expV,CK]using this
   |false=>
    cases q with
    |true=>
     simp(maxSteps:=9^7) (disch:=try exact zd) [hc1,hc2,hc3,hr0,hr1,hint,hx0,hmx,hpx,ht1,hcl,hh1,hh2,hmi,hp1,hp2,ht2,ht3,-getElem?_pos];have:=res 7 e3 J7 oz z1 z2 z3;simpa[expV,CK]using this
    |false=>
     simp(maxSteps:=9^7) (disch:=try exact zd) [hc1,hc2,hc3,hr0,hr1,hint,hx0,hmx,hpx,ht1,hcl,hh1,hh2,hmi,hp1,hp2,ht2,ht3,-getElem?_pos];have:=res 7 e2 J6 oz y1 y2 y3;simpa[expV,CK]using this
variable {A:Ag}
abbrev zE:List W:=[zi,zi,zs,zi,.nil,.nil,zi,zs,zi,zi,.nil]
def ArgA (L:List Int)(ds:List DataD)(ctx:List EntD)(goal:Ty)(dd:DataD)(d i:Nat)(s:St):Prop:=∃tys J,tys.length=i/\(∀x∈tys,tyG x/\x.size<=5)/\J<=L.length/\
 s=⟨[(0,.sc (.ptr 0 0)),(1,Aw ds),(2,Be ctx),(4,intV (d+1)),(8,.sc (.ptr 64 0)),(10,.sc (.ptr 128 0)),(11,.sc (.ptr 1216 0)),(12,.sc (.arr 1345 i)),(13,intV i)],
  [(0,some (Ao L J)),(64,some (.box (wc goal.row))),(128,some (.box zE)),(1216,some (.box (wc (A2 dd)))),(1345,some (.arr 5 (wr (Ty.rows tys)) 0))]⟩
def ArmA (L:List Int)(ds:List DataD)(ctx:List EntD)(goal:Ty)(dd:DataD)(tys:List Ty)(x:Exp)(B d i:Nat)(s:St):Prop:=∃arms J,arms.length=i/\J<=L.length/\(∀a∈arms,armM ds a/\mkE ds a.2/\a.2.weight<=B)/\
 s=⟨[(0,.sc (.ptr 0 0)),(1,Aw ds),(2,Be ctx),(4,intV (d+1)),(8,.sc (.ptr 64 0)),(10,.sc (.ptr 128 0)),(11,.sc (.ptr 1216 0)),(12,.sc (.arr 1345 tys.length)),(14,.sc (.ptr 3200 0)),(15,intV i)],
  [(0,some (Ao L J)),(64,some (.box (wc goal.row))),(128,some (.box zE)),(1216,some (.box (wc (A2 dd)))),(1345,some (.arr 5 (wr (Ty.rows tys)) tys.length)),(3072,some (.arr 11 [wc x.row] 0)),
    (3200,some (.box [.c (.int .i64 8),zi,zs,zi,.arr 3072 1,.arr 3270 i,zi,zs,zi,zi,.nil])),(3270,some (.arr 14 (wr (Exp.armRows arms)) 0))]⟩
def xyzw:List Str:=[[120],[121],[122],[119]]
def VarA (L:List Int)(ds:List DataD)(ctx:List EntD)(goal:Ty)(dd:DataD)(tys:List Ty)(x:Exp)(arms:List (ArmH×Exp))(con:Str)(f:List Ty)(J d n i j:Nat)(s:St):Prop:=∃vars inner,vars.length=j/\vars=xyzw.take j/\ctxOk (n+j) 50000 inner/\
 s=⟨[(0,.sc (.ptr 0 0)),(1,Aw ds),(2,Be ctx),(4,intV (d+1)),(8,.sc (.ptr 64 0)),(10,.sc (.ptr 128 0)),(11,.sc (.ptr 1216 0)),(12,.sc (.arr 1345 tys.length)),(14,.sc (.ptr 3200 0)),(15,intV i),
  (16,tysV f),(18,.sc (.ptr 5056 0)),(19,Be inner),(20,intV j)],
  [(0,some (Ao L J)),(64,some (.box (wc goal.row))),(128,some (.box zE)),(1216,some (.box (wc (A2 dd)))),(1345,some (.arr 5 (wr (Ty.rows tys)) tys.length)),(3072,some (.arr 11 [wc x.row] 0)),
    (3200,some (.box [.c (.int .i64 8),zi,zs,zi,.arr 3072 1,.arr 3270 i,zi,zs,zi,zi,.nil])),(3270,some (.arr 14 (wr (Exp.armRows arms)) 0)),
    (5056,some (.box [zi,.c (.str con),.arr 5123 j,zi,zi,zs,zi,.nil,.nil,zi,zs,zi,zi,.nil])),(5123,some (.arr 1 (wr (Ak vars)) 0))]⟩
theorem Zhu (L:List Int)(ds:List DataD)(hL:L.length<=687194767360)(hds:fitDs ds)(d:Nat)(hd:d<=6)(ih:JI A L ds d)(ctx:List EntD)(goal:Ty)(I:Nat)(hctx:ctxOk (1000-4*(d+1)) 50000 ctx)(hg:tyS 0 goal)(hgl:goal.size+10*(d+1)<=50000)(hI:I<=L.length):
 ∃r,MkR L ds (wD (d+1)) r/\(K A).call 87 [.sc (.ptr 0 0),Aw ds,Be ctx,tyV goal,intV (d+1)] [Ao L I]=some r:=by
 have hp:=H6 d;have h32:wD (d+1)=(7*wD d+25):=rfl;rw[h32];refine fnE v87 ?_;unfold v87;by_cases hz:ds=[]
 .subst hz
  obtain⟨_,⟨e,J,g1,g2,g3,rfl⟩,hleaf⟩:=Kn (A:=A) L [] hL (n:=1000) oz ctx (hctx.up oz) goal oz I hI;have hz2:AM []=[]:=rfl;simp only[Aw,hz2]at hleaf;simp(disch:=try exact zd) [Aw,hz2,hleaf,-getElem?_pos];exact⟨e,J,g1,oz,g3,rfl⟩
 .have hpos:ds.length≠0:=by have:=qay.2 hz;omega
  have hds1:=hds.1;have hN:∀I,I<=L.length->∃r,EH L 5 r/\(K A).call 45 [.sc (.ptr 0 0),Aw ds,.sc (.c (.sl [])),intV 1] [Ao L I]=some r:=fun I h=>LC (A:=A) L ds hL hds 1 I oz h;obtain⟨m,J1,hm,hJ1,hc1⟩:=BC (A:=A) L I ds.length hI hL oz oz;obtain⟨dd,hdd⟩:=Ab (l:=ds) (i:=m) oz;obtain⟨⟨hg1,hg2,hg3,hg4⟩,hfit⟩:=hds.2 dd (qc hdd)
  simp(disch:=try exact zd) [hz,hpos,hc1,hdd,-getElem?_pos];refine Al (ArgA L ds ctx goal dd d) dd.params.length ⟨[],J1,rfl,by simp,hJ1,by simp⟩ ?_ ?_
  .rintro i s hi ⟨tys,J2,ht,hts,hJ2,rfl⟩
   obtain⟨_,⟨ty,J3,hGt,hty,hJ3,rfl⟩,hc2⟩:=hN J2 hJ2;unfold I2;simp(disch:=try exact zd) [hi,hc2,ht,-getElem?_pos];refine⟨tys++[ty],J3,by simp[ht],?_,hJ3,by simp⟩;intro x hx;rcases qp.1 hx with hx|hx
   .exact hts x hx
   .simp only [qo] at hx
    exact hx▸⟨hGt,hty⟩
  .rintro s ⟨tys,J2,ht,hts,hJ2,rfl⟩
   have hcon:=HA (A:=A) dd.name tys oz;have hgz:(Ty.mk 4 dd.name 0 0 tys).size<=40:=by
    have hs:=GU fun x hx=>(hts x hx).2;have hm4:tys.length*5<=4*5:=qD _ oz;simp only[Ty.size,Ty.sizes_map];omega
   have hgs:tyS 0 (Ty.mk 4 dd.name 0 0 tys):=(IS (by rw[ht];exact hfit.2.1) fun x hx=>(hts x hx).1).1;obtain⟨_,⟨x,J3,x1,x2,x3,rfl⟩,hx⟩:=ih ctx _ J2 (hctx.up oz) hgs oz hJ2;unfold I2;rw[<-ht];simp(disch:=try exact zd) [hcon,ht,hx,-getElem?_pos];refine Al (ArmA L ds ctx goal dd tys x (wD d) d) dd.cons.length ⟨[],J3,rfl,x3,by simp,by simp[ht]⟩ ?_ ?_
   .rintro i s hi ⟨arms,J4,harms,hJ4,hall,rfl⟩
    obtain⟨cc,hcc⟩:=Ab hi;have hmem:=qc hcc;obtain⟨_,⟨f,b,f1,f2,rfl⟩,hf⟩:=Y4 (A:=A) (n:=0) (m:=5) oz oz ds hds cc.name ⟨dd,qc hdd,cc,hmem,rfl⟩ tys oz (fun x hx=>⟨(hts x hx).1.1,(hts x hx).2⟩);unfold M8;simp(disch:=try exact zd) [hi,hcc,harms,hf,-getElem?_pos]
    refine Al (VarA L ds ctx goal dd tys x arms cc.name f J4 d (1000-4*(d+1)) i) f.length ⟨[],ctx,rfl,rfl,hctx,by simp[harms]⟩ ?_ ?_
    .rintro j s hj ⟨vars,inner,hvars,hvn,hin,rfl⟩
     obtain⟨y,hy⟩:=Ab hj;obtain⟨y1,y2⟩:=f2 y (qc hy);have hmo:=GJ (A:=A) y;have hpu:=fun s=>FY (A:=A) inner s 0 y (by have:=hin.1;omega);have nxt:∀s∈B1,ctxOk (1000-4*(d+1)+(j+1)) 50000 (inner++[⟨s,0,y⟩]):=fun s hs=>hin.push (c:=0) oz hs oz y1 oz;unfold Ja;have:j=0\/j=1:=oz;rcases this with rfl|rfl
     .have hjI:(0:Int)<f.length:=oz
      have hnb:AH (intV 0) 4=some 0:=rfl;have hnf:AH (intV 0) f.length=some 0:=natBelow_cast (n:=0) oz;have hlit:([[.c (.str [120])],[.c (.str [121])],[.c (.str [122])],[.c (.str [119])]]:WW1)[0]?=some [.c (.str [120])]:=rfl;simp(maxSteps:=9^7) (disch:=try exact zd) [hi,hj,hjI,hlit,hnb,hnf,hcc,hy,hmo,hpu,hvars,harms,-getElem?_pos]
      exact⟨vars++[[120]],inner++[⟨[120],0,y⟩],by simp[hvars],by rw[hvn];rfl,nxt [120] (by decide),by simp[harms]⟩
     .have hjI:(1:Int)<f.length:=oz
      have hnb:AH (intV 1) 4=some 1:=rfl;have hnf:AH (intV 1) f.length=some 1:=natBelow_cast (n:=1) oz;have hlit:([[.c (.str [120])],[.c (.str [121])],[.c (.str [122])],[.c (.str [119])]]:WW1)[1]?=some [.c (.str [121])]:=rfl;simp(maxSteps:=9^7) (disch:=try exact zd) [hi,hj,hjI,hlit,hnb,hnf,hcc,hy,hmo,hpu,hvars,harms,-getElem?_pos]
      exact⟨vars++[[121]],inner++[⟨[121],0,y⟩],by simp[hvars],by rw[hvn];rfl,nxt [121] (by decide),by simp[harms]⟩
    .rintro s ⟨vars,inner,hvars,hvn,hin,rfl⟩
     obtain⟨_,⟨y,J5,y1,y2,y3,rfl⟩,hty⟩:=ih inner goal J4 (hin.up oz) hg oz hJ4;unfold Ja;simp(disch:=try exact zd) [hi,hcc,hty,hvars,harms,-getElem?_pos];refine⟨arms++[(⟨0,cc.name,vars⟩,y)],J5,by simp[harms],y3,?_,?_⟩
     .intro a ha
      rcases qp.1 ha with ha|ha
      .exact hall a ha
      .simp only [qo] at ha
       subst ha;exact⟨⟨rfl,.inr ⟨dd,qc hdd,cc,hmem,rfl⟩,by simp only;omega,by show vars.Nodup;rw[hvn];exact(List.take_sublist _ _).nodup (by decide),fun v hv=>(show ∀v∈xyzw,v∈B1 by decide) v (qW (by rw[<-hvn];exact hv))⟩,y1,y2⟩
     .simp[harms,Exp.armRows_map,wr,Ax]
   .rintro s ⟨arms,J4,harms,hJ4,hall,rfl⟩
    unfold M8;simp(disch:=try exact zd) [harms,-getElem?_pos];refine⟨.mk 8 0 [] 0 [x] arms tz,J4,?_,?_,hJ4,?_⟩
    .rw [F5]
     refine⟨?_,by simp[x1],fun a ha=>(hall a ha).2.1⟩;refine⟨rfl,fun a ha=>(hall a ha).1,by simp[Exp.ty,tz,Ty.size_leaf],⟨fun _=>rfl,fun h=>absurd (show(8:Int)=9 from h) (by decide)⟩,⟨fun _=>rfl,by show(0:Int)<=0;decide,by show(0:Int)<=999;decide⟩,?_⟩;have harm0:arms≠[]:=fun h=>by rw[h]at harms;simp at harms;omega
     simp[mkS,Exp.kind,Exp.name,Exp.kids,Exp.arms,harm0]
    .rw [Gi]
     have h1:(arms.map fun a=>a.1.vars.length).sum<=(arms.map fun _=>4).sum:=Gp fun a ha=>qr (hall a ha).1.2.2.1 (by decide);have h2:(arms.map fun a=>a.2.weight).sum<=(arms.map fun _=>wD d).sum:=Gp fun a ha=>(hall a ha).2.2;simp only[List.map_const',List.sum_replicate_nat,harms]at h1 h2;simp only[qt,qX,qQ,qaJ];have h3:dd.cons.length*wD d<=6*wD d:=qD _ hg3;omega
    .simp[expV,Exp.row,tz,Ty.kind,Ty.name,Ty.id,Ty.home,Ty.args]
variable {A:Ag}
theorem Sv {ds:List DataD}{k:Int}{s:Str}(hk:(k=4/\s∈B1)\/(k=11/\s=[])){x:Exp}(hx:mkE ds x):mkE ds (.mk k 0 s 0 [x] [] tz):=by
 rw[F5];refine⟨?_,by simp[hx],by simp⟩;refine⟨rfl,by simp[Exp.arms],by simp[Exp.ty,tz,Ty.size_leaf],⟨fun _=>rfl,fun h=>absurd (show k=9 from h) oz⟩,⟨fun _=>rfl,by show(0:Int)<=0;decide,by show(0:Int)<=999;decide⟩,?_⟩;rcases hk with ⟨rfl,hs⟩|⟨rfl,rfl⟩
 .simp[mkS,Exp.kind,Exp.name,Exp.kids,Exp.arms,hs]
 .simp[mkS,Exp.kind,Exp.name,Exp.kids,Exp.arms]
theorem ZfN {ds:List DataD}{t:Ty}(ht:t.size<=687194767360)(htw:wrT t){x:Exp}(hx:mkE ds x):mkE ds (.mk 9 0 [] 0 [x] [] t):=by
 rw[F5];refine⟨?_,by simp[hx],by simp⟩;refine⟨rfl,by simp[Exp.arms],ht,⟨fun h=>absurd rfl h,fun _=>htw⟩,⟨fun _=>rfl,by show(0:Int)<=0;decide,by show(0:Int)<=999;decide⟩,?_⟩;simp[mkS,Exp.kind,Exp.name,Exp.kids,Exp.arms]
theorem PB (k:Int)(s:Str)(x:Exp)(t:Ty):(Exp.mk k 0 s 0 [x] [] t).weight=1+x.weight:=by
 rw[Gi];simp
theorem Wr (k:Int)(s:Str)(x:Exp):(Exp.mk k 0 s 0 [x] [] tz).row=[.int .i64 k,.int .i64 0,.str s,.int .i64 0,.sl [x.row],.sl [],.int .i64 0,.str [],.int .i64 0,.int .i64 0,.sl []]:=by
 simp[Exp.row,tz,Ty.kind,Ty.name,Ty.id,Ty.home,Ty.args]
theorem ZcB (L:List Int)(ds:List DataD)(hL:L.length<=687194767360)(hds:fitDs ds):∀(d:Nat),d<=6->JI A L ds d:=by
 intro d
 induction d with
 |zero=>
  intro _ ctx goal I hctx hg hgl hI;obtain⟨_,⟨e,J,g1,g2,g3,rfl⟩,hleaf⟩:=Kn (A:=A) L ds hL (n:=1000) oz ctx hctx goal oz I hI;refine fnE v44 ?_;unfold v44;simp(disch:=try exact zd) [hleaf];exact⟨e,J,g1,by simp only[wD];omega,g3,rfl⟩
 |succ d ih0=>
  intro hd ctx goal I hctx hg hgl hI;have ih:=ih0 oz;have hp:=H6 d;have h32:wD (d+1)=(7*wD d+25):=rfl;have hd1:¬(d:Int)+1<1:=oz
  obtain⟨k9,J0,hk9,hJ0,hc9⟩:=BC (A:=A) L I 9 hI hL oz oz;refine fnE v44 ?_;unfold v44;by_cases h90:k9=0
  .obtain ⟨_,⟨e,J,g1,g2,g3,rfl⟩,hleaf⟩:=Kn (A:=A) L ds hL (n:=1000) oz ctx (hctx.up oz) goal oz J0 hJ0
   subst h90;simp(disch:=try exact zd) [hd1,hc9,hleaf];exact⟨e,J,g1,oz,g3,rfl⟩
  .have h90':¬(k9:Int)=0:=oz
   obtain⟨k,J1,hk,hJ1,hc⟩:=BC (A:=A) L J0 10 hJ0 hL oz oz;have hw:∀e:Exp,e.weight<=wD d->1+e.weight<=wD (d+1):=fun e h=>by omega
   obtain⟨rh,hrh,hhead⟩:=Zdk (A:=A) L ds hL hds d oz ih ctx goal J1 hctx hg oz hJ1;obtain⟨eh,Jh,q1,q2,q3,rfl⟩:=hrh;rcases GM (A:=A) goal with ⟨a,b,hab,har⟩|har
   .have ha:=hg.arg (x:=a) (by simp [hab])
    have hb:=hg.arg (x:=b) (by simp[hab]);have hsa:=Ty.arg_lt (t:=goal) (x:=a) (by simp[hab]);have hsb:=Ty.arg_lt (t:=goal) (x:=b) (by simp[hab]);by_cases h7:k<7
    .have h7':(k:Int)<7:=oz
     obtain⟨s,J2,hs,hJ2,hcv⟩:=TR (A:=A) L J1 hJ1 hL;have hmo:=GJ (A:=A) a;have hpu:=FY (A:=A) ctx s 0 a (by have:=hctx.1;omega);obtain⟨_,⟨x,J3,x1,x2,x3,rfl⟩,hx⟩:=ih (ctx++[⟨s,0,a⟩]) b J2 (hctx.push (c:=0) oz (Ge hs) oz ha oz) hb oz hJ2;simp(disch:=try exact zd) [hd1,hc9,h90,h90',har,hc,h7',hcv,hmo,hpu,hx]
     exact⟨_,J3,Sv (.inl ⟨rfl,Ge hs⟩) x1,by rw[PB];exact hw _ x2,x3,by rw[expV,Wr];rfl⟩
    .have h7':¬(k:Int)<7:=oz
     have h2':¬(k:Int)<2:=oz;have e2:¬(k:Int)=2:=oz;have n2:¬k=2:=oz;have e3:¬(k:Int)=3:=oz;have n3:¬k=3:=oz;have e4:¬(k:Int)=4:=oz;have n4:¬k=4:=oz;have e5:¬(k:Int)=5:=oz;have n5:¬k=5:=oz;simp(maxSteps:=9^7) (disch:=try exact zd) [hd1,hc9,h90,h90',har,hc,h7',h2',e2,e3,e4,e5,n2,n3,n4,n5,hhead,-getElem?_pos];exact⟨eh,Jh,q1,q2,q3,rfl⟩
   .by_cases h2:k<2
    .have h2':(k:Int)<2:=oz
     obtain⟨_,⟨t,J2,hGt,ht,hJ2,rfl⟩,hty⟩:∃r,EH L 5 r/\(K A).call 45 [.sc (.ptr 0 0),Aw ds,.sc (.c (.sl [])),intV 1] [Ao L J1]=some r:=LC (A:=A) L ds hL hds 1 J1 oz hJ1;have harr:=Ig (A:=A) t goal;have hS:tyS 0 (.mk 4 [45,62] 0 0 [t,goal]):=Jw IN fun x hx=>by
      simp only[qG,qag,or_false]at hx;rcases hx with rfl|rfl
      .exact hGt.1
      .exact hg
     have hz:(Ty.mk 4 [45,62] 0 0 [t,goal]).size=1+(t.size+(goal.size+0)):=(by simp only[Ty.size,Ty.sizes]);obtain⟨_,⟨x,J3,x1,x2,x3,rfl⟩,hx⟩:=ih ctx _ J2 (hctx.up oz) hS oz hJ2;obtain⟨_,⟨y,J4,y1,y2,y3,rfl⟩,hy⟩:=ih ctx t J3 (hctx.up oz) hGt.1 oz x3;simp(maxSteps:=9^7) (disch:=try exact zd) [hd1,hc9,h90,h90',har,hc,h2',hty,harr,hx,hy,-getElem?_pos]
     exact⟨_,J4,MJ x1 y1,by rw[JV];omega,y3,by rw[expV,Jo];rfl⟩
    .have h2':¬(k:Int)<2:=oz
     by_cases e2:k=2
     .obtain ⟨_,⟨e,J,g1,g2,g3,rfl⟩,hlet⟩:=Zel (A:=A) L ds hL hds d oz ih ctx goal J1 hctx hg hgl hJ1
      subst e2;simp(disch:=try exact zd) [hd1,hc9,h90,h90',har,hc,hlet];exact⟨e,J,g1,g2,g3,rfl⟩
     .have e2':¬(k:Int)=2:=oz
      by_cases e3:k=3
      .obtain ⟨_,⟨e,J,g1,g2,g3,rfl⟩,hana⟩:=Zhu (A:=A) L ds hL hds d oz ih ctx goal J1 hctx hg hgl hJ1
       subst e3;simp(disch:=try exact zd) [hd1,hc9,h90,h90',har,hc,hana];exact⟨e,J,g1,g2,g3,rfl⟩
      .have e3':¬(k:Int)=3:=oz
       obtain⟨_,⟨x,J2,x1,x2,x3,rfl⟩,hx⟩:=ih ctx goal J1 (hctx.up oz) hg oz hJ1;by_cases e4:k=4
       .subst e4
        obtain⟨_,⟨p,hp3,rfl⟩,hc1⟩:=Sb (A:=A) 3 goal oz;obtain⟨_,⟨q,_,rfl⟩,hc2⟩:=Sb (A:=A) 1 goal oz;cases p with
        |true=>
         simp(maxSteps:=9^7) (disch:=try exact zd) [hd1,hc9,h90,h90',har,hc,hc1,hc2,hhead,-getElem?_pos];exact⟨eh,Jh,q1,q2,q3,rfl⟩
        |false=>
         cases q with
         |true=>
          simp(maxSteps:=9^7) (disch:=try exact zd) [hd1,hc9,h90,h90',har,hc,hc1,hc2,hhead,-getElem?_pos];exact⟨eh,Jh,q1,q2,q3,rfl⟩
         |false=>
          simp(maxSteps:=9^7) (disch:=try exact zd) [hd1,hc9,h90,h90',har,hc,hc1,hc2,hx,-getElem?_pos];exact⟨_,J2,ZfN (t:=goal) oz ⟨hg,hp3 rfl⟩ x1,by rw[PB];exact hw _ x2,x3,by simp[expV,Exp.row,Ty.row_eq]⟩
       .have e4':¬(k:Int)=4:=oz
        by_cases e5:k=5
        .subst e5
         simp(maxSteps:=9^7) (disch:=try exact zd) [hd1,hc9,h90,h90',har,hc,hx,-getElem?_pos];exact⟨_,J2,Sv (.inr ⟨rfl,rfl⟩) x1,by rw[PB];exact hw _ x2,x3,by rw[expV,Wr];rfl⟩
        .have e5':¬(k:Int)=5:=oz
         simp(maxSteps:=9^7) (disch:=try exact zd) [hd1,hc9,h90,h90',har,hc,h2',e2',e3',e4',e5',e2,e3,e4,e5,hhead,-getElem?_pos];exact⟨eh,Jh,q1,q2,q3,rfl⟩
end Go.Vs.Tryz
