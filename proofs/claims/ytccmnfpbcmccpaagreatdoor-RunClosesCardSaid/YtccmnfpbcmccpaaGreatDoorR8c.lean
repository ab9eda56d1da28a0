/- Stores of type variables, walked: Walk. (Parts of one proof, put together.) -/
import Derived.Test.YtccmnfpbcmccpaaGreatDoorR7c
set_option linter.unusedSimpArgs false
set_option linter.unusedVariables false
set_option linter.deprecated false
set_option maxHeartbeats 16000000
namespace Go.Vs.Tryz
open Go Go.Vs
variable {A:Zac}
theorem Ze5 {n:Nat}(s:StoD)(hs:stoOk n s)(t:Ty)(ht:tyS n t):(K A).call 230 [stoV s,tyV t] []=some (tyV (Zbi s t),[]):=by
 have hs0:=hs
 obtain ⟨h1,h2,h3,h4⟩:=hs0
 refine ZaW (vf:=v230) (by kernel_rfl) rfl (by simp) ?_
 unfold v230
 simp (disch:=first|omega|(simp;done)|(simp;omega))
 refine Zaf (fun i st=>∃ u:Ty,((i=0∧u=t)∨u=Zbi s t)∧st=⟨[(2,.sc (.ptr 64 0)),(3,.sc (.ptr 128 0)),(4,.sc (.ptr 192 0)),(5,intV i)],
  [(64,some (.box [.c (.sl (ZaT s.slots)),.c (.sl (ZaZ s.trail))])),(128,some (.box (wc u.row))),(192,some (.box [zi,zs,zi,zi,.nil]))]⟩) (n+1) ⟨t,.inl ⟨rfl,rfl⟩,by simp⟩ ?_ ?_
 ·rintro i st hi ⟨u,hu,rfl⟩
  obtain ⟨_,⟨b,hb,rfl⟩,hc⟩:=Zo0 (A:=A) s (by omega) u
  have hi2:(i:Int)≤s.slots.length:=by omega
  unfold Znu
  cases b with
  | true =>
   obtain ⟨hk,j,x,hj,hx,hxb⟩:=hb.1 rfl
   have hjl:=(List.getElem?_eq_some_iff.1 hx).1
   have hut:u=t:=by
    rcases hu with ⟨_,h⟩|h
    ·exact h
    ·obtain ⟨e1,e2,i',x',e3,e4,e5,e6⟩:=Ze0 hs ht (by rw [←h];exact hk)
     rw [h,e1] at hj
     have:i'=j:=by omega
     subst this
     rw [hx] at e5
     cases e5
     rw [hxb] at e6
     cases e6
   simp (disch:=first|omega|(simp;done)|(simp;omega)) [hi2,hc,hj,hx,hjl,-getElem?_pos]
   rw [hut] at hk hj
   rw [ZcQ hk hj hx hxb]
  | false =>
   have hu2:u=Zbi s t:=by
    rcases hu with ⟨_,rfl⟩|h
    ·by_cases hk:u.kind=1
     ·obtain ⟨g1,g2,_⟩:=ht.one.1 hk
      obtain ⟨j,hj⟩:∃ j:Nat,u.id=j:=⟨u.id.toNat,by omega⟩
      obtain ⟨x,hx⟩:=Zaa (l:=s.slots) (i:=j) (by omega)
      cases hxb:x.bound with
      | true=>exact absurd (hb.2 ⟨hk,j,x,hj,hx,hxb⟩) (by simp)
      | false=>exact (ZfV hj hx hxb).symm
     ·exact (Zfa hk).symm
    ·exact h
   simp (disch:=first|omega|(simp;done)|(simp;omega)) [hi2,hc,←hu2,-getElem?_pos]
 ·rintro st ⟨u,hu,rfl⟩
  have hu2:u=Zbi s t:=by
   rcases hu with ⟨h,_⟩|h
   ·omega
   ·exact h
  have hi2:¬(n:Int)+1≤s.slots.length:=by omega
  unfold Znu
  simp (disch:=first|omega|(simp;done)|(simp;omega)) [hi2,←hu2,-getElem?_pos]
def WalkR (n:Nat)(t:Ty)(r:V × List Obj):Prop:=∃ u:Ty,tyS n u∧u.size≤1073741824∧(t.kind≠1→u=t)∧r=(tyV u,[])
theorem ZiQ {n:Nat}(s:StoD)(hs:stoOk n s)(t:Ty)(ht:tyS n t)(hl:t.size≤1073741824):∃ r,WalkR n t r∧(K A).call 230 [stoV s,tyV t] []=some r:=by
 obtain ⟨h1,h2⟩:=ZjL hs ht hl
 exact ⟨_,⟨Zbi s t,h1,h2,Zfa,rfl⟩,Ze5 s hs t ht⟩
def SzOk (A:Zac)(n:Nat)(s:StoD)(t:Ty)(k:Nat):Prop:=∃ u:Ty,tyS n u∧Res s t u∧u.size≤k∧(K A).call 254 [stoV s,tyV t] []=some (tyV u,[])
theorem Zk1 {n k:Nat}(s:StoD)(t w:Ty)(hwp:w=Zbi s t)(hwa:w.args.length≤1073741824)(hw:tyS n w)(hc:(K A).call 230 [stoV s,tyV t] []=some (tyV w,[]))(us:List Ty)(hl:us.length=w.args.length)
 (hus:∀ (j:Nat) x,w.args[j]?=some x→∃ u,us[j]?=some u∧tyS n u∧Res s x u∧(K A).call 254 [stoV s,tyV x] []=some (tyV u,[])) (hk:(us.map Ty.size).sum+1≤k):SzOk A n s t k:=by
 refine ⟨.mk w.kind w.name w.id w.home us,?_,?_,?_,?_⟩
 ·refine Zev.2 ⟨?_,?_⟩
  ·exact hw.one.len hl
  ·intro x hx
   obtain ⟨j,hj,he⟩:=List.getElem_of_mem (show x∈us from hx)
   obtain ⟨y,hy⟩:=Zaa (l:=w.args) (i:=j) (by omega)
   obtain ⟨u,hu,hs,_,_⟩:=hus j y hy
   rw [List.getElem?_eq_getElem hj,he] at hu
   cases hu
   exact hs
 ·subst hwp
  refine .mk t us hl fun j x y hx hy => ?_
  obtain ⟨u,hu,_,hr,_⟩:=hus j x hx
  rw [hu] at hy
  cases hy
  exact hr
 ·rw [Ty.size_eq]
  show 1+(us.map Ty.size).sum≤k
  omega
 ·refine ZaW (vf:=v254) (by kernel_rfl) rfl (by simp) ?_
  unfold v254
  simp (disch:=first|omega|(simp;done)|(simp;omega)) [hc]
  simp (disch:=first|omega|(simp;done)|(simp;omega)) [Ty.row_eq w]
  refine Zaf (fun i st=>st=⟨[(2,.sc (.ptr 64 0)),(3,.sc (.ptr 128 0)),(4,.sc (.ptr 192 0)),(5,.sc (.ptr 576 0)),(6,intV i)],
   [(64,some (.box [.c (.sl (ZaT s.slots)),.c (.sl (ZaZ s.trail))])),(128,some (.box [.c (.int .i64 w.kind),.c (.str w.name),.c (.int .i64 w.id),.c (.int .i64 w.home),.c (.sl (Ty.rows w.args))])),(192,some (.box [zi,zs,zi,zi,.nil])),
     (576,some (.box [.c (.int .i64 w.kind),.c (.str w.name),.c (.int .i64 w.id),.c (.int .i64 w.home),.arr 769 i])),(769,some (.arr 5 (wr (Ty.rows (us.take i))) 0))]⟩) w.args.length (by simp) ?_ ?_
  ·rintro i st hi rfl
   obtain ⟨x,hx⟩:=Zaa hi
   obtain ⟨u,hu,hs,_,hcu⟩:=hus i x hx
   have hlen:(us.take i).length=i:=by simp;omega
   unfold Zll
   simp (disch:=first|omega|(simp;done)|(simp;omega)) [hi,hx,hcu,hlen,ZaQ hu,-getElem?_pos]
  ·rintro st rfl
   have htk:us.take w.args.length=us:=List.take_of_length_le (by omega)
   unfold Zll
   simp (disch:=first|omega|(simp;done)|(simp;omega)) [htk,hl,Zd6,-getElem?_pos]
def SizeC (A:Zac)(n:Nat)(s:StoD)(most:Nat)(t:Ty):Prop:=∃ k:Nat,1≤k∧k≤most+1∧(K A).call 253 [stoV s,tyV t,intV most] []=some (intV k,[])∧(k≤most→SzOk A n s t k)∧∀ u,Res s t u→u.size≤most→k=u.size
theorem Zq0 {n:Nat}(s:StoD)(hs:stoOk n s):∀ (most:Nat),most≤1000000→∀ t:Ty,tyS n t→t.size≤1073741824→SizeC A n s most t:=by
 intro most
 induction most using Nat.strongRecOn with
 | ind most ih =>
 intro hm t ht hl
 obtain ⟨hw1,hw2⟩:=ZjL hs ht hl
 have hcw:=Ze5 (A:=A) s hs t ht
 obtain ⟨w,hw⟩:∃ w,w=Zbi s t:=⟨_,rfl⟩
 rw [←hw] at hw1 hw2 hcw
 have hwl:=w.args_lt
 have main:∃ r,(∃ k:Nat,1≤k∧k≤most+1∧(k≤most→SzOk A n s t k)∧(∀ u,Res s t u→u.size≤most→k=u.size)∧r=(intV k,[]))∧(K A).call 253 [stoV s,tyV t,intV most] []=some r:=by
  refine Zap _ (vf:=v253) (by kernel_rfl) rfl (by simp) ?_
  unfold v253
  simp (disch:=first|omega|(simp;done)|(simp;omega)) [hcw]
  refine Zaf (fun i st=>∃ (k:Nat) (us:List Ty),1≤k∧k≤most+1∧(k≤most→us.length=i∧(us.map Ty.size).sum+1≤k∧∀ (j:Nat) x,j<i→w.args[j]?=some x→∃ u,us[j]?=some u∧tyS n u∧Res s x u∧(K A).call 254 [stoV s,tyV x] []=some (tyV u,[])) ∧
   (∀ vs:List Ty,vs.length=w.args.length→(∀ (j:Nat) x y,w.args[j]?=some x→vs[j]?=some y→Res s x y)→1+((vs.map Ty.size).take i).sum≤most→k=1+((vs.map Ty.size).take i).sum) ∧
   st=⟨[(2,intV most),(3,.sc (.ptr 64 0)),(4,.sc (.ptr 128 0)),(7,intV k),(8,intV i)],[(64,some (.box [.c (.sl (ZaT s.slots)),.c (.sl (ZaZ s.trail))])),(128,some (.box (wc w.row)))]⟩) w.args.length
   ⟨1,[],by omega,by omega,fun _=>⟨rfl,by simp,by omega⟩,fun _ _ _ _=>by simp,by simp⟩ ?_ ?_
  ·rintro i st hi ⟨k,us,hk1,hk2,hk3,hkv,rfl⟩
   obtain ⟨x,hx⟩:=Zaa hi
   have hxm:=List.mem_of_getElem? hx
   have hxs:=Ty.arg_lt hxm
   have nx:∀ vs:List Ty,vs.length=w.args.length→∃ y,vs[i]?=some y∧((vs.map Ty.size).take (i+1)).sum=((vs.map Ty.size).take i).sum+y.size:=fun vs hv=>by
    obtain ⟨y,hy⟩:=Zaa (l:=vs) (i:=i) (by omega)
    have hym:(vs.map Ty.size)[i]?=some y.size:=by rw [List.getElem?_map,hy];rfl
    exact ⟨y,hy,by rw [ZaQ hym];simp⟩
   unfold Zmz
   by_cases hkm:k≤most
   ·obtain ⟨q1,q2,q3⟩:=hk3 hkm
    obtain ⟨k2,h1,h2,hc,h3,h4⟩:=ih (most-k) (by omega) (by omega) x (hw1.arg hxm) (by omega)
    have e1:(most:Int)-k=((most-k:Nat):Int):=by omega
    have hnext:∀ vs:List Ty,vs.length=w.args.length→(∀ (j:Nat) x y,w.args[j]?=some x→vs[j]?=some y→Res s x y)→1+((vs.map Ty.size).take (i+1)).sum≤most→k+k2=1+((vs.map Ty.size).take (i+1)).sum:=fun vs hv hr hle=>by
     obtain ⟨y,hy,hsum⟩:=nx vs hv
     have g1:=hkv vs hv hr (by omega)
     have g2:=h4 y (hr i x y hx hy) (by omega)
     omega
    simp (disch:=first|omega|(simp;done)|(simp;omega)) [hi,hkm,hx,e1,hc,-getElem?_pos]
    by_cases hle:k+k2≤most
    ·obtain ⟨u,hu1,hur,hu2,hu3⟩:=h3 (by omega)
     refine ⟨k+k2,by omega,by omega,⟨us++[u],fun _=>⟨by simp [q1],?_,?_⟩⟩,hnext,by omega⟩
     ·simp only [List.map_append,List.map_cons,List.map_nil,List.sum_append,List.sum_cons,List.sum_nil]
      omega
     ·intro j y hj hy
      by_cases hji:j<i
      ·obtain ⟨v,hv,hv2⟩:=q3 j y hji hy
       exact ⟨v,by rw [List.getElem?_append_left (by omega)];exact hv,hv2⟩
      ·obtain rfl:j=i:=by omega
       rw [hx] at hy
       cases hy
       exact ⟨u,by rw [List.getElem?_append_right (by omega),q1];simp,hu1,hur,hu3⟩
    ·exact ⟨k+k2,by omega,by omega,⟨us,fun h=>absurd h hle⟩,hnext,by omega⟩
   ·simp (disch:=first|omega|(simp;done)|(simp;omega)) [hi,hkm,-getElem?_pos]
    refine ⟨k,hk1,hk2,fun h=>absurd h hkm,fun u hu hle => ?_,by split<;>omega⟩
    cases hu with
    | mk _ vs hl hr =>
     rw [←hw] at hl hr
     rw [Ty.size_eq] at hle
     have hle':1+(vs.map Ty.size).sum≤most:=hle
     have hst:((vs.map Ty.size).take i).sum≤(vs.map Ty.size).sum:=Zdq
     have:=hkv vs hl hr (by omega)
     omega
  ·rintro st ⟨k,us,hk1,hk2,hk3,hkv,rfl⟩
   unfold Zmz
   simp (disch:=first|omega|(simp;done)|(simp;omega)) [-getElem?_pos]
   refine ⟨k,hk1,hk2,fun h => ?_,fun u hu hle => ?_,by split<;>omega⟩
   ·obtain ⟨q1,q2,q3⟩:=hk3 h
    exact Zk1 s t w hw (by omega) hw1 hcw us q1 (fun j x hx=>q3 j x (List.getElem?_eq_some_iff.1 hx).1 hx) q2
   ·cases hu with
    | mk _ vs hl hr =>
     rw [←hw] at hl hr
     rw [Ty.size_eq] at hle ⊢
     have hle':1+(vs.map Ty.size).sum≤most:=hle
     have:=hkv vs hl hr (by rw [List.take_of_length_le (by simp;omega)];exact hle')
     rw [List.take_of_length_le (by simp;omega)] at this
     exact this
 obtain ⟨_,⟨k,h1,h2,h3,h4,rfl⟩,hc⟩:=main
 exact ⟨k,h1,h2,hc,h3,h4⟩
variable {A:Zac}
theorem Zfm {n:Nat}(s:StoD)(hs:stoOk n s)(most:Nat)(hm:most≤1000000)(t:Ty)(ht:tyS n t)(hl:t.size≤1073741824):∃ k:Nat,1≤k∧k≤most+1∧(K A).call 234 [stoV s,tyV t,intV most] []=some (intV k,[])∧(k≤most→SzOk A n s t k)∧∀ u,Res s t u→u.size≤most→k=u.size:=by
 obtain ⟨k,h1,h2,hc,h3,h4⟩:=Zq0 (A:=A) s hs most hm t ht hl
 refine ⟨k,h1,h2,?_,h3,h4⟩
 refine ZaW (vf:=v234) (by kernel_rfl) rfl (by simp) ?_
 have h0:¬(most:Int)<0:=by omega
 unfold v234
 simp (disch:=first|omega|(simp;done)|(simp;omega)) [h0,hc]
def ResR (r:V × List Obj):Prop:=∃ (u:Ty)(b:Bool),u.size≤4000∧r=(.tu [tyV u,ZaG b],[])
def ResS (n:Nat)(r:V × List Obj):Prop:=∃ (u:Ty),tyS n u∧u.size≤4000∧r=(.tu [tyV u,ZaG true],[])
theorem Zj2 {n:Nat}(s:StoD)(hs:stoOk n s)(t:Ty)(ht:tyS n t)(hl:t.size≤1073741824)(v:Ty)(hv:Res s t v)(hvz:v.size≤4000):∃ r,ResS n r∧(K A).call 235 [stoV s,tyV t] []=some r:=by
 obtain ⟨k,h1,h2,hc,h3,h4⟩:=Zfm (A:=A) s hs 4000 (by omega) t ht hl
 have hkv:=h4 v hv hvz
 refine Zap _ (vf:=v235) (by kernel_rfl) rfl (by simp) ?_
 have hc':(K A).call 234 [stoV s,tyV t,intV 4000] []=some (intV k,[]):=hc
 unfold v235
 obtain ⟨u,hu1,_,hu2,hu3⟩:=h3 (by omega)
 have hk2:¬(4000:Int)<k:=by omega
 have hk3:¬4000<k:=by omega
 simp (disch:=first|omega|(simp;done)|(simp;omega)) [hc',hk2,hk3,hu3]
 exact ⟨u,hu1,by omega,rfl⟩
theorem ZkN {n:Nat}(s:StoD)(hs:stoOk n s)(t:Ty)(ht:tyS n t)(hl:t.size≤1073741824):∃ r,ResR r∧(K A).call 235 [stoV s,tyV t] []=some r:=by
 obtain ⟨k,h1,h2,hc,h3,_⟩:=Zfm (A:=A) s hs 4000 (by omega) t ht hl
 refine Zap _ (vf:=v235) (by kernel_rfl) rfl (by simp) ?_
 have hc':(K A).call 234 [stoV s,tyV t,intV 4000] []=some (intV k,[]):=hc
 unfold v235
 by_cases hk:k≤4000
 ·obtain ⟨u,hu1,_,hu2,hu3⟩:=h3 hk
  have hk2:¬(4000:Int)<k:=by omega
  have hk3:¬4000<k:=by omega
  simp (disch:=first|omega|(simp;done)|(simp;omega)) [hc',hk2,hk3,hu3]
  exact ⟨u,true,by omega,rfl⟩
 ·have hk2:(4000:Int)<k:=by omega
  have hk3:4000<k:=by omega
  simp (disch:=first|omega|(simp;done)|(simp;omega)) [hc',hk2,hk3]
  exact ⟨.mk 0 [] 0 0 [],false,by rw [Ty.size_leaf];omega,by simp [Ty.row]⟩
abbrev ZqQ (s:StoD)(ks:List Bool):List Obj:=[.box [.c (.sl (ZaT s.slots)),.c (.sl (ZaZ s.trail)),.nil,.arr 1 ks.length],.arr 1 (boOs ks) 0]
theorem Zo4 (s:StoD)(ks:List Bool)(t:Ty):tyS 0 t→t.size≤1073741824→(K A).call 302 [.sc (.ptr 0 0),tyV t] (ZqQ s ks)=some (.tu [],ZqQ s ks):=by
 induction t using Ty.ind with
 | h t ih =>
 intro ht hl
 have hk:¬t.kind=1:=fun hk=>by
  have:=ht.one.1 hk
  omega
 have hal:=t.args_lt
 refine ZaW (vf:=v302) (by kernel_rfl) rfl (by simp) ?_
 unfold v302
 simp (disch:=first|omega|(simp;done)|(simp;omega)) [hk]
 refine Zaf (fun i st=>st=⟨[(0,.sc (.ptr 0 0)),(3,.sc (.ptr 64 0)),(4,intV i)],[(0,some (.box [.c (.sl (ZaT s.slots)),.c (.sl (ZaZ s.trail)),.nil,.arr 1 ks.length])),(1,some (.arr 1 (boOs ks) 0)),(64,some (.box (wc t.row)))]⟩) t.args.length (by simp) ?_ ?_
 ·rintro i st hi rfl
  obtain ⟨x,hx⟩:=Zaa hi
  have hxs:=Ty.arg_lt (List.mem_of_getElem? hx)
  have hc:=ih x (List.mem_of_getElem? hx) (ht.arg (List.mem_of_getElem? hx)) (by omega)
  unfold Zlq
  simp (disch:=first|omega|(simp;done)|(simp;omega)) [hi,hx,hc,-getElem?_pos]
 ·rintro st rfl
  unfold Zlq
  simp (disch:=first|omega|(simp;done)|(simp;omega)) [-getElem?_pos]
theorem Zqb (s:StoD)(hs:s.slots.length≤1000)(t:Ty)(ht:tyS 0 t)(hl:t.size≤1073741824):(K A).call 297 [stoV s,tysV [t]] []=some (Zci [],[]):=by
 have hv:=Zo4 (A:=A) s (List.replicate s.slots.length false) t ht hl
 have hr2:(List.replicate s.slots.length false).length=s.slots.length:=by simp
 generalize hK0:List.replicate s.slots.length false=K0 at *
 have hg:([t]:List Ty)[0]?=some t:=rfl
 refine ZaW (vf:=v297) (by kernel_rfl) rfl (by simp) ?_
 unfold v297
 simp (disch:=first|omega|(simp;done)|(simp;omega)) [Zg6,hK0,-List.map_replicate]
 refine ZaV (fun i=>⟨[(1,tysV [t]),(5,.sc (.ptr 576 0)),(6,intV i)],[(448,some (.arr 1 (boOs K0) 0)),(576,some (.box [.c (.sl (ZaT s.slots)),.c (.sl (ZaZ s.trail)),.nil,.arr 448 s.slots.length]))]⟩) 1 ?_ ?_ ?_
 ·simp
 ·intro i hi
  obtain rfl:i=0:=by omega
  rw [ZqQ,hr2] at hv
  unfold Zlb
  simp (disch:=first|omega|(simp;done)|(simp;omega)) [hv,hg,hr2,-getElem?_pos]
 ·unfold Zlb
  simp (disch:=first|omega|(simp;done)|(simp;omega)) [Zao,-getElem?_pos]
def StoR (n T:Nat)(s0:StoD)(r:V × List Obj):Prop:=∃ (s:StoD)(e:Int),stoOk n s∧s.trail.length≤T∧ext s0 s∧r=(.tu [stoV s,intV e],[])
theorem stoOk.set {n:Nat}{s:StoD}(hs:stoOk n s){i:Nat}{x:SlotD}(hx:x.bound=true→tyS n x.ty∧x.ty.size≤1073741824∧x.ty.kind≠1){c:ChgD}(ht:s.trail.length<1000000):stoOk n ⟨s.slots.set i x,s.trail++[c]⟩:=by
 obtain ⟨h1,h2,h3,h4⟩:=hs
 refine ⟨by simp [h1],h2,by simp;omega,?_⟩
 intro y hy
 rcases List.mem_or_eq_of_mem_set hy with hy|hy
 ·exact h4 y hy
 ·exact hy▸hx
theorem Zi8 (a b c d e f g:W)(t:Ty):splice [a,b,c,d,e,f,g] 0 (wc t.row)=some [.c (.int .i64 t.kind),.c (.str t.name),.c (.int .i64 t.id),.c (.int .i64 t.home),.c (.sl (Ty.rows t.args)),f,g]:=by
 unfold splice
 rw [Ty.row_eq]
 simp
theorem Zp9 {n:Nat}(s:StoD)(hs:stoOk n s)(ht:s.trail.length<1000000)(i:Nat)(hi:i<n)(hub:∀ y,s.slots[i]?=some y→y.bound=false)(t:Ty)(hg:tyS 0 t)(hl:t.size≤1073741824):∃ r,StoR n (s.trail.length+1) s r∧(K A).call 283 [stoV s,intV i,tyV t] []=some r:=by
 have hs0:=hs
 obtain ⟨h1,h2,h3,h4⟩:=hs0
 obtain ⟨y,hy⟩:=Zaa (l:=s.slots) (i:=i) (by omega)
 have hin:i<s.slots.length:=by omega
 have hv:=Zqb (A:=A) s (by omega) t hg hl
 have hn:Ty.rows [t]=[t.row]:=by simp [Ty.rows]
 have hv:(K A).call 297 [stoV s,.sc (.c (.sl [t.row]))] []=some (Zci [],[]):=by rw [←hn];exact hv
 have hh:=Zmf (A:=A) [] (i:Int) (by simp)
 obtain ⟨_,⟨u,b,hu2,rfl⟩,hr⟩:=ZkN (A:=A) s hs t (hg.mono (Nat.zero_le _)) hl
 obtain ⟨_,⟨o2,⟨q1,q2,q3,q4⟩,rfl⟩,hq⟩:=ZhG (A:=A) [u] (by simp;omega)
 have hn2:Ty.rows [u]=[u.row]:=by simp [Ty.rows]
 have hq:(K A).call 186 [.sc (.c (.sl [u.row]))] []=some (tysV o2,[]):=by rw [←hn2];exact hq
 have q1':o2.length≤4000:=by simp at q1;omega
 have hset:=Zlc (A:=A) s (by omega) h3 i y hy ⟨true,t,y.home,y.base⟩
 rw [Zhj] at hset
 simp only at hset
 have hk1:t.kind≠1:=fun hk=>by have:=hg.one.1 hk;omega
 have same:∀ e:Int,StoR n (s.trail.length+1) s (.tu [stoV s,intV e],[]):=fun e=>⟨s,e,hs,by omega,ext.refl s,rfl⟩
 have fin:StoR n (s.trail.length+1) s (.tu [stoV ⟨s.slots.set i ⟨true,t,y.home,y.base⟩,s.trail++[⟨i,y,false⟩]⟩,intV 0],[]):=⟨_,0,hs.set (fun _=>⟨hg.mono (Nat.zero_le _),hl,hk1⟩) ht,by simp,ext.set (fun z hz hb=>by rw [hub z hz] at hb;cases hb),rfl⟩
 refine Zap _ (vf:=v283) (by kernel_rfl) rfl (by simp) ?_
 unfold v283
 simp [Zao] at hv hh
 rcases ZcO (A:=A) t with ⟨a,c,_,har⟩|har
 ·cases hb:y.base with
  | true =>
   simp (disch:=first|omega|(simp;done)|(simp;omega)) [hin,hy,hv,hh,har,hb,-getElem?_pos]
   exact same 14
  | false =>
   simp (disch:=first|omega|(simp;done)|(simp;omega)) [hin,hy,hv,hh,har,hb,hr,hq,-getElem?_pos]
   refine Zaf (fun j st=>st=⟨[(1,intV i),(3,.sc (.ptr 64 0)),(5,.sc (.ptr 128 0)),(6,.sc (.ptr 192 0)),(8,.sc (.ptr 640 0)),(9,.sc (.c (.sl []))),(15,tysV o2),(16,intV j)],
    [(64,some (.box [.c (.sl (ZaT s.slots)),.c (.sl (ZaZ s.trail))])),(128,some (.box (wc t.row))),(192,some (.box [.nil,.nil])),(640,some (.box (wc (ZbN y))))]⟩) o2.length (by simp [Zao]) ?_ ?_
   ·rintro j st hj rfl
    obtain ⟨x,hx⟩:=Zaa hj
    unfold ZhH
    by_cases hxh:x.home>y.home
    ·have hxh':y.home<x.home:=hxh
     simp (disch:=first|omega|(simp;done)|(simp;omega)) [hj,hx,hxh,hxh',-getElem?_pos]
     exact same 13
    ·have hxh':¬y.home<x.home:=hxh
     simp (disch:=first|omega|(simp;done)|(simp;omega)) [hj,hx,hxh,hxh',-getElem?_pos]
   ·rintro st rfl
    unfold ZhH
    simp (disch:=first|omega|(simp;done)|(simp;omega)) [-getElem?_pos]
    refine ZaV (fun _=>⟨[(1,intV i),(3,.sc (.ptr 64 0)),(5,.sc (.ptr 128 0)),(6,.sc (.ptr 192 0)),(8,.sc (.ptr 640 0)),(9,.sc (.c (.sl []))),(17,intV 0)],
     [(64,some (.box [.c (.sl (ZaT s.slots)),.c (.sl (ZaZ s.trail))])),(128,some (.box (wc t.row))),(192,some (.box [.nil,.nil])),(640,some (.box (wc (ZbN y))))]⟩) 0 (by simp) (fun i hi=>by omega) ?_
    unfold Zl8
    simp (disch:=first|omega|(simp;done)|(simp;omega)) [-getElem?_pos]
    refine ZaV (fun _=>⟨[(1,intV i),(3,.sc (.ptr 64 0)),(5,.sc (.ptr 128 0)),(6,.sc (.ptr 192 0)),(8,.sc (.ptr 640 0)),(9,.sc (.c (.sl []))),(18,intV 0)],
     [(64,some (.box [.c (.sl (ZaT s.slots)),.c (.sl (ZaZ s.trail))])),(128,some (.box (wc t.row))),(192,some (.box [.nil,.nil])),(640,some (.box (wc (ZbN y))))]⟩) 0 (by simp) (fun i hi=>by omega) ?_
    unfold ZnK
    rw [Zhj y]
    simp (disch:=first|omega|(simp;done)|(simp;omega)) [Zi8,hset,-getElem?_pos]
    exact fin
 ·simp (disch:=first|omega|(simp;done)|(simp;omega)) [hin,hy,hv,hh,har,hr,hq,-getElem?_pos]
  refine Zaf (fun j st=>st=⟨[(1,intV i),(3,.sc (.ptr 64 0)),(5,.sc (.ptr 128 0)),(6,.sc (.ptr 192 0)),(8,.sc (.ptr 640 0)),(9,.sc (.c (.sl []))),(15,tysV o2),(16,intV j)],
   [(64,some (.box [.c (.sl (ZaT s.slots)),.c (.sl (ZaZ s.trail))])),(128,some (.box (wc t.row))),(192,some (.box [.nil,.nil])),(640,some (.box (wc (ZbN y))))]⟩) o2.length (by simp [Zao]) ?_ ?_
  ·rintro j st hj rfl
   obtain ⟨x,hx⟩:=Zaa hj
   unfold ZhH
   by_cases hxh:x.home>y.home
   ·have hxh':y.home<x.home:=hxh
    simp (disch:=first|omega|(simp;done)|(simp;omega)) [hj,hx,hxh,hxh',-getElem?_pos]
    exact same 13
   ·have hxh':¬y.home<x.home:=hxh
    simp (disch:=first|omega|(simp;done)|(simp;omega)) [hj,hx,hxh,hxh',-getElem?_pos]
  ·rintro st rfl
   unfold ZhH
   simp (disch:=first|omega|(simp;done)|(simp;omega)) [-getElem?_pos]
   refine ZaV (fun _=>⟨[(1,intV i),(3,.sc (.ptr 64 0)),(5,.sc (.ptr 128 0)),(6,.sc (.ptr 192 0)),(8,.sc (.ptr 640 0)),(9,.sc (.c (.sl []))),(17,intV 0)],
    [(64,some (.box [.c (.sl (ZaT s.slots)),.c (.sl (ZaZ s.trail))])),(128,some (.box (wc t.row))),(192,some (.box [.nil,.nil])),(640,some (.box (wc (ZbN y))))]⟩) 0 (by simp) (fun i hi=>by omega) ?_
   unfold Zl8
   simp (disch:=first|omega|(simp;done)|(simp;omega)) [-getElem?_pos]
   refine ZaV (fun _=>⟨[(1,intV i),(3,.sc (.ptr 64 0)),(5,.sc (.ptr 128 0)),(6,.sc (.ptr 192 0)),(8,.sc (.ptr 640 0)),(9,.sc (.c (.sl []))),(18,intV 0)],
    [(64,some (.box [.c (.sl (ZaT s.slots)),.c (.sl (ZaZ s.trail))])),(128,some (.box (wc t.row))),(192,some (.box [.nil,.nil])),(640,some (.box (wc (ZbN y))))]⟩) 0 (by simp) (fun i hi=>by omega) ?_
   unfold ZnK
   rw [Zhj y]
   simp (disch:=first|omega|(simp;done)|(simp;omega)) [Zi8,hset,-getElem?_pos]
   exact fin
variable {A:Zac}
theorem ZlI (s:StoD)(t:Ty):∃ r,IffB (t.kind=1∧0≤t.id∧t.id<s.slots.length) r∧(K A).call 281 [stoV s,tyV t] []=some r:=by
 refine Zap _ (vf:=v281) (by kernel_rfl) rfl (by simp) ?_
 unfold v281
 by_cases h1:t.kind=1
 ·by_cases h2:0≤t.id
  ·by_cases h3:t.id<s.slots.length
   ·simp (disch:=first|omega|(simp;done)|(simp;omega)) [h1,h2,h3]
    exact IffB.yes trivial
   ·simp (disch:=first|omega|(simp;done)|(simp;omega)) [h1,h2,h3]
    exact IffB.no id
  ·simp (disch:=first|omega|(simp;done)|(simp;omega)) [h1,h2]
   exact IffB.no id
 ·simp (disch:=first|omega|(simp;done)|(simp;omega)) [h1]
  exact IffB.no id
theorem Zoa {n:Nat}(b:Ty):∀ (s:StoD)(a:Ty),stoOk n s→tyS n a→a.size≤1073741824→tyS 0 b→b.size≤1073741824→s.trail.length+b.size<1000000 →
 ∃ r,StoR n (s.trail.length+b.size) s r∧(K A).call 252 [stoV s,tyV a,tyV b] []=some r:=by
 induction b using Ty.ind with
 | h b ih =>
 intro s a hs ha hal hb hbl htr
 have hbn:=hb.mono (Nat.zero_le n)
 have hk1:b.kind≠1:=fun hk=>by
  have:=hb.one.1 hk
  omega
 obtain ⟨k1,_,_,hc1,_,_⟩:=Zfm (A:=A) s hs 200 (by omega) a ha hal
 obtain ⟨k2,_,_,hc2,_,_⟩:=Zfm (A:=A) s hs 200 (by omega) b hbn hbl
 obtain ⟨hx1,hx2⟩:=ZjL hs ha hal
 have hcx:=Ze5 (A:=A) s hs a ha
 obtain ⟨x,hxw⟩:∃ x,x=Zbi s a:=⟨_,rfl⟩
 rw [←hxw] at hx1 hx2 hcx
 obtain ⟨_,⟨y,_,_,hy3,rfl⟩,hcy⟩:=ZiQ (A:=A) s hs b hbn hbl
 obtain rfl:=hy3 hk1
 obtain ⟨_,⟨p,hp,rfl⟩,hsx⟩:=ZlI (A:=A) s x
 obtain ⟨_,⟨q,hq,rfl⟩,hsy⟩:=ZlI (A:=A) s y
 have hq0:q=false:=by
  cases q with
  | false=>rfl
  | true=>exact absurd (hq.1 rfl).1 hk1
 subst hq0
 have hc1':(K A).call 234 [stoV s,tyV a,intV 200] []=some (intV k1,[]):=hc1
 have hc2':(K A).call 234 [stoV s,tyV y,intV 200] []=some (intV k2,[]):=hc2
 have hbp:=y.size_pos
 have same:∀ e:Int,StoR n (s.trail.length+y.size) s (.tu [stoV s,intV e],[]):=fun e=>⟨s,e,hs,by omega,ext.refl s,rfl⟩
 refine Zap _ (vf:=v252) (by kernel_rfl) rfl (by simp) ?_
 unfold v252
 by_cases hk1':200<k1
 ·have hk1i:(200:Int)<k1:=by omega
  simp (disch:=first|omega|(simp;done)|(simp;omega)) [hc1',hk1',hk1i,-getElem?_pos]
  exact same 15
 ·have hk1i:¬(200:Int)<k1:=by omega
  by_cases hk2':200<k2
  ·have hk2i:(200:Int)<k2:=by omega
   simp (disch:=first|omega|(simp;done)|(simp;omega)) [hc1',hc2',hk1',hk1i,hk2',hk2i,-getElem?_pos]
   exact same 15
  ·have hk2i:¬(200:Int)<k2:=by omega
   cases p with
   | true =>
    obtain ⟨g1,g2,g3⟩:=hp.1 rfl
    obtain ⟨i,hi⟩:∃ i:Nat,x.id=i:=⟨x.id.toNat,by omega⟩
    have hsl:=hs.1
    obtain ⟨f1,_,i',z,f2,_,f3,f4⟩:=Ze0 hs ha (by rw [←hxw];exact g1)
    have hub:∀ y,s.slots[i]?=some y→y.bound=false:=fun y hy=>by
     rw [←hxw] at f1
     rw [←f1] at f2
     have:i'=i:=by omega
     subst this
     rw [f3] at hy
     cases hy
     exact f4
    obtain ⟨_,⟨s2,e2,h1,h2,h2e,rfl⟩,hbd⟩:=Zp9 (A:=A) s hs (by omega) i (by omega) hub y hb hbl
    simp (disch:=first|omega|(simp;done)|(simp;omega)) [hc1',hc2',hk1',hk1i,hk2',hk2i,hcx,hcy,hsx,hsy,hi,hbd,-getElem?_pos]
    exact ⟨s2,e2,h1,by omega,h2e,rfl⟩
   | false =>
    by_cases a1:x.kind=y.kind
    ·by_cases a2:x.name=y.name
     ·by_cases a3:x.id=y.id
      ·by_cases a4:x.home=y.home
       ·by_cases a5:x.args.length=y.args.length
        ·have hyl:=y.args_lt
         simp (disch:=first|omega|(simp;done)|(simp;omega)) [hc1',hc2',hk1',hk1i,hk2',hk2i,hcx,hcy,hsx,hsy,a1,a2,a3,a4,a5,-getElem?_pos]
         refine Zaf (fun j st=>∃ (s2:StoD) (e:Int),stoOk n s2∧s2.trail.length≤s.trail.length+((y.args.map Ty.size).take j).sum∧ext s s2∧st=⟨[(3,.sc (.ptr 64 0)),(6,.sc (.ptr 256 0)),(8,.sc (.ptr 1600 0)),(9,.sc (.ptr 1664 0)),(10,intV e),(11,intV j)],
          [(64,some (.box [.c (.sl (ZaT s2.slots)),.c (.sl (ZaZ s2.trail))])),(256,some (.box [.nil,.nil])),(1600,some (.box (wc x.row))),(1664,some (.box (wc y.row)))]⟩) y.args.length ⟨s,0,hs,by simp,ext.refl s,by simp⟩ ?_ ?_
         ·rintro j st hj ⟨s2,e,hs2,ht2,he2,rfl⟩
          obtain ⟨u,hu⟩:=Zaa (l:=x.args) (i:=j) (by omega)
          obtain ⟨v,hv⟩:=Zaa (l:=y.args) (i:=j) (by omega)
          have hum:=List.mem_of_getElem? hu
          have hvm:=List.mem_of_getElem? hv
          have hus:=Ty.arg_lt hum
          have hvs:=Ty.arg_lt hvm
          have hxm:(y.args.map Ty.size)[j]?=some v.size:=by rw [List.getElem?_map,hv];rfl
          have hsum:((y.args.map Ty.size).take (j+1)).sum=((y.args.map Ty.size).take j).sum+v.size:=by rw [ZaQ hxm];simp
          have hle:((y.args.map Ty.size).take (j+1)).sum≤(y.args.map Ty.size).sum:=Zdq
          have hys:=y.size_eq
          obtain ⟨_,⟨s3,e3,g1,g2,g3,rfl⟩,hc⟩:=ih v hvm s2 u hs2 (hx1.arg hum) (by omega) (hb.arg hvm) (by omega) (by omega)
          unfold Zmw
          by_cases he:e=0
          ·simp (disch:=first|omega|(simp;done)|(simp;omega)) [hj,a5,he,hu,hv,hc,-getElem?_pos]
           exact ⟨s3,g1,by omega,he2.trans g3,by simp⟩
          ·simp (disch:=first|omega|(simp;done)|(simp;omega)) [hj,a5,he,-getElem?_pos]
           exact ⟨s2,e,hs2,by omega,he2,rfl⟩
         ·rintro st ⟨s2,e,hs2,ht2,he2,rfl⟩
          have hys:=y.size_eq
          rw [List.take_of_length_le (by simp)] at ht2
          unfold Zmw
          simp (disch:=first|omega|(simp;done)|(simp;omega)) [a5,-getElem?_pos]
          exact ⟨s2,e,hs2,by omega,he2,rfl⟩
        ·have a5':¬(x.args.length:Int)=y.args.length:=by omega
         simp (disch:=first|omega|(simp;done)|(simp;omega)) [hc1',hc2',hk1',hk1i,hk2',hk2i,hcx,hcy,hsx,hsy,a1,a2,a3,a4,a5,a5',-getElem?_pos]
         exact same 11
       ·simp (disch:=first|omega|(simp;done)|(simp;omega)) [hc1',hc2',hk1',hk1i,hk2',hk2i,hcx,hcy,hsx,hsy,a1,a2,a3,a4,-getElem?_pos]
        exact same 11
      ·simp (disch:=first|omega|(simp;done)|(simp;omega)) [hc1',hc2',hk1',hk1i,hk2',hk2i,hcx,hcy,hsx,hsy,a1,a2,a3,-getElem?_pos]
       exact same 11
     ·simp (disch:=first|omega|(simp;done)|(simp;omega)) [hc1',hc2',hk1',hk1i,hk2',hk2i,hcx,hcy,hsx,hsy,a1,a2,-getElem?_pos]
      exact same 11
    ·simp (disch:=first|omega|(simp;done)|(simp;omega)) [hc1',hc2',hk1',hk1i,hk2',hk2i,hcx,hcy,hsx,hsy,a1,-getElem?_pos]
     exact same 11
variable {A:Zac}
theorem Zoi {n:Nat}(s:StoD)(a b:Ty)(hs:stoOk n s)(ha:tyS n a)(hal:a.size≤1073741824)(hb:tyS 0 b)(hbl:b.size≤1073741824)(ht:s.trail.length+b.size<1000000) :
 ∃ r,StoR n (s.trail.length+b.size) s r∧(K A).call 233 [stoV s,tyV a,tyV b] []=some r:=by
 obtain ⟨_,⟨s2,e,h1,h2,h3,rfl⟩,hc⟩:=Zoa (A:=A) b s a hs ha hal hb hbl ht
 refine Zap _ (vf:=v233) (by kernel_rfl) rfl (by simp) ?_
 unfold v233
 by_cases he:e=0
 ·simp (disch:=first|omega|(simp;done)|(simp;omega)) [hc,he,-getElem?_pos]
  exact ⟨s2,0,h1,h2,h3,rfl⟩
 ·simp (disch:=first|omega|(simp;done)|(simp;omega)) [hc,he,-getElem?_pos]
  exact ⟨s,e,hs,by omega,ext.refl s,rfl⟩
def MarkR (n T:Nat)(s0:StoD)(r:V × List Obj):Prop:=∃ s:StoD,stoOk n s∧s.trail.length≤T∧ext s0 s∧r=(stoV s,[])
theorem Zl5 {n:Nat}(s:StoD)(t:Ty)(hs:stoOk n s)(ht:tyS n t)(hl:t.size≤1073741824)(htr:s.trail.length<1000000):∃ r,MarkR n (s.trail.length+1) s r∧(K A).call 232 [stoV s,tyV t] []=some r:=by
 have hs0:=hs
 obtain ⟨h1,h2,h3,h4⟩:=hs0
 obtain ⟨_,⟨u,hu1,hu2,_,rfl⟩,hc⟩:=ZiQ (A:=A) s hs t ht hl
 refine Zap _ (vf:=v232) (by kernel_rfl) rfl (by simp) ?_
 unfold v232
 by_cases hk:u.kind=1
 ·obtain ⟨g1,g2,_⟩:=hu1.one.1 hk
  obtain ⟨i,hi⟩:∃ i:Nat,u.id=i:=⟨u.id.toNat,by omega⟩
  obtain ⟨y,hy⟩:=Zaa (l:=s.slots) (i:=i) (by omega)
  have hin:i<s.slots.length:=by omega
  have hset:=Zlc (A:=A) s (by omega) h3 i y hy ⟨y.bound,y.ty,y.home,true⟩
  rw [Zhj] at hset
  simp only at hset
  simp (disch:=first|omega|(simp;done)|(simp;omega)) [hc,hk,hi,hy,hin,-getElem?_pos]
  rw [Zhj y]
  simp (disch:=first|omega|(simp;done)|(simp;omega)) [hi,hset,-getElem?_pos]
  exact ⟨_,hs.set (i:=i) (x:=⟨y.bound,y.ty,y.home,true⟩) (h4 y (List.mem_of_getElem? hy)) (c:=⟨i,y,false⟩) htr,by simp,ext.set (fun z hz hb=>by rw [hy] at hz;cases hz;exact ⟨hb,rfl⟩),rfl⟩
 ·simp (disch:=first|omega|(simp;done)|(simp;omega)) [hc,hk,-getElem?_pos]
  exact ⟨s,hs,by omega,ext.refl s,rfl⟩
def CanonR (l:List Ty)(r:V × List Obj):Prop:=∃ (M:Nat)(l2:List Ty),l2.length=l.length∧(∀ (i:Nat) x y,l[i]?=some x→l2[i]?=some y→tyS M y∧y.size≤x.size)∧r=(tysV l2,[])
theorem ZeK {n:Nat}(l:List Ty)(h:(l.map Ty.size).sum≤1073741824)(hS:∀ t∈l,tyS n t):∃ r,CanonR l r∧(K A).call 236 [tysV l] []=some r:=by
 have hlen:=Ty.len_le l
 obtain ⟨_,⟨v,⟨g1,g2,g3⟩,rfl⟩,hv⟩:=Zhl (A:=A) (c:=0) l h hS
 refine Zap _ (vf:=v236) (by kernel_rfl) rfl (by simp) ?_
 unfold v236
 simp (disch:=first|omega|(simp;done)|(simp;omega)) [hv]
 refine Zaf (fun i st=>∃ s:List AssD,s.length=i∧(∀ (j:Nat) x,j<i→v[j]?=some x→∃ a∈s,a.id=x)∧(∀ a∈s,tyS v.length a.ty∧a.ty.size≤1) ∧
  st=⟨[(0,tysV l),(3,Zci v),(4,.sc (.arr 321 i)),(5,intV i)],[(321,some (.arr 6 (wr (ZbK s)) 0))]⟩) v.length ⟨[],rfl,by omega,by simp,by simp⟩ ?_ ?_
 ·rintro i st hi ⟨s,hs,q1,q2,rfl⟩
  obtain ⟨x,hx⟩:=Zaa hi
  have hb:=Zmg (A:=A) i
  have he:(W.c (.int .i64 x)::wc (Ty.mk 1 [] i 0 []).row)=wc (Zbn ⟨x,.mk 1 [] i 0 []⟩):=rfl
  unfold ZnI
  simp (disch:=first|omega|(simp;done)|(simp;omega)) [hi,hx,hb,he,hs,-getElem?_pos]
  refine ⟨s++[⟨x,.mk 1 [] i 0 []⟩],by simp [hs],?_,?_,by simp⟩
  ·intro j y hj hy
   by_cases hji:j<i
   ·obtain ⟨a,ha,hai⟩:=q1 j y hji hy
    exact ⟨a,by simp [ha],hai⟩
   ·obtain rfl:j=i:=by omega
    rw [hx] at hy
    cases hy
    exact ⟨_,List.mem_append.2 (.inr (List.mem_singleton.2 rfl)),rfl⟩
  ·intro a ha
   rcases List.mem_append.1 ha with ha|ha
   ·exact q2 a ha
   ·simp only [List.mem_singleton] at ha
    subst ha
    exact ⟨ZfD hi,by simp [Ty.size_leaf]⟩
 ·rintro st ⟨s,hs,q1,q2,rfl⟩
  unfold ZnI
  simp (disch:=first|omega|(simp;done)|(simp;omega)) [-getElem?_pos]
  refine Zaf (fun i st=>∃ p:Nat,st=⟨[(0,tysV l),(4,.sc (.arr 321 v.length)),(6,.sc (.arr 1601 i)),(7,intV i)],[(321,some (.arr 6 (wr (ZbK s)) p)),(1601,some (.arr 5 (wr (Ty.rows ((l.map (ZbW s)).take i))) 0))]⟩) l.length ⟨0,by simp⟩ ?_ ?_
  ·rintro i st hi ⟨p,rfl⟩
   obtain ⟨x,hx⟩:=Zaa hi
   have hxm:=List.mem_of_getElem? hx
   have hxs:=Zee (List.mem_map_of_mem (f:=Ty.size) hxm)
   have hc:=ZcI (A:=A) s (by omega) x (by omega)
   have hmx:(l.map (ZbW s))[i]?=some (ZbW s x):=by rw [List.getElem?_map,hx];rfl
   have hlen2:((l.map (ZbW s)).take i).length=i:=by simp;omega
   unfold Zmk
   simp (disch:=first|omega|(simp;done)|(simp;omega)) [hi,hx,hc,hs,hlen2,ZaQ hmx,-getElem?_pos]
  ·rintro st ⟨p,rfl⟩
   have htk:(l.map (ZbW s)).take l.length=l.map (ZbW s):=List.take_of_length_le (by simp)
   unfold Zmk
   simp (disch:=first|omega|(simp;done)|(simp;omega)) [htk,-getElem?_pos]
   refine ⟨v.length,l.map (ZbW s),by simp,?_,rfl⟩
   intro i x y hx hy
   rw [List.getElem?_map,hx] at hy
   cases hy
   have hxm:=List.mem_of_getElem? hx
   refine ⟨ZiY (c:=0) (l:=v) (fun i hi => ?_) (fun a ha=>(q2 a ha).1) (hS x hxm) (g2 x hxm),?_⟩
   ·obtain ⟨j,hj,he⟩:=List.getElem_of_mem hi
    exact q1 j i hj (by rw [List.getElem?_eq_getElem hj,he])
   ·have:=Zex (Nat.le_refl 1) (fun a ha=>(q2 a ha).2) x
    omega
variable {A:Zac}
@[simp] theorem cut_n2 (e:EntD):cut (Zba e) 2 5=some e.ty.row:=by rw [Zba,Ty.row_eq];rfl
theorem Zo8 (s:List AssD)(hs:s.length≤1073741824)(t:Ty)(hl:t.size≤1073741824):(K A).call 215 [ZdI s,tyV t] []=some (tyV (ZbW s t),[]):=by
 have hc:=ZcI (A:=A) s hs t hl
 refine ZaW (vf:=v215) (by kernel_rfl) rfl (by simp) ?_
 unfold v215
 simp (disch:=first|omega|(simp;done)|(simp;omega)) [hc]
theorem Zf0 (s:List AssD)(hs:s.length≤1073741824)(c:Int)(t:Ty)(hl:t.size≤1073741824):(K A).call 192 [ZdI s,schV c t] []=some (schV c (ZbW s t),[]):=by
 have hc:=Zo8 (A:=A) s hs t hl
 refine ZaW (vf:=v192) (by kernel_rfl) rfl (by simp) ?_
 unfold v192
 simp (disch:=first|omega|(simp;done)|(simp;omega)) [ZaI,hc]
theorem ZlN {l:List Ty}{m:Nat}(h:∀ x∈l,x.size≤m){k:Nat}(hl:l.length≤k):(l.map Ty.size).sum≤k*m :=
 Nat.le_trans (ZcZ h) (Nat.mul_le_mul_right m hl)
theorem Zn3 {n m:Nat}(hn:n≤1000000)(ctx:List EntD)(hctx:ctxOk n m ctx)(goal:Ty)(hg:tyS 0 goal)(hb:goal.size+n*m≤1073741824) :
 (K A).call 190 [tyV goal,Zbv ctx,.sc (.c (.sl []))] []=some (.tu [stoV ⟨[],[]⟩,ZdI []],[]):=by
 obtain ⟨hc1,hc2⟩:=hctx
 have hs:=ZlK (A:=A) ctx (by omega)
 have hsl:=ZcR ctx ctx.length
 have hsub:=Zcg ctx ctx.length
 generalize ZbQ ctx ctx.length=l at *
 have hnew:=new213 (A:=A)
 refine ZaW (vf:=v190) (by kernel_rfl) rfl (by simp) ?_
 unfold v190
 simp (disch:=first|omega|(simp;done)|(simp;omega)) [hs]
 refine ZaV (fun i=>⟨[(2,.sc (.c (.sl []))),(3,.sc (.ptr 64 0)),(6,.sc (.ptr 128 0)),(8,.sc (.arr 257 i)),(9,Zbv l),(10,intV i)],
  [(64,some (.box (wc goal.row))),(128,some (.box [.nil,.nil])),(257,some (.arr 5 (wr (Ty.rows ((l.map EntD.ty).take i))) 0))]⟩) l.length (by simp) ?_ ?_
 ·intro i hi
  obtain ⟨x,hx⟩:=Zaa hi
  have hmx:(l.map EntD.ty)[i]?=some x.ty:=by rw [List.getElem?_map,hx];rfl
  have hlen2:((l.map EntD.ty).take i).length=i:=by simp;omega
  unfold Zmu
  simp (disch:=first|omega|(simp;done)|(simp;omega)) [hi,hx,hlen2,ZaQ hmx,-getElem?_pos]
 ·have htk:(l.map EntD.ty).take l.length=l.map EntD.ty:=List.take_of_length_le (by simp)
  have hty:∀ x∈l.map EntD.ty,tyB 0 900 x∧x.size≤m:=by
   intro x hx
   obtain ⟨e,he,rfl⟩:=List.mem_map.1 hx
   obtain ⟨_,⟨c,hc,hcl⟩,x3,x4⟩:=hc2 e (hsub e he)
   exact ⟨x3.mono (Nat.le_refl 0) (by omega),x4⟩
  have hsz:=ZlN (fun x hx=>(hty x hx).2) (show (l.map EntD.ty).length≤n by simp;omega)
  obtain ⟨_,⟨v,⟨g1,g2,g3⟩,rfl⟩,hv⟩:=Zhl (A:=A) (n:=0) (c:=900) (goal::l.map EntD.ty) (by simp only [List.map_cons,List.sum_cons];omega) (by
   intro x hx
   rcases List.mem_cons.1 hx with rfl|hx
   ·exact hg.up
   ·exact (hty x hx).1)
  have hv0:v=[]:=by
   cases v with
   | nil=>rfl
   | cons a r=>have:=g3 a (by simp);omega
  subst hv0
  have hrow:Ty.rows (goal::l.map EntD.ty)=goal.row::Ty.rows (l.map EntD.ty):=by rw [Ty.rows]
  rw [tysV,hrow] at hv
  have hcomm:(l.length+1 == 1+l.length)=true:=by simp;omega
  simp only [Zci,Zao,List.map_nil] at hv
  unfold Zmu
  simp (disch:=first|omega|(simp;done)|(simp;omega)) [htk,hv,hcomm,hnew,-getElem?_pos]
  refine ZaV (fun _=>⟨[(2,.sc (.c (.sl []))),(6,.sc (.ptr 128 0)),(11,.sc (.c (.sl []))),(12,.sc (.ptr 2112 0)),(13,.sc (.arr 2241 0)),(14,intV 0)],
   [(128,some (.box [.nil,.nil])),(257,some (.arr 5 (wr (Ty.rows (l.map EntD.ty))) 0)),(1728,some (.arr 5 (wc goal.row::wr (Ty.rows (l.map EntD.ty))) (l.length+1))),(2112,some (.box [.c (.sl []),.c (.sl [])])),(2241,some (.arr 6 [] 0))]⟩) 0 rfl (fun i hi=>by omega) ?_
  unfold Zpn
  simp (disch:=first|omega|(simp;done)|(simp;omega)) [-getElem?_pos]
end Go.Vs.Tryz
