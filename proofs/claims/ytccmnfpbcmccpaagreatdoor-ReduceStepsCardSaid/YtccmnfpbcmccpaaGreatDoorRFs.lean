/- names.Fresh, walked: the n-th name that is not taken, whatever is taken. -/
import Derived.Test.YtccmnfpbcmccpaaGreatDoorREs
set_option linter.unusedSimpArgs false
set_option linter.unusedVariables false
set_option linter.deprecated false
set_option maxRecDepth 9999
set_option maxHeartbeats 8000000
namespace Go.Vs.Tryz
open Go Go.Vs
variable {A:Zab}
theorem ZnK {taken:List Str}{l:List Nat}(hl:ZjO l)(hpos:∀x∈l,1<=x)(n:Nat)(hmem:∀k,k<=n+1+l.length->(k∈l↔1<=k/\Zbj k∈taken)):l.foldl bump (n+1)=ZaW n taken:=by
 obtain⟨h1,h2⟩:=Zoj hl n l.length (qe _);rw[qaO]at h1 h2;generalize l.foldl bump (n+1)=k at h1 h2;have hbl:ZhA l k<=l.length:=List.length_filter_le ..;have hk1:1<=k:=by omega
 have hkb:k<=n+1+l.length:=by omega
 refine(ZeL hk1 (fun h=>h2 ((hmem k hkb).2 ⟨hk1,h⟩)) ?_).symm;have key:∀b,1<=b->b<=k->Zd9 taken 1 b+ZhA l b=b-1:=by
  intro b hb hbk
  induction b with
  |zero=>omega
  |succ b ih=>
   rcases Nat.eq_zero_or_pos b with h0|h0
   .subst h0
    rw[ZgI];unfold ZhA;simp only[qaP,qaX,qaV,qL,List.filter_eq_nil_iff];intro x hx;have:=hpos x hx;simp only[decide_eq_true_eq];omega
   .have ih:Zd9 taken 1 b+ZhA l b=b-1:=ih h0 (by omega)
    have h9:b+1-1=b:=(by omega);rw[h9];rw[ZcH _ _ _ (show 1<=b from h0),ZjH (ZlQ hl)];by_cases hb:Zbj b∈taken
    .rw [if_neg (by simpa using hb),if_pos ((hmem b (by omega)).2 ⟨h0,hb⟩)]
     omega
    .rw [if_pos hb,if_neg (fun h=>hb ((hmem b (by omega)).1 h).2)]
     omega
 have:=key k hk1 (qe _);omega
def Zjh (taken:List Str):List Nat:=taken.filterMap numT
theorem ZlH (taken:List Str):(Zjh taken).length<=taken.length:=List.length_filterMap_le ..
theorem Zqo {taken:List Str}{r:Nat}{s:Str}(h:taken[r]?=some s):Zjh (taken.take (r+1))=Zjh (taken.take r)++(numT s).toList:=by
 unfold Zjh;rw[Zam h,List.filterMap_append];cases hn:numT s<;>simp[hn]
abbrev F28 (n:Int)(taken:List Str)(r:Nat)(u:List Nat):St:=⟨[(0,intV n),(5,.sc (.arr 129 u.length)),(15,Za3 taken),(16,intV taken.length),(17,intV r)],[(129,some (arrU u))]⟩
theorem ZAM (n:Int)(taken:List Str)(ht:taken.length<=1073741824)(hs:∀s∈taken,s.length<=281474976710656){r:Nat}{s:Str}(hr:taken[r]?=some s)(u:List Nat)(hu:u.length<=r)(Q:Ex->St->Prop)
 (hQ:Q .normal (F28 n taken (r+1) (u++(numT s).toList))):wp (K A) Zlz Q (F28 n taken r u):=by
 have hrl:r<taken.length:=(qd.1 hr).1;have hsl:=hs s (qa hr);have hc:=cut73 (A:=A) s hsl;have hcl:=ZxV s;obtain⟨_,hp,hcall⟩:=Zzy (A:=A) (cutV s).1 (by omega);have hrI:(r:Int)<taken.length:=by omega
 unfold numT at hQ;generalize cutV s=cv at *
 obtain⟨dg,is⟩:=cv;simp only at *
 generalize hpd:ZeY dg=p at *
 have hlt:∀k,p=.ok k->k<18446744073709551616:=by
  intro k hk;rw[hk]at hpd;unfold ZeY at hpd;split at hpd
  .cases hpd
  .exact ZhV _ 0 _ (by omega) hpd
 unfold Zlz;cases p with
 |ok k=>
  simp only[Par]at hp;subst hp;have hk:=hlt k rfl;have hf:=ZyD (A:=A) k hk;cases is with
  |false=>
   simp only[qE,if_false,Option.toList_none,qF]at hQ;simp(maxSteps:=4000000) (disch:=first|exact zd|fail) [hr,hrl,hrI,hc,hcall,hf,-getElem?_pos];exact hQ
  |true=>
   simp only[if_true]at hQ;by_cases hk0:0<k
   .have hk0I:(0:Int)<k:=by omega
    by_cases hd:numS k=dg
    .rw [if_pos ⟨hk0,hd⟩] at hQ
     have e1:(u++[k]).length=u.length+1:=(by simp);simp only[Option.toList_some,F28,e1]at hQ;simp(maxSteps:=4000000) (disch:=first|exact zd|fail) [hr,hrl,hrI,hc,hcall,hf,hk0,hk0I,hd,-getElem?_pos];exact hQ
    .rw [if_neg (fun h=>hd h.2)] at hQ
     simp only[Option.toList_none,qF]at hQ;simp(maxSteps:=4000000) (disch:=first|exact zd|fail) [hr,hrl,hrI,hc,hcall,hf,hk0,hk0I,hd,-getElem?_pos];exact hQ
   .obtain rfl:k=0:=by omega
    rw[if_neg (fun h=>hk0 h.1)]at hQ;simp only[Option.toList_none,qF]at hQ;simp(maxSteps:=4000000) (disch:=first|exact zd|fail) [hr,hrl,hrI,hc,hcall,hf,-getElem?_pos];exact hQ
 |syn=>
  simp only[Par]at hp;obtain⟨x,bl,rfl⟩:=hp;have hQ':Q .normal (F28 n taken (r+1) u):=by cases is<;>simpa using hQ
  cases is <;>
  (simp (maxSteps:=4000000) (disch:=first|exact zd|fail) [hr,hrl,hrI,hc,hcall,V.ren,-getElem?_pos]
   exact hQ')
 |rng=>
  simp only[Par]at hp;obtain⟨x,bl,rfl⟩:=hp;have hQ':Q .normal (F28 n taken (r+1) u):=by cases is<;>simpa using hQ
  cases is <;>
  (simp (maxSteps:=4000000) (disch:=first|exact zd|fail) [hr,hrl,hrI,hc,hcall,V.ren,-getElem?_pos]
   exact hQ')
def CompV (n q:Nat)(v:V):Prop:=(q=n/\v=.sc (.arr 129 n))\/v=.sc (.vw 129 n 0 q)
theorem fold28 (l d:List Nat)(q:Nat)(hq:d.take q=l)(hql:q<=d.length)(hl:d.length<=1073741824)(k0:Nat)(hk0:k0<=1073741824){v:V}(hv:CompV d.length q v):
 wp (K A) (.loop ZoB) (fun x s'=>x=.exit 2/\s'=⟨[(12,u64V (l.foldl bump k0)),(58,v),(59,intV q),(60,intV q),(61,Zae false)],[(129,some (arrU d))]⟩)
  ⟨[(12,u64V k0),(58,v),(59,intV q),(60,intV 0)],[(129,some (arrU d))]⟩:=by
 have hll:l.length=q:=by rw[<-hq];simp;omega
 refine Zad (fun r s=>(l.take r).foldl bump k0<=k0+r/\s=⟨[(12,u64V ((l.take r).foldl bump k0)),(58,v),(59,intV q),(60,intV r)],[(129,some (arrU d))]⟩) q ⟨by simp,by simp⟩ ?_ ?_
 .rintro r s hr ⟨hb,rfl⟩
  obtain⟨x,hx⟩:=Zaa (l:=l) (i:=r) (by omega);have hxd:d[r]?=some x:=by
   rw[<-hq,qW,if_pos hr]at hx;exact hx
  have hstep:(l.take (r+1)).foldl bump k0=bump ((l.take r).foldl bump k0) x:=by
   rw[Zam hx,qaS];rfl
  have hrI:(r:Int)<q:=by omega
  have hrd:r<d.length:=by omega
  rw[hstep];generalize (l.take r).foldl bump k0=k at *
  unfold bump;unfold ZoB;by_cases hxk:x<=k
  .have hw:IntKind.u64.wrap ((k:Int)+1)=((k+1:Nat):Int):=Zba (k+1) (by omega)
   rw[if_pos hxk];rcases hv with ⟨rfl,rfl⟩|rfl <;>
   (simp (maxSteps:=4000000) (disch:=first|exact zd|fail) [hr,hrI,hql,hxd,hrd,hxk,-getElem?_pos]
    try omega)
  .rw [if_neg hxk]
   rcases hv with ⟨rfl,rfl⟩|rfl <;>
   (simp (maxSteps:=4000000) (disch:=first|exact zd|fail) [hr,hrI,hql,hxd,hrd,hxk,-getElem?_pos]
    try omega)
 .rintro s ⟨hb,rfl⟩
  rw[show l.take q=l by rw[qf (by omega)]];unfold ZoB;simp(maxSteps:=4000000) (disch:=first|exact zd|fail) [-getElem?_pos]
theorem Zuc (z:Int)(n:Nat)(hz:(n:Int)=max z 0)(hz1:-536870912<=z)(taken:List Str)(hn:n<=536870912)(ht:taken.length<=536870912)(hs:∀s∈taken,s.length<=281474976710656):
 (K A).call 207 [intV z,Za3 taken] []=some (strV (Zat n taken),[]):=by
 refine fnO v207 ?_;have hul:=ZlH taken;obtain⟨_,⟨d,hsort,rfl⟩,hc76⟩:=Zz8 (A:=A) (Zjh taken) (by omega);have hdl:d.length=(Zjh taken).length:=hsort.len;obtain⟨_,⟨q,d',hd',hq,htk,hres⟩,hc77⟩:=Zrt (A:=A) d (by omega);have hsd:Zk8 0 d.length d:=by rw[hdl];exact hsort.2.2
 have hasc:=Zhj hsd d.length;have hmemD:∀k,k∈Zcc d d.length↔k∈Zjh taken:=by
  intro k;rw[ZiF,<-hsort.1.mem_iff];constructor
  .rintro ⟨j,_,hj⟩
   exact qa hj
  .intro h
   obtain⟨j,hj⟩:=qk.1 h;exact⟨j,(qd.1 hj).1,hj⟩
 have hlen:=ZlJ d d.length;have hfold:(Zcc d d.length).foldl bump (n+1)=ZaW n taken:=by
  refine ZnK hasc (fun x hx=>?_) n (fun k hk=>?_)
  .obtain ⟨s,_,h2⟩:=List.mem_filterMap.1 ((hmemD x).1 hx)
   exact((Zkr (Zu7 h2)).1 h2).1
  .rw [hmemD]
   constructor
   .intro h
    obtain⟨s,h1,h2⟩:=List.mem_filterMap.1 h;obtain⟨h3,h4⟩:=(Zkr (Zu7 h2)).1 h2;exact⟨h3,by rw[h4];exact h1⟩
   .rintro ⟨h1,h2⟩
    exact List.mem_filterMap.2 ⟨Zbj k,h2,(Zkr (by omega)).2 ⟨h1,rfl⟩⟩
 have hkle:=ZfU n taken;generalize hu:Zjh taken=used at *
 generalize hl:Zcc d d.length=l at *
 have hmx:(if (0:Int)>z then (0:Int) else z)=n:=by split<;>omega
 have hmx2:(if z<(0:Int) then (0:Int) else z)=n:=by split<;>omega
 have hfmt:=ZyD (A:=A) (ZaW n taken) (by omega);have hnl:=Zfi (ZaW n taken) 20 (by omega) (by omega);unfold v207;simp(maxSteps:=4000000) (disch:=first|exact zd|fail) [-getElem?_pos];refine Zad (fun r s=>s=F28 z taken r (Zjh (taken.take r))) taken.length (by simp[F28,Zjh];rfl) ?_ ?_
 .rintro r s hr rfl
  obtain⟨s,hsr⟩:=Zaa (l:=taken) (i:=r) hr;have hul:=ZlH (taken.take r);refine ZAM (A:=A) z taken (by omega) hs hsr _ (by simp at hul;omega) _ ?_;exact .inl ⟨rfl,by rw[Zqo hsr]⟩
 .rintro s rfl
  rw[qaO,hu];have hul1:(used:List Nat).length<=536870912:=by omega
  rw[<-hdl]at hc76;have hn1:IntKind.u64.wrap (n:Int)=(n:Int):=Zba n (by omega);have hn2:IntKind.u64.wrap ((n:Int)+1)=((n+1:Nat):Int):=Zba (n+1) (by omega);have hf:=fun v hv=>fold28 (A:=A) l d' q htk (by omega) (by omega) (n+1) (by omega) (v:=v) hv;rw[hfold,hd']at hf;have hd'l:d'.length=d.length:=hd';have hqI:q<=d.length:=hq
  have hF:F28 z taken taken.length used=⟨[(0,intV z),(5,.sc (.arr 129 d.length)),(15,Za3 taken),(16,intV taken.length),(17,intV taken.length)],[(129,some (arrU used))]⟩:=by rw[hdl]
  rw[hF];have hv:∀r:Str,Zat n taken=118::numS (ZaW n taken):=fun _=>rfl;have hvs:Zat n taken=118::numS (ZaW n taken):=rfl;rw[hvs];generalize ZaW n taken=k at *
  generalize numS k=S at *
  generalize hdN:d.length=N at *
  unfold Zlz;rcases hres with ⟨rfl,rfl⟩|rfl
  .have hf1:=hf _ (.inl ⟨rfl,rfl⟩)
   simp(maxSteps:=4000000) (disch:=first|exact zd|fail) [hc76,hc77,hmx,hmx2,hn1,hn2,hdl.symm,hdN,hd'l,retV,V.ren,-getElem?_pos];refine ZaU hf1 ?_;rintro _ _ ⟨rfl,rfl⟩;simp(maxSteps:=4000000) (disch:=first|exact zd|fail) [hfmt,-getElem?_pos]
  .have hf1:=hf _ (.inr rfl)
   obtain⟨cs,hcut⟩:=Zs2 (l:=wr (ZbP d')) (o:=0) (n:=q) (by simp;omega);simp(maxSteps:=4000000) (disch:=first|exact zd|fail) [hc76,hc77,hmx,hmx2,hn1,hn2,hdl.symm,hdN,hd'l,hqI,hcut,retV,V.ren,-getElem?_pos];refine ZaU hf1 ?_;rintro _ _ ⟨rfl,rfl⟩;simp(maxSteps:=4000000) (disch:=first|exact zd|fail) [hfmt,-getElem?_pos]
end Go.Vs.Tryz
namespace Go.Vs
end Go.Vs
namespace Go.Vs.Tryz
open Go Go.Vs
variable {A:Zab}
def nmAt (taken:List Str)(e:Exp)(n:Nat):Nat->Str
 |0=>e.name
 |i+1=>if e.kind≠8/\e.bound i≠[] then Zat n taken else nmAt taken e n i
def armsAt (taken:List Str)(e:Exp)(n i:Nat):List (ArmH×Exp):=(Zzs taken n e.arms).take (i-e.kids.length)++e.arms.drop (i-e.kids.length)
theorem Zq0 (e:Exp):ZaX e.arms (e.children.drop e.kids.length)=e.arms:=by
 have:e.children.drop e.kids.length=e.arms.map (·.2):=by simp[Exp.children]
 rw[this];unfold ZaX;refine qC fun j=>?_;rw[qah,qi];cases e.arms[j]?<;>rfl
theorem Ztq (e:Exp):e.children.take e.kids.length=e.kids:=by simp[Exp.children]
abbrev D93 (l:List (Str×Str))(taken:List Str)(N i:Nat):Env:=[(1,pairsV l),(2,Za3 taken),(3,.sc (.ptr 64 0)),(6,.sc (.ptr 128 0)),(9,.sc (.arr 1440 N)),(10,.sc (.ptr 1728 0)),(39,.sc (.arr 1440 N)),(40,intV N),(41,intV i)]
variable {A:Zab}
theorem Zsb {l:List Str}(h:l≠[]):∃c rows,Zai l=c::rows:=by
 cases l with
 |nil=>exact absurd rfl h
 |cons e r=>exact⟨ZeN e,Zai r,rfl⟩
theorem ZzD (l:List Str)(hl:l.length<=4294967296):(K A).call 244 [Za3 l] []=some (.sc (.arr 0 l.length),[.arr 1 (wr (Zai l)) 0]):=by
 by_cases h:l=[]
 .subst h
  exact ZlV (by kernel_rfl) (by kernel_rfl) (by kernel_rfl) (by kernel_rfl)
 .obtain ⟨c,rows,hr⟩:=Zsb h
  have hlen:rows.length+1=l.length:=by
   have:=strRows_len l;rw[hr]at this;simpa using this
  have hok:Zbb 1 (wr (c::rows))=true:=hr▸okRows_str l;have hp:Za3 l=V.sc (.c (.sl (c::rows))):=by rw[<-hr]
  rw[hr,hp,ZgO (by kernel_rfl) (by kernel_rfl)];refine ZkX (vf:=v244) (by kernel_rfl) rfl (by decide) ?_;unfold v244;rw[wr_cons]at hok;simp(disch:=first|exact zd|fail) [hok];omega
theorem ZrS {e:Exp}(h:e.kind≠8)(i:Nat):e.bound i=[]\/e.bound i=[e.name]:=by
 unfold Exp.bound;split
 .exact .inr rfl
 .rw [if_neg (fun c=>h c.1)]
  exact .inl rfl
def Za6 (e:Exp)(cs:List Exp):Exp:=.mk e.kind e.pos e.name e.num (cs.take e.kids.length) (ZaX e.arms (cs.drop e.kids.length)) e.ty
theorem ZaQ {e:Exp}{cs:List Exp}(h:cs.length=e.kids.length+e.arms.length):
 (Za6 e cs).kids.length=e.kids.length/\(Za6 e cs).arms.length=e.arms.length/\(Za6 e cs).children=cs/\(∀i:Nat,((Za6 e cs).arms[i]?).map (·.1)=(e.arms[i]?).map (·.1)):=by
 have hal:(ZaX e.arms (cs.drop e.kids.length)).length=e.arms.length:=by simp_all
 refine⟨?_,hal,?_,fun i=>?_⟩
 .show (cs.take e.kids.length).length=_
  grind
 .show cs.take e.kids.length++(ZaX e.arms (cs.drop e.kids.length)).map (·.2)=cs
  have:(ZaX e.arms (cs.drop e.kids.length)).map (·.2)=cs.drop e.kids.length:=by
   grind[ZaX,ZtB]
  simp_all
 .show ((ZaX e.arms (cs.drop e.kids.length))[i]?).map (·.1)=_
  grind[ZaX]
theorem ZgY {e:Exp}{cs:List Exp}(h:cs.length=e.kids.length+e.arms.length)(i:Nat):(Za6 e cs).bound i=e.bound i:=by
 have h4:=(ZaQ h).2.2.2 (i-1);rw[ZaM,ZaM];have k:(Za6 e cs).kind=e.kind:=rfl;have n:(Za6 e cs).name=e.name:=rfl;grind
theorem Zje {e:Exp}{cs:List Exp}(h:cs.length=e.kids.length+e.arms.length):headEq e (Za6 e cs)/\ZiC e (Za6 e cs):=by
 obtain⟨h1,h2,h3,h4⟩:=ZaQ h;refine⟨⟨rfl,rfl,rfl,h1.symm,h2.symm⟩,fun i p q hp hq=>?_⟩;grind
theorem ZvT (e:Exp):Za6 e e.children=e:=by
 unfold Za6;rw[Ztq,Zq0];cases e;rfl
theorem ZkI {e:Exp}{cs:List Exp}(h:cs.length=e.kids.length+e.arms.length)(hk:e.kind≠1)(hs:shp1 e)(hc:∀c∈cs,shp c):shp (Za6 e cs):=by
 rw[ZeC];exact⟨(Zje h).1.shp1 hk hs,by grind[ZaQ]⟩
theorem ZhT {e:Exp}{cs:List Exp}(h:cs.length=e.kids.length+e.arms.length):(Za6 e cs).weight=1+(e.arms.map fun a=>a.1.vars.length).sum+(cs.map Exp.weight).sum:=by
 obtain⟨h1,h2,h3,h4⟩:=ZaQ h;rw[Exp.weight_eq,h3];congr 2;congr 1;refine qC fun i=>?_;grind
def allF (e:Exp)(l:List (List Str)):List Str:=e.name::(l.zipIdx.map fun p=>e.bound p.2++p.1).flatten
def allP (e:Exp):List Str:=e.fold allF
theorem Zsh (e:Exp):allP e=e.name::((e.children.map allP).zipIdx.map fun p=>e.bound p.2++p.1).flatten:=Exp.fold_eq _ e
theorem ZaH {e:Exp}{s:Str}:s∈allP e↔s=e.name\/∃(i:Nat) (x:Exp),e.children[i]?=some x/\(s∈e.bound i\/s∈allP x):=by
 rw[Zsh,qz];refine or_congr_right ?_;rw[List.mem_flatten];constructor;grind
 .rintro ⟨i,x,hx,hs⟩
  refine⟨e.bound i++allP x,qH.2 ⟨(allP x,i),qaT.2 ?_,rfl⟩,ql.2 hs⟩;grind
theorem Ziw (e:Exp):∀s∈Zaf e,s∈allP e:=by
 induction e using Exp.ind<;>grind[ZaZ,ZaH,Zbs]
def Zgl (frm to:Str)(e:Exp)(l:List Exp):Exp:=
 if e.kind=1 then (if e.name=frm then .mk e.kind e.pos to e.num e.kids e.arms e.ty else e)
 else Za6 e ((e.children.zip l).zipIdx.map fun p=>if frm∈e.bound p.2 then p.1.1 else p.1.2)
def repl (frm to:Str)(e:Exp):Exp:=e.fold (Zgl frm to)
def ZfH (frm to:Str)(e:Exp):List Exp:=e.children.zipIdx.map fun p=>if frm∈e.bound p.2 then p.1 else repl frm to p.1
@[simp] theorem replC_len (frm to:Str) (e:Exp):(ZfH frm to e).length=e.kids.length+e.arms.length:=by simp[ZfH]
theorem Zca {frm to:Str}{e x:Exp}{i:Nat}(h:e.children[i]?=some x):(ZfH frm to e)[i]?=some (if frm∈e.bound i then x else repl frm to x):=by
 simp[ZfH,h]
theorem Zde {frm to:Str}{e:Exp}(h:e.kind=1):repl frm to e=if e.name=frm then .mk e.kind e.pos to e.num e.kids e.arms e.ty else e:=by
 grind[repl,Exp.fold_eq,Zgl]
theorem Zef {frm to:Str}{e:Exp}(h:e.kind≠1):repl frm to e=Za6 e (ZfH frm to e):=by
 unfold repl;rw[Exp.fold_eq,Zgl,if_neg h];congr 1;refine qC fun i=>?_;rw[qi,qat];by_cases hi:i<e.children.length
 .obtain ⟨x,hx⟩:=Zaa hi
  have hz:(e.children.zip (e.children.map (Exp.fold (Zgl frm to))))[i]?=some (x,repl frm to x):=by
   rw[List.getElem?_zip_eq_some];exact⟨hx,by rw[qi,hx];rfl⟩
  grind[Zca]
 simp_all
theorem Zfv (frm to:Str)(e:Exp):(repl frm to e).weight=e.weight:=by
 induction e using Exp.ind with
 |h e ih=>
  by_cases hk:e.kind=1
  .rw [Zde hk]
   split
   .rw [Exp.weight_eq,e.weight_eq]
    rfl
   .rfl
  .rw [Zef hk,ZhT (replC_len _ _ _),e.weight_eq]
   congr 1;congr 1;refine qC fun i=>?_;rw[qi,qi];by_cases hi:i<e.children.length;grind[Zca];simp_all
theorem Zko (frm to:Str)(e:Exp):shp e->shp (repl frm to e):=by
 induction e using Exp.ind with
 |h e ih=>
  intro hs;by_cases hk:e.kind=1
  .rw [Zde hk]
   split
   .rw [ZeC]
    exact⟨hs.one,fun x hx=>hs.child hx⟩
   omega
  .rw [Zef hk]
   refine ZkI (replC_len _ _ _) hk hs.one fun c hc=>?_;obtain⟨i,hi⟩:=qk.1 hc;obtain⟨x,hx⟩:=Zaa (l:=e.children) (i:=i) (by have:=(qd.1 hi).1;simp_all);rw[Zca hx]at hi;cases hi;have hm:=qa hx;split
   .exact hs.child hm
   .exact ih x hm (hs.child hm)
def renV (frm to:Str):Rep:=ofR fun s t=>t=if s=frm then to else s
theorem ZiV (frm to:Str)(e:Exp):shp e->to∉allP e->instR e (repl frm to e) (renV frm to):=by
 induction e using Exp.ind with
 |h e ih=>
  intro hs hn;by_cases hk:e.kind=1
  .obtain ⟨a1,a2,a3⟩:=Ze3 hs.one.1 hk
   obtain⟨n,t⟩:=hs.one.2.1 hk;rw[Zde hk];refine .mkVar hk ?_;by_cases hf:e.name=frm
   .rw [if_pos hf]
    exact⟨to,(if_pos hf).symm,hk,rfl,n,t,a1,a2⟩
   .rw [if_neg hf]
    exact⟨e.name,(if_neg hf).symm,hk,rfl,n,t,a1,a2⟩
  .rw [Zef hk]
   obtain⟨h1,h2⟩:=Zje (replC_len frm to e);refine .mk hk ⟨h1,fun _=>rfl,h2,fun i x y hx hy=>?_⟩;rw[(ZaQ (replC_len frm to e)).2.2.1,Zca hx]at hy;cases hy;rw[ZgY (replC_len frm to e)];have hm:=qa hx;have hnb:to∉e.bound i:=fun h=>hn (ZaH.2 (.inr ⟨i,x,hx,.inl h⟩));have hnx:to∉allP x:=fun h=>hn (ZaH.2 (.inr ⟨i,x,hx,.inr h⟩));by_cases hf:frm∈e.bound i
   .rw [if_pos hf]
    refine .refl x _ (hs.child hm) fun s hsx c hc=>?_;by_cases hb:s∈e.bound i
    .exact .inl ⟨hb,s,hb,rfl,hc⟩
    .refine .inr ⟨hb,⟨s,?_,hc⟩,fun u hu => ?_⟩
     grind
     .rw [hc.free,qj] at hu
      grind
   .rw [if_neg hf]
    refine(ih x hm (hs.child hm) hnx).mono _ _ _ _ fun s hsx d hd=>?_;obtain⟨t,ht,hv⟩:=hd;by_cases hb:s∈e.bound i
    .rw [if_neg (fun h:s=frm=>hf (h▸hb))] at ht
     exact .inl ⟨hb,s,hb,rfl,ht▸hv⟩
    .refine .inr ⟨hb,⟨t,ht,hv⟩,fun u hu => ?_⟩
     rw[hv.free,qj]at hu;grind
theorem ZvW {frm to:Str}{e:Exp}(hs:shp e)(hn:to∉allP e)(u:Str):u∈Zaf (repl frm to e)↔∃s∈Zaf e,u=if s=frm then to else s:=by
 have h:=ZiV frm to e hs hn;constructor
 .intro hu
  obtain⟨s,h1,d,⟨t,ht,hv⟩,h3⟩:=instR.free_from e _ _ hs.one (fun x hx=>hs.child hx) h u hu;rw[hv.free,qj]at h3;grind
 .rintro ⟨s,h1,rfl⟩
  obtain⟨d,⟨t,ht,hv⟩,h3⟩:=instR.free_to e _ _ h s h1;exact h3 _ (by rw[hv.free,ht];simp)
def hitP (x:Str)(free:List Str)(n:Str)(inside:List Exp):Prop:=n∈free/\∃e∈inside,x∈Zaf e
instance (x:Str) (free:List Str) (n:Str) (inside:List Exp):Decidable (hitP x free n inside):=inferInstanceAs (Decidable (_/\_))
def ZaA (e:Exp):Nat:=if e.kind=6 then 1 else 0
def Zcq (x:Str)(free:List Str)(e:Exp):Exp:=
 if e.name=x\/e.kids.length<=ZaA e\/¬hitP x free e.name (e.kids.drop (ZaA e)) then e else
  .mk e.kind e.pos (Zat 0 (allP e++free++[x])) e.num (e.kids.zipIdx.map fun p=>if p.2<ZaA e then p.1 else repl e.name (Zat 0 (allP e++free++[x])) p.1) e.arms e.ty
def ZdJ (x:Str)(free:List Str)(p:List Str×Exp)(i:Nat):List Str×Exp:=match p.1[i]? with
 |none=>p
 |some v=>if v∈p.1.drop (i+1)\/¬hitP x free v [p.2] then p else (p.1.set i (Zat 0 (allP p.2++p.1++free++[x])),repl v (Zat 0 (allP p.2++p.1++free++[x])) p.2)
def Zdv (x:Str)(free:List Str)(vs:List Str)(b:Exp)(k:Nat):List Str×Exp:=(List.range k).foldl (ZdJ x free) (vs,b)
theorem Zdi (x:Str)(free vs:List Str)(b:Exp)(k:Nat):Zdv x free vs b (k+1)=ZdJ x free (Zdv x free vs b k) k:=by
 grind[Zdv,List.range_succ]
def armP (x:Str)(free:List Str)(a:ArmH×Exp):ArmH×Exp:=
 if x∈a.1.vars then a else (⟨a.1.pos,a.1.con,(Zdv x free a.1.vars a.2 a.1.vars.length).1⟩,(Zdv x free a.1.vars a.2 a.1.vars.length).2)
def Zcn (x:Str)(free:List Str)(e:Exp):Exp:=
 if e.kind=4\/e.kind=6\/e.kind=7 then Zcq x free e else if e.kind=8 then .mk e.kind e.pos e.name e.num e.kids (e.arms.map (armP x free)) e.ty else e
def subN:Nat->Exp->Str->Exp->Exp
 |0,e,_,_=>e
 |n+1,e,x,b=>if e.kind=1 then (if e.name=x then b else e) else
  Za6 (Zcn x (Zaf b) e) ((Zcn x (Zaf b) e).children.zipIdx.map fun p=>if x∈(Zcn x (Zaf b) e).bound p.2 then p.1 else subN n p.1 x b)
def subC (n:Nat)(e:Exp)(x:Str)(b:Exp):List Exp:=e.children.zipIdx.map fun p=>if x∈e.bound p.2 then p.1 else subN n p.1 x b
@[simp] theorem subC_len (n:Nat) (e:Exp) (x:Str) (b:Exp):(subC n e x b).length=e.kids.length+e.arms.length:=by simp[subC]
theorem ZdC {n:Nat}{e y:Exp}{x:Str}{b:Exp}{i:Nat}(h:e.children[i]?=some y):(subC n e x b)[i]?=some (if x∈e.bound i then y else subN n y x b):=by
 simp[subC,h]
theorem Zdn (n:Nat)(e:Exp)(x:Str)(b:Exp):subN (n+1) e x b=if e.kind=1 then (if e.name=x then b else e) else Za6 (Zcn x (Zaf b) e) (subC n (Zcn x (Zaf b) e) x b):=rfl
def inj (l:List Str):Prop:=∀(i j:Nat) s,l[i]?=some s->l[j]?=some s->i=j
def properP (e:Exp):Prop:=e.fold fun e l=>(∀a∈e.arms,inj a.1.vars)/\∀p∈l,p
theorem ZbC (e:Exp):properP e=((∀a∈e.arms,inj a.1.vars)/\∀x∈e.children,properP x):=by
 have:=Exp.fold_eq (fun e (l:List Prop)=>(∀a∈e.arms,inj a.1.vars)/\∀p∈l,p) e;unfold properP;rw[this];simp only[qO]
theorem properP.one {e:Exp}(h:properP e):∀a∈e.arms,inj a.1.vars:=by grind[ZbC]
theorem properP.child {e x:Exp}(h:properP e)(hx:x∈e.children):properP x:=by grind[ZbC]
theorem ZiP {e c:Exp}(h:∀i:Nat,(c.arms[i]?).map (·.1)=(e.arms[i]?).map (·.1))(he:∀a∈e.arms,inj a.1.vars):∀a∈c.arms,inj a.1.vars:=by
 grind[qk]
theorem Ziy (frm to:Str)(e:Exp):e.wf->properP e->properP (repl frm to e):=by
 induction e using Exp.ind with
 |h e ih=>
  intro hw h;by_cases hk:e.kind=1
  .rw [Zde hk]
   split
   .rw [ZbC]
    exact⟨h.one,fun x hx=>h.child hx⟩
   omega
  .rw [Zef hk,ZbC]
   obtain⟨_,_,h3,h4⟩:=ZaQ (replC_len frm to e);refine⟨ZiP h4 h.one,fun c hc=>?_⟩;rw[h3]at hc;obtain⟨i,hi⟩:=qk.1 hc;obtain⟨x,hx⟩:=Zaa (l:=e.children) (i:=i) (by have:=(qd.1 hi).1;simp_all);rw[Zca hx]at hi;cases hi;have hm:=qa hx;split
   .exact h.child hm
   .exact ih x hm (hw.child hm) (h.child hm)
def subV (x:Str)(b:Exp):Rep:=fun s c=>if s=x then c=b else isVar s c
theorem ZeK {s:Str}{c:Exp}:idV s c↔isVar s c:=⟨fun⟨_,h,hv⟩=>h▸hv,fun h=>⟨s,rfl,h⟩⟩
theorem id_ok:idV.ok:=fun _ _ h=>(ZeK.1 h).shp
theorem Zq5 {x0 x1 y b:Exp}{x:Str}{bs cs:List Str}(h0:instR x0 x1 (idV.ext bs cs))(h1:instR x1 y (subV x b))(hx:x∉cs)(hf:x∈Zaf x1->∀u∈Zaf b,u∉cs):instR x0 y ((subV x b).ext bs cs):=by
 refine(h0.comp _ _ _ _ _ (id_ok.ext bs cs) h1).mono _ _ _ _ fun s hs d hd=>?_;obtain⟨c,hc,_,hcd⟩:=hd;rcases hc with ⟨hb,t,ht,hr,hv⟩|⟨hb,hv,hfc⟩
 .rw [hv.inst] at hcd
  unfold subV at hcd;rw[if_neg (fun h:t=x=>hx (h▸ht))]at hcd;exact .inl ⟨hb,t,ht,hr,hcd⟩
 .rw [ZeK] at hv
  have hsc:s∉cs:=hfc s (by rw[hv.free];simp);have hsf:s∈Zaf x1:=by
   obtain⟨d',hd',hf'⟩:=instR.free_to x0 x1 _ h0 s hs;rcases hd' with ⟨q,_⟩|⟨_,q,_⟩
   grind
   .exact hf' s (by rw[(ZeK.1 q).free];simp)
  rw[hv.inst]at hcd;refine .inr ⟨hb,hcd,fun u hu=>?_⟩;unfold subV at hcd;split at hcd;grind
  .rw [hcd.free,qj] at hu
   grind
theorem Zrf {x0 b:Exp}{x:Str}{bs:List Str}(hs:shp x0)(hx:x∈bs):instR x0 x0 ((subV x b).ext bs bs):=by
 refine .refl x0 _ hs fun s _ c hc=>?_;by_cases hb:s∈bs
 .exact .inl ⟨hb,s,hb,rfl,hc⟩
 .refine .inr ⟨hb,?_,fun u hu => ?_⟩
  grind[subV]
  .rw [hc.free,qj] at hu
   grind
theorem ZdY {x0:Exp}{bs:List Str}(hs:shp x0):instR x0 x0 (idV.ext bs bs):=by
 refine .refl x0 _ hs fun s _ c hc=>?_;by_cases hb:s∈bs
 .exact .inl ⟨hb,s,hb,rfl,hc⟩
 .refine .inr ⟨hb,ZeK.2 hc,fun u hu => ?_⟩
  rw[hc.free,qj]at hu;grind
structure KidOk (x:Str)(b x0 x1:Exp)(bs cs:List Str):Prop where
 len:bs.length=cs.length
 skip:x∈bs->x1=x0/\cs=bs
 notin:x∉bs->x∉cs
 inst:instR x0 x1 (idV.ext bs cs)
 apart:x∉cs->x∈Zaf x1->∀u∈Zaf b,u∉cs
 weight:x1.weight=x0.weight
 shape:shp x1
 proper:properP x1
theorem inj_of {l:List Str}(h:l.Nodup):inj l:=fun i j s hi hj=>by
 grind[List.getElem?_inj]
theorem inj.rlast {l:List Str}(h:inj l){i:Nat}{s:Str}(hi:l[i]?=some s):rlast l s=i:=Zpy hi fun j x hij hx e=>by
 have:=h i j s hi (e▸hx);omega
theorem inj.set {l:List Str}(h:inj l){k:Nat}{t:Str}(ht:t∉l):inj (l.set k t):=by
 intro i j s hi hj;rw[qaG]at hi hj;split at hi<;>split at hj
 .omega
 grind;grind
 .exact h i j s hi hj
theorem ZkF {l:List Str}{k:Nat}{t u:Str}(h:u∈l.set k t):u∈l\/u=t:=List.mem_or_eq_of_mem_set h
structure ArmOk (x:Str)(free vars:List Str)(b0:Exp)(k:Nat)(vs:List Str)(b:Exp):Prop where
 len:vs.length=vars.length
 inj:inj vs
 notin:x∉vs
 inst:instR b0 b (idV.ext vars vs)
 weight:b.weight=b0.weight
 shape:shp b
 proper:properP b
 done:∀j v,j<k->vs[j]?=some v->¬(v∈free/\x∈Zaf b)
theorem ZqQ {x:Str}{free vars:List Str}{b0:Exp}{k:Nat}{vs:List Str}{b:Exp}(h:ArmOk x free vars b0 k vs b)(hk:k<vars.length):ArmOk x free vars b0 (k+1) (ZdJ x free (vs,b) k).1 (ZdJ x free (vs,b) k).2:=by
 obtain⟨v,hv⟩:=Zaa (l:=vs) (i:=k) (by rw[h.len];exact hk);have hdrop:v∉vs.drop (k+1):=by
  intro hm;obtain⟨j,hj⟩:=qk.1 hm;rw[qZ]at hj;have:=h.inj k _ v hv hj;omega
 unfold ZdJ;simp only[hv];by_cases hh:hitP x free v [b]
 .rw [if_neg (fun q=>q.elim hdrop fun q=>q hh)]
  have hfresh:=Zbn 0 (allP b++vs++free++[x]);generalize Zat 0 (allP b++vs++free++[x])=to at hfresh |-;simp only[ql,qj,not_or]at hfresh;obtain⟨⟨⟨f1,f2⟩,f3⟩,f4⟩:=hfresh;have hxv:x≠v:=fun e=>h.notin (e▸qa hv);have hfx:x∈Zaf (repl v to b)->x∈Zaf b:=by
   intro hx;obtain⟨s,hs,he⟩:=(ZvW h.shape f1 x).1 hx;grind
  refine⟨by rw[List.length_set];exact h.len,h.inj.set f2,fun hm=>?_,?_,(Zfv _ _ _).trans h.weight,Zko _ _ _ h.shape,Ziy _ _ _ h.shape.wf h.proper,fun j w hj hw=>?_⟩
  .rcases ZkF hm with hm|hm
   .exact h.notin hm
   grind
  .refine (h.inst.comp _ _ _ _ _ (id_ok.ext _ _) (ZiV v to b h.shape f1)).mono _ _ _ _ fun s hs d hd => ?_
   obtain⟨c,hc,_,hcd⟩:=hd;rcases hc with ⟨hb,t,ht,hr,hvc⟩|⟨hb,hvc,hfc⟩
   .rw [hvc.inst] at hcd
    obtain⟨u,hu,hvu⟩:=hcd;obtain⟨j,hj⟩:=qk.1 ht;have hrj:=h.inj.rlast hj;have hset:(vs.set k to)[j]?=some u:=by
     rw[qaG];by_cases htv:t=v
     .have hkj:k=j:=h.inj k j v hv (htv▸hj)
      grind
     grind
    exact .inl ⟨hb,u,qa hset,by rw[hr,hrj,(h.inj.set f2).rlast hset],hvu⟩
   .rw [ZeK] at hvc
    have hsv:s∉vs:=hfc s (by rw[hvc.free];simp);rw[hvc.inst]at hcd;obtain⟨u,hu,hvu⟩:=hcd;rw[if_neg (fun e=>hsv (by grind))]at hu;subst hu;refine .inr ⟨hb,ZeK.2 hvu,fun w hw=>?_⟩;rw[hvu.free,qj]at hw;subst hw;intro hm;rcases ZkF hm with hm|hm
    grind
    .obtain ⟨d',hd',hf'⟩:=instR.free_to b0 b _ h.inst w hs
     rcases hd' with ⟨q,_⟩|⟨_,q,_⟩
     grind
     .exact f1 (hm▸Ziw b w (hf' w (by rw[(ZeK.1 q).free];simp)))
  .rintro ⟨g1,g2⟩
   rw[qaG]at hw;split at hw;grind
   .exact h.done j w (by omega) hw ⟨g1,hfx g2⟩
 .rw [if_pos (.inr hh)]
  refine⟨h.len,h.inj,h.notin,h.inst,h.weight,h.shape,h.proper,fun j w hj hw hg=>?_⟩;by_cases hjk:j=k
  .subst hjk
   rw[hv]at hw;cases hw;exact hh ⟨hg.1,b,by simp,hg.2⟩
  .exact h.done j w (by omega) hw hg
theorem Ze7 {x:Str}{free vars:List Str}{b:Exp}(hn:inj vars)(hx:x∉vars)(hs:shp b)(hp:properP b):∀k,k<=vars.length->ArmOk x free vars b k (Zdv x free vars b k).1 (Zdv x free vars b k).2
 |0,_=>⟨rfl,hn,hx,ZdY hs,rfl,hs,hp,fun _ _ h=>by omega⟩
 |k+1,hk=>by
  rw[Zdi];exact ZqQ (Ze7 hn hx hs hp k (by omega)) (by omega)
theorem ZBf {x:Str}{b:Exp}{a:ArmH×Exp}(hn:inj a.1.vars)(hs:shp a.2)(hp:properP a.2):(armP x (Zaf b) a).1.con=a.1.con/\inj (armP x (Zaf b) a).1.vars/\KidOk x b a.2 (armP x (Zaf b) a).2 a.1.vars (armP x (Zaf b) a).1.vars:=by
 unfold armP;by_cases hx:x∈a.1.vars
 .rw [if_pos hx]
  exact⟨rfl,hn,rfl,fun _=>⟨rfl,rfl⟩,fun h=>h,ZdY hs,fun h=>absurd hx h,rfl,hs,hp⟩
 .rw [if_neg hx]
  have h:=Ze7 (free:=Zaf b) hn hx hs hp a.1.vars.length (qe _);refine⟨rfl,h.inj,h.len.symm,fun q=>absurd q hx,fun _=>h.notin,h.inst,fun _ hf u hu hm=>?_,h.weight,h.shape,h.proper⟩;obtain⟨j,hj⟩:=qk.1 hm;exact h.done j u (by have:=(qd.1 hj).1;rw[h.len]at this;omega) hj ⟨hu,hf⟩
structure PrepOk (x:Str)(b e e':Exp):Prop where
 head:headEq e e'
 con:e.kind=2->e.name=e'.name
 arms:ZiC e e'
 kids:∀(i:Nat) x0 x1,e.children[i]?=some x0->e'.children[i]?=some x1->KidOk x b x0 x1 (e.bound i) (e'.bound i)
 sum:(e'.arms.map fun a=>a.1.vars.length).sum=(e.arms.map fun a=>a.1.vars.length).sum
 vars:∀a∈e'.arms,inj a.1.vars
theorem Zpt {e e':Exp}(hl:e'.arms.length=e.arms.length)(h:∀(i:Nat) p q,e.arms[i]?=some p->e'.arms[i]?=some q->p.1.vars.length=q.1.vars.length):
 (e'.arms.map fun a=>a.1.vars.length).sum=(e.arms.map fun a=>a.1.vars.length).sum:=by
 congr 1;refine qC fun i=>?_;grind
theorem ZsP {x:Str}{b e:Exp}(hs:shp e)(hp:properP e)(h:∀(i:Nat) x0,e.children[i]?=some x0->x∉e.bound i->x∈Zaf x0->∀u∈Zaf b,u∉e.bound i):PrepOk x b e e:=by
 refine⟨⟨rfl,rfl,rfl,rfl,rfl⟩,fun _=>rfl,fun i p q hp hq=>?_,fun i x0 x1 h0 h1=>?_,rfl,hp.one⟩;grind
 .rw [h0] at h1
  cases h1;have hm:=qa h0;exact⟨rfl,fun _=>⟨rfl,rfl⟩,fun q=>q,ZdY (hs.child hm),h i x0 h0,rfl,hs.child hm,hp.child hm⟩
theorem Za2 {e:Exp}(h:e.kind≠8)(hs:shp1 e):e.arms=[]/\e.children=e.kids:=by
 have:=hs.1.2.1 h;grind[Exp.children]
theorem ZeZ {e:Exp}(h:e.kind=4\/e.kind=6\/e.kind=7)(hs:shp1 e){i:Nat}(hi:i<e.children.length):e.bound i=if i<ZaA e then [] else [e.name]:=by
 have hc:=(Za2 (by omega) hs).2;have hk:=hs.2.2;grind[Zhv,Exp.bound,ZaA]
theorem Zn1 {x:Str}{b e:Exp}(hs:shp e)(hp:properP e)(hk:e.kind=4\/e.kind=6\/e.kind=7):PrepOk x b e (Zcq x (Zaf b) e):=by
 obtain⟨ha,hc⟩:=Za2 (by omega) hs.one;have hkl:ZaA e<e.kids.length:=by
  have h:=hs.one.2.2;grind[Zhv,ZaA]
 unfold Zcq;split
 .rename_i hc1
  refine ZsP hs hp fun i x0 h0 hxb hxf u hu hub=>?_;have hi:=(qd.1 h0).1;rw[ZeZ hk hs.one hi]at hxb hub;by_cases his:i<ZaA e;grind
  .rw [if_neg his] at hxb hub
   rw[qj]at hxb hub;rcases hc1 with h1|h1|h1
   grind
   .omega
   .refine h1 ⟨hub▸hu,x0,?_,hxf⟩
    refine qa (i:=i-ZaA e) ?_;grind
 .rename_i hc1
  simp only[not_or,Classical.not_not]at hc1;obtain⟨hxn,_,hhit⟩:=hc1;have hfresh:=Zbn 0 (allP e++Zaf b++[x]);generalize Zat 0 (allP e++Zaf b++[x])=to at hfresh |-;simp only[ql,qj,not_or]at hfresh;obtain⟨⟨f1,f2⟩,f3⟩:=hfresh
  have hkid:∀(i:Nat) x0,e.kids[i]?=some x0->(e.kids.zipIdx.map fun p=>if p.2<ZaA e then p.1 else repl e.name to p.1)[i]?=some (if i<ZaA e then x0 else repl e.name to x0):=fun i x0 h=>by simp[h]
  have hkn:(e.kids.zipIdx.map fun p=>if p.2<ZaA e then p.1 else repl e.name to p.1).length=e.kids.length:=by simp
  generalize (e.kids.zipIdx.map fun p=>if p.2<ZaA e then p.1 else repl e.name to p.1)=ks at hkid hkn |-;have hc':(Exp.mk e.kind e.pos to e.num ks e.arms e.ty).children=ks:=by grind[ZaC]
  refine⟨⟨rfl,rfl,rfl,hkn.symm,rfl⟩,fun h2=>by omega,fun i p q h1 h2=>?_,fun i x0 x1 h0 h1=>?_,rfl,hp.one⟩;grind
  .have hi:=(qd.1 h0).1
   have hm:=qa h0;rw[hc']at h1;have hbn:(Exp.mk e.kind e.pos to e.num ks e.arms e.ty).bound i=if i<ZaA e then [] else [to]:=by
    have he:=ZeZ hk hs.one hi;grind[ZaM,Zfj]
   rw[hc]at h0;rw[hkid i x0 h0]at h1;cases h1;rw[hbn,ZeZ hk hs.one hi];by_cases his:i<ZaA e
   .rw [if_pos his,if_pos his,if_pos his]
    exact⟨rfl,fun q=>by simp,fun q=>q,ZdY (hs.child hm),fun _ _ u _=>by simp,rfl,hs.child hm,hp.child hm⟩
   .rw [if_neg his,if_neg his,if_neg his]
    have hnx:to∉allP x0:=fun h=>f1 (ZaH.2 (.inr ⟨i,x0,by grind,.inr h⟩));refine⟨rfl,fun q=>absurd (qj.1 q).symm hxn,fun _ q=>f3 (qj.1 q).symm,?_,fun _ _ u hu q=>f2 (qj.1 q▸hu),Zfv _ _ _,Zko _ _ _ (hs.child hm),Ziy _ _ _ (hs.child hm).wf (hp.child hm)⟩;refine(ZiV e.name to x0 (hs.child hm) hnx).mono _ _ _ _ fun s hsx d hd=>?_;obtain⟨t,ht,hv⟩:=hd;by_cases hsn:s=e.name
    .rw [if_pos hsn] at ht
     subst ht;refine .inl ⟨by grind,t,by simp,?_,hv⟩;grind[Zpy]
    .rw [if_neg hsn] at ht
     subst ht;refine .inr ⟨by grind,ZeK.2 hv,fun u hu=>?_⟩;rw[hv.free,qj]at hu;grind[Ziw]
theorem ZsK {x:Str}{b e:Exp}(hs:shp e)(hp:properP e)(hk:e.kind=8):PrepOk x b e (.mk e.kind e.pos e.name e.num e.kids (e.arms.map (armP x (Zaf b))) e.ty):=by
 have hk1:=hs.one.1.1 hk;have harm:∀(i:Nat) p q,e.arms[i]?=some p->(e.arms.map (armP x (Zaf b)))[i]?=some q->q.1.con=p.1.con/\inj q.1.vars/\KidOk x b p.2 q.2 p.1.vars q.1.vars:=by
  intro i p q h1 h2;rw[qi,h1]at h2;cases h2;have hm:=Zbt (qa h1);exact ZBf (hp.one p (qa h1)) (hs.child hm) (hp.child hm)
 have hvl:∀(i:Nat) p q,e.arms[i]?=some p->(e.arms.map (armP x (Zaf b)))[i]?=some q->p.1.vars.length=q.1.vars.length:=fun i p q h1 h2=>(harm i p q h1 h2).2.2.len;have hal:(e.arms.map (armP x (Zaf b))).length=e.arms.length:=by simp
 generalize e.arms.map (armP x (Zaf b))=am at harm hvl hal |-;refine⟨⟨rfl,rfl,rfl,rfl,hal.symm⟩,fun h=>rfl,fun i p q h1 h2=>⟨(harm i p q h1 h2).1.symm,hvl i p q h1 h2⟩,fun i x0 x1 h0 h1=>?_,Zpt hal hvl,fun q hq=>?_⟩
 .rw [Zfj,ZaM,if_neg (show ¬(e.kind=4\/e.kind=7\/e.kind=6/\i=1) by omega),if_neg (show ¬(e.kind=4\/e.kind=7\/e.kind=6/\i=1) by omega)]
  rcases Zns h0 with h0k|⟨j,p,rfl,hp',rfl⟩
  .have hi:=(qd.1 h0k).1
   have h1':e.kids[i]?=some x1:=by
    grind[ZaC]
   rw[h0k]at h1';cases h1';have hm:=qa h0;rw[if_neg (show ¬(e.kind=8/\0<i) by omega),if_neg (show ¬(e.kind=8/\0<i) by omega)];exact⟨rfl,fun q=>by simp,fun q=>q,ZdY (hs.child hm),fun _ _ u _=>by simp,rfl,hs.child hm,hp.child hm⟩
  grind[ZaC]
 grind[ZcL,qk]
theorem Zfz {x:Str}{b e:Exp}(hs:shp e)(hp:properP e):PrepOk x b e (Zcn x (Zaf b) e):=by
 grind[Zcn,Zn1,ZsK,ZsP,ZaM]
theorem Zcr {x:Str}{b e e':Exp}(h:PrepOk x b e e'):e'.children.length=e.children.length:=h.head.children.symm
theorem ZhE (x:Str)(b:Exp)(hb:shp b):∀(n:Nat) (e:Exp),e.weight<=n->shp e->properP e->instR e (subN n e x b) (subV x b)
 |0,e,h,_,_=>by have:=e.weight_pos;omega
 |n+1,e,h,hs,hp=>by
  rw[Zdn];by_cases hk:e.kind=1
  .obtain ⟨a1,a2,a3⟩:=Ze3 hs.one.1 hk
   obtain⟨m,t⟩:=hs.one.2.1 hk;rw[if_pos hk];refine .mkVar hk ?_;unfold subV;by_cases hx:e.name=x;grind
   .rw [if_neg hx,if_neg hx]
    exact⟨hk,rfl,m,t,a1,a2⟩
  .rw [if_neg hk]
   have hP:=Zfz (x:=x) (b:=b) hs hp;generalize Zcn x (Zaf b) e=e' at hP |-;have hl:=subC_len n e' x b;obtain⟨g1,g2⟩:=Zje hl;refine .mk hk ⟨⟨hP.head.1.trans g1.1,hP.head.2.1.trans g1.2.1,hP.head.2.2.1.trans g1.2.2.1,hP.head.2.2.2.1.trans g1.2.2.2.1,hP.head.2.2.2.2.trans g1.2.2.2.2⟩,fun h2=>hP.con h2,fun i p q hp' hq=>?_,fun i x0 y h0 hy=>?_⟩
   .obtain ⟨r,hr⟩:=Zaa (l:=e'.arms) (i:=i) (by have:=hP.head.2.2.2.2;grind)
    exact⟨(hP.arms i p r hp' hr).1.trans (g2 i r q hr hq).1,(hP.arms i p r hp' hr).2.trans (g2 i r q hr hq).2⟩
   .obtain ⟨x1,h1⟩:=Zaa (l:=e'.children) (i:=i) (by grind [Zcr])
    have hK:=hP.kids i x0 x1 h0 h1;rw[(ZaQ hl).2.2.1,ZdC h1]at hy;cases hy;rw[ZgY hl];by_cases hx:x∈e'.bound i
    .rw [if_pos hx]
     have hxb:x∈e.bound i:=qP fun q=>hK.notin q hx;obtain⟨rfl,he⟩:=hK.skip hxb;rw[he];exact Zrf hK.shape hxb
    .rw [if_neg hx]
     refine Zq5 hK.inst (ZhE x b hb n x1 ?_ hK.shape hK.proper) hx (hK.apart hx);have:=Exp.child_lt (qa h0);have:=hK.weight;omega
theorem Zr5 (x:Str)(b:Exp)(hb:shp b):∀(n:Nat) (e:Exp),e.weight<=n->shp e->properP e->shp (subN n e x b)
 |0,e,h,hs,_=>hs
 |n+1,e,h,hs,hp=>by
  rw[Zdn];by_cases hk:e.kind=1;grind
  .rw [if_neg hk]
   have hP:=Zfz (x:=x) (b:=b) hs hp;generalize Zcn x (Zaf b) e=e' at hP |-;refine ZkI (subC_len n e' x b) (hP.head.1▸hk) (hP.head.shp1 hk hs.one) fun c hc=>?_;obtain⟨i,hi⟩:=qk.1 hc;obtain⟨x1,h1⟩:=Zaa (l:=e'.children) (i:=i) (by have:=(qd.1 hi).1;simp_all);obtain⟨x0,h0⟩:=Zaa (l:=e.children) (i:=i) (by grind[Zcr]);have hK:=hP.kids i x0 x1 h0 h1;rw[ZdC h1]at hi;cases hi;split
   .exact hK.shape
   .refine Zr5 x b hb n x1 ?_ hK.shape hK.proper
    have:=Exp.child_lt (qa h0);have:=hK.weight;omega
theorem Zjz (x:Str)(b:Exp)(hb:properP b):∀(n:Nat) (e:Exp),e.weight<=n->shp e->properP e->properP (subN n e x b)
 |0,e,h,_,hp=>hp
 |n+1,e,h,hs,hp=>by
  rw[Zdn];by_cases hk:e.kind=1;grind
  .rw [if_neg hk]
   have hP:=Zfz (x:=x) (b:=b) hs hp;generalize Zcn x (Zaf b) e=e' at hP |-;obtain⟨_,_,h3,h4⟩:=ZaQ (subC_len n e' x b);rw[ZbC];refine⟨ZiP h4 hP.vars,fun c hc=>?_⟩;rw[h3]at hc;obtain⟨i,hi⟩:=qk.1 hc;obtain⟨x1,h1⟩:=Zaa (l:=e'.children) (i:=i) (by have:=(qd.1 hi).1;simp_all);obtain⟨x0,h0⟩:=Zaa (l:=e.children) (i:=i) (by grind[Zcr]);have hK:=hP.kids i x0 x1 h0 h1;rw[ZdC h1]at hi;cases hi;split
   .exact hK.proper
   .refine Zjz x b hb n x1 ?_ hK.shape hK.proper
    have:=Exp.child_lt (qa h0);have:=hK.weight;omega
def subP (e:Exp)(x:Str)(b:Exp):Exp:=subN e.weight e x b
end Go.Vs.Tryz
