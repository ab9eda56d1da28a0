/- Valid expressions by the program, walked: all kinds. -/
import Derived.Test.YtccmnfpbcmccpaaGreatDoorRJa
set_option linter.unusedSimpArgs false
set_option linter.unusedVariables false
set_option linter.deprecated false
set_option maxRecDepth 9999
set_option maxHeartbeats 64000000
set_option maxRecDepth 10000
namespace Go.Vs.Tryz
open Go Go.Vs
variable {A:Zab}
theorem con142 (s:Str)(n:Nat)(h:Zfz s n):(K A).call 142 [strV s,intV n] []=some (Zaf true,[]):=by
 refine fnO v142 ?_;unfold v142;rcases h with ⟨rfl,rfl⟩|⟨rfl,rfl⟩|⟨h1,h2,h3,h4⟩
 .simp(disch:=first|exact zd|fail) [-getElem?_pos]
 .simp(disch:=first|exact zd|fail) [-getElem?_pos]
 .have hn:(K A).call 141 [strV s,.sc (.c (.int .u8 65)),.sc (.c (.int .u8 90))] []=some (Zaf true,[]):=ZkK (A:=A) 65 90 s h3
  have h4':(n:Int)<=4:=by omega
  simp(disch:=first|exact zd|fail) [h1,h2,hn,h4',-getElem?_pos]
theorem ZAu (f:Nat)(l:List Ty)(hl:l.length<=1073741824)(h:∀x∈l,(K A).call f [tyV x] []=some (Zaf false,[])):(K A).call 196 [tysV l,.sc (.c (.fn f [] []))] []=some (intV (-1),[]):=by
 refine fnO v196 ?_;unfold v196;simp(disch:=first|exact zd|fail) [-getElem?_pos];refine Zaj (fun i=>⟨[(0,tysV l),(1,.sc (.c (.fn f [] []))),(7,intV l.length),(8,intV i)],[]⟩) l.length ?_ ?_ ?_
 .simp
 .intro i hi
  obtain⟨x,hx⟩:=Zaa hi;have h1:=h x (qb hx);unfold ZtZ;simp(disch:=first|exact zd|fail) [hi,hx,h1,-getElem?_pos]
 .unfold ZtZ
  simp(disch:=first|exact zd|fail) [-getElem?_pos]
theorem Zvv (f:Nat)(l:List Ty)(hl:l.length<=1073741824)(h:∀x∈l,(K A).call f [tyV x] []=some (Zaf false,[])):(K A).call 143 [tysV l,.sc (.c (.fn f [] []))] []=some (Zaf false,[]):=by
 refine fnO v143 ?_;have h1:=ZAu (A:=A) f l hl h;unfold v143;simp(disch:=first|exact zd|fail) [h1]
theorem Zwt {s:Str}{n:Nat}(h:Zfz s n):s≠[]:=by
 rcases h with ⟨rfl,_⟩|⟨rfl,_⟩|⟨_,_,h3,_⟩
 .simp
 .simp
 .rintro rfl
  obtain⟨_,⟨c,hc,_⟩,_⟩:=h3;cases hc
theorem nameOk.ne {lo hi:Nat}{s:Str}(h:nameOk lo hi s):s≠[]:=by
 rintro rfl;obtain⟨_,⟨c,hc,_⟩,_⟩:=h;cases hc
theorem wrT.arg {t x:Ty}(h:wrT t)(hx:x∈t.args):wrT x:=⟨h.1.arg hx,Ty.all.arg h.2 hx⟩
theorem wrT.kinds {t:Ty}(h:wrT t):(t.kind=4/\t.id=0/\t.home=0/\Zfz t.name t.args.length)\/(t.kind=5/\t.id=0/\t.home=0/\t.args=[]/\nameOk 97 122 t.name):=by
 obtain⟨h1,h2,h3,h4,h5,h6,h7,h8⟩:=h.1.one;have h9:=Ty.all.one h.2;by_cases k4:t.kind=4
 .exact .inl ⟨k4,h5 k4⟩
 .by_cases k5:t.kind=5
  .exact .inr ⟨k5,h6 k5⟩
  .by_cases k1:t.kind=1
   .have:=h1 k1
    omega
   .by_cases k2:t.kind=2
    .have a:=h2 k2
     have b:=(h4 k2).1;omega
    .omega
theorem ZsE (t:Ty):wrT t->t.size<=1073741824->(K A).call 93 [tyV t] []=some (Zaf true,[]):=by
 induction t using Ty.ind with
 |h t ih=>
 intro h hl;have hal:=t.args_lt;refine fnO v93 ?_;rcases h.kinds with ⟨k,i0,h0,hc⟩|⟨k,i0,h0,ha,hn⟩
 .have hne:=Zwt hc
  have hcv:=con142 (A:=A) t.name t.args.length hc;have hbad:∀x∈t.args,(K A).call 144 [tyV x] []=some (Zaf false,[]):=fun x hx=>by
   have h1:=ih x hx (h.arg hx) (by have:=Ty.arg_lt hx;omega);refine fnO v144 ?_;unfold v144;simp(disch:=first|exact zd|fail) [h1]
  have hnone:=Zvv (A:=A) 144 t.args (by omega) hbad;unfold v93;simp(disch:=first|exact zd|fail) [k,i0,h0,hne,hcv,hnone,-getElem?_pos]
 .have hne:=hn.ne
  have hnv:(K A).call 141 [strV t.name,.sc (.c (.int .u8 97)),.sc (.c (.int .u8 122))] []=some (Zaf true,[]):=ZkK (A:=A) 97 122 t.name hn;unfold v93;simp(disch:=first|exact zd|fail) [k,i0,h0,ha,hne,hnv,-getElem?_pos]
theorem Zsp (t:Ty):wrT t->t.size<=1073741824->(K A).call 94 [tyV t] []=some (Zaf true,[]):=by
 induction t using Ty.ind with
 |h t ih=>
 intro h hl;have hal:=t.args_lt;refine fnO v94 ?_;have hbad:∀x∈t.args,(K A).call 145 [tyV x] []=some (Zaf false,[]):=fun x hx=>by
  have h1:=ih x hx (h.arg hx) (by have:=Ty.arg_lt hx;omega);refine fnO v145 ?_;unfold v145;simp(disch:=first|exact zd|fail) [h1]
 have hnone:=Zvv (A:=A) 145 t.args (by omega) hbad;unfold v94;rcases h.kinds with ⟨k,_⟩|⟨k,_⟩
 .simp(disch:=first|exact zd|fail) [k,hnone,-getElem?_pos]
 .simp(disch:=first|exact zd|fail) [k,hnone,-getElem?_pos]
theorem StE.child {e x:Exp}(h:StE e)(hx:x∈e.children):StE x:=⟨h.ok.child hx,h.rz.child hx,h.lf.child hx,h.ps.child hx⟩
theorem Zzk (e:Exp):StE e->e.weight<=1073741824->(K A).call 47 [expV e] []=some (Zaf true,[]):=by
 induction e using Exp.ind with
 |h e ih=>
 intro hv hl;refine fnO v47 ?_;obtain⟨f1,f2,⟨f3,f4,f5⟩,f6,⟨f7,f8⟩,f9,f10⟩:=hv.lf.2.one;obtain⟨g1,g2,g3,g4⟩:=hv.lf.1.one;obtain⟨hpos,hpa⟩:=hv.ps.one;have hs:=hv.ok.1.one;have hz:=zeroTy (A:=A);have hal:=e.children_le;rw[Exp.children_len]at hal;have hnn:¬e.num<0:=by omega
 have hnb:¬999999999<e.num:=by omega
 have hch:=ZzS (A:=A) e.children (by rw[Exp.children_len];omega) (fun x hx=>ih x hx (hv.child hx) (by have:=Exp.child_lt hx;omega));have ht9:e.kind≠9->wc e.ty.row=[zi,zs,zi,zi,.c (.sl [])]:=fun k=>by rw[f7 k];simp[tz,Ty.row,Ty.rows]
 have hk11:e.kind=1\/e.kind=2\/e.kind=3\/e.kind=4\/e.kind=5\/e.kind=6\/e.kind=7\/e.kind=8\/e.kind=9\/e.kind=10\/e.kind=11:=by omega
 rcases hk11 with h|h|h|h|h|h|h|h|h|h|h
 .have hkl:e.kids.length=0:=by have:=hs.2.2;rw [h] at this;exact this
  have ha:e.arms=[]:=hs.1.2.1 (by omega);have hk:e.kids=[]:=qD.1 hkl;have hlo:=ZfU (A:=A) e.name (g1 (by unfold lowK;omega));have htr:=ht9 (by omega);have hnum:=f3 (by omega);have hc:=ZaR (A:=A) e hk ha;rw[show e.children=[] by simp[Exp.children,hk,ha]]at hch;simp only[Zhb,rows0]at hch;unfold v47;simp(maxSteps:=4000000) (disch:=first|exact zd|fail) [h,hpos,hk,ha,hlo,hz,htr,hnum,hc,hch,-getElem?_pos]
  refine Zaj (fun i=>⟨[(1,.sc (.ptr 64 0)),(127,.sc (.c (.sl []))),(128,intV 0),(129,intV i)],[(64,some (.box (wc e.row)))]⟩) 0 (by simp) (fun i hi=>by omega) ?_;unfold Zgf;simp(maxSteps:=4000000) (disch:=first|exact zd|fail) [hc,hch,-getElem?_pos]
 .have hkl:e.kids.length=0:=by have:=hs.2.2;rw [h] at this;exact this
  have ha:e.arms=[]:=hs.1.2.1 (by omega);have hk:e.kids=[]:=qD.1 hkl;have hlo:=Zpw (A:=A) e.name (g2 h);have htr:=ht9 (by omega);have hnum:=f3 (by omega);have hc:=ZaR (A:=A) e hk ha;rw[show e.children=[] by simp[Exp.children,hk,ha]]at hch;simp only[Zhb,rows0]at hch;unfold v47;simp(maxSteps:=4000000) (disch:=first|exact zd|fail) [h,hpos,hk,ha,hlo,hz,htr,hnum,hc,hch,-getElem?_pos]
  refine Zaj (fun i=>⟨[(1,.sc (.ptr 64 0)),(127,.sc (.c (.sl []))),(128,intV 0),(129,intV i)],[(64,some (.box (wc e.row)))]⟩) 0 (by simp) (fun i hi=>by omega) ?_;unfold Zgf;simp(maxSteps:=4000000) (disch:=first|exact zd|fail) [hc,hch,-getElem?_pos]
 .have hkl:e.kids.length=0:=by have:=hs.2.2;rw [h] at this;exact this
  have ha:e.arms=[]:=hs.1.2.1 (by omega);have hk:e.kids=[]:=qD.1 hkl;have hn:e.name=[]:=g3 (by unfold lowK;omega) (by omega);have htr:=ht9 (by omega);have hc:=ZaR (A:=A) e hk ha;rw[show e.children=[] by simp[Exp.children,hk,ha]]at hch;simp only[Zhb,rows0]at hch;by_cases hnum:e.num=0
  .unfold v47
   simp(maxSteps:=4000000) (disch:=first|exact zd|fail) [h,hpos,hk,ha,hn,hz,htr,hnn,hnb,hnum,hc,hch,-getElem?_pos];refine Zaj (fun i=>⟨[(1,.sc (.ptr 64 0)),(127,.sc (.c (.sl []))),(128,intV 0),(129,intV i)],[(64,some (.box (wc e.row)))]⟩) 0 (by simp) (fun i hi=>by omega) ?_;unfold Zgf;simp(maxSteps:=4000000) (disch:=first|exact zd|fail) [hc,hch,-getElem?_pos]
  .unfold v47
   simp(maxSteps:=4000000) (disch:=first|exact zd|fail) [h,hpos,hk,ha,hn,hz,htr,hnn,hnb,hnum,hc,hch,-getElem?_pos];refine Zaj (fun i=>⟨[(1,.sc (.ptr 64 0)),(127,.sc (.c (.sl []))),(128,intV 0),(129,intV i)],[(64,some (.box (wc e.row)))]⟩) 0 (by simp) (fun i hi=>by omega) ?_;unfold Zgf;simp(maxSteps:=4000000) (disch:=first|exact zd|fail) [hc,hch,-getElem?_pos]
 .have hkl:e.kids.length=1:=by have:=hs.2.2;rw [h] at this;exact this
  have ha:e.arms=[]:=hs.1.2.1 (by omega);obtain⟨x,hk⟩:∃x,e.kids=[x]:=by
   match hkk:e.kids,hkl with
   |[x],_=>exact⟨x,rfl⟩
  have hlo:=ZfU (A:=A) e.name (g1 (by unfold lowK;omega));have htr:=ht9 (by omega);have hnum:=f3 (by omega);have hc:=ZaP (A:=A) e (by simp[hk]) hl;unfold v47;simp(maxSteps:=4000000) (disch:=first|exact zd|fail) [h,hpos,hk,ha,hlo,hz,htr,hnum,hc,hch,-getElem?_pos]
  refine Zaj (fun i=>⟨[(1,.sc (.ptr 64 0)),(127,.sc (.c (.sl []))),(128,intV 0),(129,intV i)],[(64,some (.box (wc e.row)))]⟩) 0 (by simp) (fun i hi=>by omega) ?_;unfold Zgf;simp(maxSteps:=4000000) (disch:=first|exact zd|fail) [hc,hch,-getElem?_pos]
 .have hkl:e.kids.length=2:=by have:=hs.2.2;rw [h] at this;exact this
  have ha:e.arms=[]:=hs.1.2.1 (by omega);obtain⟨x,y,hk⟩:∃x y,e.kids=[x,y]:=by
   match hkk:e.kids,hkl with
   |[x,y],_=>exact⟨x,y,rfl⟩
  have hn:e.name=[]:=g3 (by unfold lowK;omega) (by omega);have htr:=ht9 (by omega);have hnum:=f3 (by omega);have hc:=ZaP (A:=A) e (by simp[hk]) hl;unfold v47;simp(maxSteps:=4000000) (disch:=first|exact zd|fail) [h,hpos,hk,ha,hn,hz,htr,hnum,hc,hch,-getElem?_pos]
  refine Zaj (fun i=>⟨[(1,.sc (.ptr 64 0)),(127,.sc (.c (.sl []))),(128,intV 0),(129,intV i)],[(64,some (.box (wc e.row)))]⟩) 0 (by simp) (fun i hi=>by omega) ?_;unfold Zgf;simp(maxSteps:=4000000) (disch:=first|exact zd|fail) [hc,hch,-getElem?_pos]
 .have hkl:e.kids.length=2:=by have:=hs.2.2;rw [h] at this;exact this
  have ha:e.arms=[]:=hs.1.2.1 (by omega);obtain⟨x,y,hk⟩:∃x y,e.kids=[x,y]:=by
   match hkk:e.kids,hkl with
   |[x,y],_=>exact⟨x,y,rfl⟩
  have hlo:=ZfU (A:=A) e.name (g1 (by unfold lowK;omega));have htr:=ht9 (by omega);have hnum:=f3 (by omega);have hc:=ZaP (A:=A) e (by simp[hk]) hl;unfold v47;simp(maxSteps:=4000000) (disch:=first|exact zd|fail) [h,hpos,hk,ha,hlo,hz,htr,hnum,hc,hch,-getElem?_pos]
  refine Zaj (fun i=>⟨[(1,.sc (.ptr 64 0)),(127,.sc (.c (.sl []))),(128,intV 0),(129,intV i)],[(64,some (.box (wc e.row)))]⟩) 0 (by simp) (fun i hi=>by omega) ?_;unfold Zgf;simp(maxSteps:=4000000) (disch:=first|exact zd|fail) [hc,hch,-getElem?_pos]
 .have hkl:e.kids.length=2:=by have:=hs.2.2;rw [h] at this;exact this
  have ha:e.arms=[]:=hs.1.2.1 (by omega);obtain⟨x,y,hk⟩:∃x y,e.kids=[x,y]:=by
   match hkk:e.kids,hkl with
   |[x,y],_=>exact⟨x,y,rfl⟩
  have hlo:=ZfU (A:=A) e.name (g1 (by unfold lowK;omega));have htr:=ht9 (by omega);have hnum:=f3 (by omega);have hc:=ZaP (A:=A) e (by simp[hk]) hl;unfold v47;simp(maxSteps:=4000000) (disch:=first|exact zd|fail) [h,hpos,hk,ha,hlo,hz,htr,hnum,hc,hch,-getElem?_pos]
  refine Zaj (fun i=>⟨[(1,.sc (.ptr 64 0)),(127,.sc (.c (.sl []))),(128,intV 0),(129,intV i)],[(64,some (.box (wc e.row)))]⟩) 0 (by simp) (fun i hi=>by omega) ?_;unfold Zgf;simp(maxSteps:=4000000) (disch:=first|exact zd|fail) [hc,hch,-getElem?_pos]
 .have hkl:e.kids.length=1:=by have:=hs.2.2;rw [h] at this;exact this
  obtain⟨x,hk⟩:∃x,e.kids=[x]:=by
   match hkk:e.kids,hkl with
   |[x],_=>exact⟨x,rfl⟩
  have hn:e.name=[]:=g3 (by unfold lowK;omega) (by omega);have htr:=ht9 (by omega);have hnum:=f3 (by omega);have hc:=ZaP (A:=A) e (by simp[hk]) hl;have hne:e.arms≠[]:=f9 h;have hpa0:0<e.arms.length:=qae.2 hne;unfold v47;simp(maxSteps:=4000000) (disch:=first|exact zd|fail) [h,hpos,hk,hn,hz,htr,hnum,hpa0,-getElem?_pos]
  refine Zaj (fun i=>⟨[(1,.sc (.ptr 64 0)),(127,.sc (.c (.sl (Exp.armRows e.arms)))),(128,intV e.arms.length),(129,intV i)],[(64,some (.box (wc e.row)))]⟩) e.arms.length (by simp) (fun i hi=>?_) ?_
  .obtain ⟨p,hp⟩:=Zaa hi
   have hpm:=qb hp;have q1:=hpa p hpm;obtain⟨q2,q3⟩:=f10 p hpm;have hu:=Zpw (A:=A) p.1.con q2;have hav:=ZzC (A:=A) p.1.vars (by omega) (g4 p hpm);have q3':¬(4:Int)<p.1.vars.length:=(by omega);have q3'':¬4<p.1.vars.length:=(by omega);unfold Zgf;simp(maxSteps:=4000000) (disch:=first|exact zd|fail) [hi,hp,q1,q3',q3'',hu,hav,-getElem?_pos]
  .unfold Zgf
   simp(maxSteps:=4000000) (disch:=first|exact zd|fail) [hc,hch,-getElem?_pos]
 .have hkl:e.kids.length=1:=by have:=hs.2.2;rw [h] at this;exact this
  have ha:e.arms=[]:=hs.1.2.1 (by omega);obtain⟨x,hk⟩:∃x,e.kids=[x]:=by
   match hkk:e.kids,hkl with
   |[x],_=>exact⟨x,rfl⟩
  have hn:e.name=[]:=g3 (by unfold lowK;omega) (by omega);have hw:=f8 h;have hv1:=ZsE (A:=A) e.ty hw f6;have hv2:=Zsp (A:=A) e.ty hw f6;have hnum:=f3 (by omega);have hc:=ZaP (A:=A) e (by simp[hk]) hl;unfold v47;simp(maxSteps:=4000000) (disch:=first|exact zd|fail) [h,hpos,hk,ha,hn,hv1,hv2,hnum,hc,hch,-getElem?_pos]
  refine Zaj (fun i=>⟨[(1,.sc (.ptr 64 0)),(127,.sc (.c (.sl []))),(128,intV 0),(129,intV i)],[(64,some (.box (wc e.row)))]⟩) 0 (by simp) (fun i hi=>by omega) ?_;unfold Zgf;simp(maxSteps:=4000000) (disch:=first|exact zd|fail) [hc,hch,-getElem?_pos]
 .have hkl:e.kids.length=0:=by have:=hs.2.2;rw [h] at this;exact this
  have ha:e.arms=[]:=hs.1.2.1 (by omega);have hk:e.kids=[]:=qD.1 hkl;have hn:e.name=[]:=g3 (by unfold lowK;omega) (by omega);have htr:=ht9 (by omega);have hnum:=f3 (by omega);have hc:=ZaR (A:=A) e hk ha;rw[show e.children=[] by simp[Exp.children,hk,ha]]at hch;simp only[Zhb,rows0]at hch;unfold v47;simp(maxSteps:=4000000) (disch:=first|exact zd|fail) [h,hpos,hk,ha,hn,hz,htr,hnum,hc,hch,-getElem?_pos]
  refine Zaj (fun i=>⟨[(1,.sc (.ptr 64 0)),(127,.sc (.c (.sl []))),(128,intV 0),(129,intV i)],[(64,some (.box (wc e.row)))]⟩) 0 (by simp) (fun i hi=>by omega) ?_;unfold Zgf;simp(maxSteps:=4000000) (disch:=first|exact zd|fail) [hc,hch,-getElem?_pos]
 .have hkl:e.kids.length=1:=by have:=hs.2.2;rw [h] at this;exact this
  have ha:e.arms=[]:=hs.1.2.1 (by omega);obtain⟨x,hk⟩:∃x,e.kids=[x]:=by
   match hkk:e.kids,hkl with
   |[x],_=>exact⟨x,rfl⟩
  have hn:e.name=[]:=g3 (by unfold lowK;omega) (by omega);have htr:=ht9 (by omega);have hnum:=f3 (by omega);have hc:=ZaP (A:=A) e (by simp[hk]) hl;unfold v47;simp(maxSteps:=4000000) (disch:=first|exact zd|fail) [h,hpos,hk,ha,hn,hz,htr,hnum,hc,hch,-getElem?_pos]
  refine Zaj (fun i=>⟨[(1,.sc (.ptr 64 0)),(127,.sc (.c (.sl []))),(128,intV 0),(129,intV i)],[(64,some (.box (wc e.row)))]⟩) 0 (by simp) (fun i hi=>by omega) ?_;unfold Zgf;simp(maxSteps:=4000000) (disch:=first|exact zd|fail) [hc,hch,-getElem?_pos]
end Go.Vs.Tryz
namespace Go.Vs
end Go.Vs
namespace Go.Vs.Tryz
open Go Go.Vs
variable {A:Zab}
def allA (e:Exp)(out:List Str)(i:Nat):List Str:=out++(if e.name=[] then [] else [e.name])++((e.arms.take i).map fun a=>a.1.vars).flatten
def allC (e:Exp)(out:List Str)(i:Nat):List Str:=allA e out e.arms.length++((e.children.take i).map ZhH).flatten
variable {A:Zab}
def Ref36 (A:Zab)(n:Nat):Prop:=∀(e:Exp) (x:Str) (b:Exp),e.weight<=n->e.weight<=16777216->shp e->b.wf->b.weight<=16777216->(K A).call 103 [expV e,strV x,expV b] []=some (expV (refS n e x b),[])
theorem ZzW (s:Str):(varX s).wf/\(varX s).weight=1:=by
 refine⟨?_,?_⟩
 .rw [Exp.wf_eq]
  refine⟨⟨fun h=>?_,fun _=>rfl,fun _=>rfl⟩,fun x hx=>?_⟩
  .exact absurd (show(1:Int)=8 from h) (by decide)
  .simp[varX,Exp.children,Exp.kids,Exp.arms]at hx
 .rw [Exp.weight_eq]
  simp[varX,Exp.children,Exp.kids,Exp.arms]
theorem Zx4 (s:Str):expV (varX s)=.ag [.c (.int .i64 1),.c (.int .i64 0),.c (.str s),.c (.int .i64 0),.c (.sl []),.c (.sl []),.c (.int .i64 0),.c (.str []),.c (.int .i64 0),.c (.int .i64 0),.c (.sl [])]:=by
 rw[expV,Exp.row_eq];simp[varX,Exp.kind,Exp.pos,Exp.name,Exp.num,Exp.kids,Exp.arms,Exp.ty,Exp.rows,Exp.armRows,tz,Ty.kind,Ty.name,Ty.id,Ty.home,Ty.args,Ty.rows,wc]
def armOutR (n:Nat)(x:Str)(b:Exp)(a:ArmH×Exp):ArmH×Exp:=if x∈a.1.vars then a else ((ZkI (refS n) x b a).1,refS n (ZkI (refS n) x b a).2 x b)
variable {A:Zab}
variable {A:Zab}
variable {A:Zab}
theorem rawE.conV {ds:List DataD}(hc:ZdF ds){e:Exp}:rawE ds e->conV e:=by
 induction e using Exp.ind with
 |h e ih=>
  intro h;rw[Zcz];refine⟨fun a ha k hk=>?_,fun x hx=>ih x hx (h.child hx)⟩;rcases (h.one.2.1 a ha).2.1 with hG|⟨d,hd,c,hcc,hG⟩
  .rw [hG] at hk
   simp[Zbj]at hk
  .obtain ⟨_,⟨ch,h1,h2,h3⟩,_⟩:=hc d hd c hcc
   rw[<-hG,hk]at h1;simp[Zbj]at h1;subst h1;exact absurd h3 (by decide)
theorem ZAN (s:Str)(hs:s.length<=1000):shp (varX s)/\nmL (varX s)/\tyBd (varX s):=by
 have hc:(varX s).children=[]:=rfl;refine⟨?_,fun u hu=>?_,?_⟩
 .rw [ZdA,hc]
  exact⟨⟨⟨fun h=>absurd (show(1:Int)=8 from h) (by decide),fun _=>rfl,fun _=>rfl⟩,fun _=>⟨rfl,rfl⟩,rfl⟩,fun x hx=>by simp at hx⟩
 .rcases ZaN.1 hu with h|⟨i,x,hx,_⟩
  .rw [h]
   exact hs
  .rw [hc] at hx
   simp at hx
 .rw [Zeg,hc]
  exact⟨show tz.size<=1073741824 by decide,fun x hx=>by simp at hx⟩
theorem Zv5 (e:Exp)(x to:Str)(hxl:x.length<=1000)(htl:to.length<=1000)(hl:e.weight<=16777216)(hs:shp e)(hp:properP e)(hn:nmL e):(K A).call 206 [expV e,strV x,strV to] []=some (expV (subP e x (varX to)),[]):=by
 refine fnO v206 ?_;obtain⟨v1,v2,_⟩:=ZAN to htl;have h:=ZvD (A:=A) e x (varX to) v1 (by rw[(ZzW to).2];omega) v2 hxl hl hs hp hn;have hrow:=ZcC (subP e x (varX to));generalize subP e x (varX to)=r at *
 rw[Zx4]at h;unfold v206;simp(maxSteps:=4000000) (disch:=first|exact zd|fail) [h,hrow,-getElem?_pos]
variable {A:Zab}
theorem Zrb {α:Type}(x:α):[x][0]?=some x:=rfl
theorem ZyZ {α:Type}(x y:α):[x,y][0]?=some x:=rfl
def Zat (k6 k7 k9 k11:Nat):List (List W):=[[.c (.fn 153 [] []),.c (.fn 154 [] [])],[.clo 151 [true] [[.ptr k6 0]],.c (.fn 156 [] [])],[.clo 151 [true] [[.ptr k7 0]],.c (.fn 157 [] [])],
 [.c (.fn 158 [] []),.c (.fn 159 [] [])],[.clo 151 [true] [[.ptr k9 0]],.c (.fn 152 [] [])],[.clo 151 [true] [[.ptr k11 0]],.c (.fn 152 [] [])]]
theorem Zk0:(K A).call 101 [] []=some (.sc (.arr 0 6),[.arr 2 (Zat 1 2 3 4) 0,.box [.c (.int .i64 6)],.box [.c (.int .i64 7)],.box [.c (.int .i64 9)],.box [.c (.int .i64 11)]]):=Zfp (n:=40) (by kernel_rfl)
theorem Zvx (k:Int)(e:Exp):(K A).call 151 [expV e,.sc (.ptr 0 0)] [.box [.c (.int .i64 k)]]=some (Zaf (decide (e.kind=k)),[.box [.c (.int .i64 k)]]):=by
 refine fnO v151 ?_;unfold v151;simp(disch:=first|exact zd|fail) [-getElem?_pos]
theorem ZyQ (e x:Exp)(h:e.kids[0]?=some x):(K A).call 152 [expV e] []=some (.tu [expV x,Zaf true],[]):=by
 have hl:=(qd.1 h).1;refine fnO v152 ?_;unfold v152;simp(disch:=first|exact zd|fail) [h,hl,-getElem?_pos]
theorem Ztp (e:Exp)(hs:shp e):(K A).call 153 [expV e] []=some (Zaf (decide (e.kind=5/\∃f,e.kids[0]?=some f/\f.kind=4)),[]):=by
 refine fnO v153 ?_;unfold v153;by_cases h5:e.kind=5
 .obtain ⟨f,x,hk,_⟩:=hs.app h5
  by_cases h4:f.kind=4
  .simp(disch:=first|exact zd|fail) [h5,hk,h4,qN,-getElem?_pos]
  .simp(disch:=first|exact zd|fail) [h5,hk,h4,qN,-getElem?_pos]
 .simp(disch:=first|exact zd|fail) [h5,-getElem?_pos]
theorem Zt8 (e:Exp)(hs:shp e)(hl:e.weight<=1073741824):(K A).call 158 [expV e] []=some (Zaf (decide (e.kind=8/\∃k,e.kids[0]?=some k/\(Zau k).1.kind=2)),[]):=by
 refine fnO v158 ?_;unfold v158;by_cases h8:e.kind=8
 .obtain⟨k,hk⟩:∃k,e.kids=[k]:=by
   have hkl:e.kids.length=1:=by have:=hs.one.2.2;rw[h8]at this;exact this
   match hkk:e.kids,hkl with
   |[x],_=>exact⟨x,rfl⟩
  have hm:k∈e.children:=Zar (by rw[hk];simp);have h1:=made55 (A:=A) k (hs.child hm) (by have:=Exp.child_lt hm;omega);by_cases h2:(Zau k).1.kind=2
  .simp(disch:=first|exact zd|fail) [h8,hk,h1,h2,qN,-getElem?_pos]
  .simp(disch:=first|exact zd|fail) [h8,hk,h1,h2,qN,-getElem?_pos]
 .simp(disch:=first|exact zd|fail) [h8,-getElem?_pos]
theorem Zoy (e:Exp)(x:Str)(b:Exp)(he:okE e)(hb:okE b)(hen:lfE e)(hbn:lfE b)(hel:e.weight<=16777216)(hbl:b.weight<=16777216)(hx:x.length<=1000):(K A).call 155 [expV e,strV x,expV b] []=some (expV (subP e x b),[]):=
 ZvD e x b hb.1 hbl (ZkA hbn.1) hx hel he.1 he.2.1 (ZkA hen.1)
theorem Zk5 {e:Exp}(h:lowE e):e.name.length<=1000:=ZkA h _ (ZaN.2 (.inl rfl))
theorem ZAr (e f a k:Exp)(hk:e.kids=[f,a])(hf:f.kids=[k])(he:okE e)(hl:lfE e)(hw:e.weight<=6000):(K A).call 154 [expV e] []=some (.tu [expV (subP k f.name a),Zaf true],[]):=by
 have hfm:f∈e.children:=Zar (by rw[hk];simp);have ham:a∈e.children:=Zar (by rw[hk];simp);have hkm:k∈f.children:=Zar (by rw[hf];simp);have h1:=Exp.child_lt hfm;have h2:=Exp.child_lt ham;have h3:=Exp.child_lt hkm;have hs:=Zoy (A:=A) k f.name a ((he.child hfm).child hkm) (he.child ham) ((hl.child hfm).child hkm) (hl.child ham) (by omega) (by omega) (Zk5 (hl.child hfm).1)
 have e0:([f,a]:List Exp)[0]?=some f:=rfl;have e1:([f,a]:List Exp)[1]?=some a:=rfl;have e2:([k]:List Exp)[0]?=some k:=rfl;refine fnO v154 ?_;unfold v154;simp(disch:=first|exact zd|fail) [hk,hf,hs,e0,e1,e2,Zrb,ZyZ,-getElem?_pos]
theorem let156 (e f a:Exp)(hk:e.kids=[f,a])(he:okE e)(hl:lfE e)(hw:e.weight<=6000):(K A).call 156 [expV e] []=some (.tu [expV (subP a e.name f),Zaf true],[]):=by
 have hfm:f∈e.children:=Zar (by rw[hk];simp);have ham:a∈e.children:=Zar (by rw[hk];simp);have h1:=Exp.child_lt hfm;have h2:=Exp.child_lt ham;have hs:=Zoy (A:=A) a e.name f (he.child ham) (he.child hfm) (hl.child ham) (hl.child hfm) (by omega) (by omega) (Zk5 hl.1);have e0:([f,a]:List Exp)[0]?=some f:=rfl;have e1:([f,a]:List Exp)[1]?=some a:=rfl;refine fnO v156 ?_;unfold v156
 simp(disch:=first|exact zd|fail) [hk,hs,e0,e1,Zrb,ZyZ,-getElem?_pos]
theorem rec157 (e f a:Exp)(h7:e.kind=7)(hk:e.kids=[f,a])(he:okE e)(hl:lfE e)(hw:e.weight<=6000):(K A).call 157 [expV e] []=some (.tu [expV (subP a e.name (ZaY e f)),Zaf true],[]):=by
 have hfm:f∈e.children:=Zar (by rw[hk];simp);have ham:a∈e.children:=Zar (by rw[hk];simp);have h1:=Exp.child_lt hfm;have h2:=Exp.child_lt ham;have hag:=Zht (f:=f) he h7;have hs:=Zoy (A:=A) a e.name (ZaY e f) (he.child ham) (Zc0 he h7 hfm) (hl.child ham) (Zlw he h7 hl hfm) (by omega) (by omega) (Zk5 hl.1);have e0:([f,a]:List Exp)[0]?=some f:=rfl;have e1:([f,a]:List Exp)[1]?=some a:=rfl
 have hrow:wc (ZaY e f).row=[.c (.int .i64 e.kind),.c (.int .i64 e.pos),.c (.str e.name),.c (.int .i64 e.num),.c (.sl [f.row,f.row]),.c (.sl (Exp.armRows e.arms)),.c (.int .i64 e.ty.kind),.c (.str e.ty.name),.c (.int .i64 e.ty.id),.c (.int .i64 e.ty.home),.c (.sl (Ty.rows e.ty.args))]:=by
  unfold ZaY;simp[Exp.row,Ty.row_eq,wc,Exp.rows_map]
 have her:wc e.row=[.c (.int .i64 e.kind),.c (.int .i64 e.pos),.c (.str e.name),.c (.int .i64 e.num),.c (.sl [f.row,a.row]),.c (.sl (Exp.armRows e.arms)),.c (.int .i64 e.ty.kind),.c (.str e.ty.name),.c (.int .i64 e.ty.id),.c (.int .i64 e.ty.home),.c (.sl (Ty.rows e.ty.args))]:=by
  rw[Exp.row_eq,hk];simp[wc,Exp.rows_map]
 generalize hG:subP a e.name (ZaY e f)=G at *
 have hs':(K A).call 155 [expV a,strV e.name,.ag [.c (.int .i64 e.kind),.c (.int .i64 e.pos),.c (.str e.name),.c (.int .i64 e.num),.c (.sl [f.row,f.row]),.c (.sl (Exp.armRows e.arms)),.c (.int .i64 e.ty.kind),.c (.str e.ty.name),.c (.int .i64 e.ty.id),.c (.int .i64 e.ty.home),.c (.sl (Ty.rows e.ty.args))]] []=some (expV G,[]):=by rw[<-hrow];exact hs
 refine fnO v157 ?_;unfold v157;simp(disch:=first|exact zd|fail) [her,hs',e0,e1,Zrb,ZyZ,-getElem?_pos]
variable {A:Zab}
def Zf6 (e:Exp)(i:Nat):List Str:=e.name::((e.arms.take i).map fun a=>a.1.vars).flatten
def ZhI (e:Exp)(i:Nat):List Str:=Zf6 e e.arms.length++((e.children.take i).map Zav).flatten
theorem Zre {e:Exp}{i:Nat}{a:ArmH×Exp}(h:e.arms[i]?=some a):Zf6 e (i+1)=Zf6 e i++a.1.vars:=by
 unfold Zf6;rw[Zaq h];simp
theorem Zrp {e x:Exp}{i:Nat}(h:e.children[i]?=some x):ZhI e (i+1)=ZhI e i++Zav x:=by
 unfold ZhI;rw[Zaq h];simp
theorem Zsi (e:Exp):ZhI e (e.kids.length+e.arms.length)=Zav e:=by
 unfold ZhI Zf6;rw[Zet,qi (qg _),qi (by rw[e.children_len];exact qg _)];simp
theorem ZuQ (e:Exp)(i:Nat):(Zf6 e i).length<=e.weight:=by
 have h1:(((e.arms.take i).map fun a=>a.1.vars).flatten).length<=(e.arms.map fun a=>a.1.vars.length).sum:=by
  rw[qa2,qai,qax];exact ZcS
 have h2:=e.weight_eq;unfold Zf6;rw[qK];omega
theorem Zsf (e:Exp)(i:Nat):(ZhI e i).length<=e.weight:=by
 have h1:=Zld e;have h3:(((e.children.take i).map Zav).flatten).length<=((e.children.map Zav).flatten).length:=by
  rw[qa2,qa2,qai,qai,qax];exact ZcS
 have h4:Zf6 e e.arms.length=e.name::(e.arms.map fun a=>a.1.vars).flatten:=by unfold Zf6;rw[qi (qg _)]
 rw[Zet,qK,qC]at h1;unfold ZhI;rw[qC,h4,qK];omega
theorem ZyT (e:Exp):e.wf->e.weight<=1073741824->(K A).call 205 [expV e] []=some (ZaF (Zav e),[]):=by
 induction e using Exp.ind with
 |h e ih=>
 intro hwf hl;refine fnO v205 ?_;have hle:=e.children_le;rw[e.children_len]at hle;have h0:Zf6 e 0=[e.name]:=rfl;have hr:wr (Zai [e.name])=[[W.c (.str e.name)]]:=rfl;have hkt:ZhI e 0=Zf6 e e.arms.length:=by simp[ZhI]
 have hend:=Zsi e;unfold v205;simp(maxSteps:=4000000) (disch:=first|exact zd|fail) [-getElem?_pos];refine Zaj (fun i=>⟨[(1,.sc (.ptr 64 0)),(3,.sc (.arr 320 (Zf6 e i).length)),(12,.sc (.c (.sl (Exp.armRows e.arms)))),(13,intV e.arms.length),(14,intV i)],[(64,some (.box (wc e.row))),(320,some (.arr 1 (wr (Zai (Zf6 e i))) 0))]⟩) e.arms.length ?_ ?_ ?_
 .simp[h0,hr]
 .intro i hi
  obtain⟨a,ha⟩:=Zaa hi;have hs:=Zre ha;have hlen:=ZuQ e (i+1);rw[hs,qC]at hlen;rw[hs];generalize Zf6 e i=ai at *
  unfold ZmE;simp(maxSteps:=4000000) (disch:=first|exact zd|fail) [hi,ha,-getElem?_pos]
 .rw [<-hkt]
  by_cases hkids:e.kids=[]
  .have harms:e.arms=[]:=qV fun h=>by
    have h8:e.kind=8:=qV fun h8=>h (hwf.one.2.1 h8);have:=hwf.one.1 h8;rw[hkids]at this;simp at this
   have hc:=ZaR (A:=A) e hkids harms;rw[hkids,harms]at hend;simp only[qU,qa7]at hend;rw[hend];unfold ZmE;simp(maxSteps:=4000000) (disch:=first|exact zd|fail) [hc,-getElem?_pos];refine Zaj (fun i=>⟨[(3,.sc (.arr 320 (Zav e).length)),(24,.sc (.full [])),(25,intV 0),(26,intV i)],[(64,some (.box (wc e.row))),(320,some (.arr 1 (wr (Zai (Zav e))) 0))]⟩) 0 ?_ (fun i hi=>by omega) ?_
   .simp
   .unfold Zpd
    simp(maxSteps:=4000000) (disch:=first|exact zd|fail) [-getElem?_pos]
  .have hc:=ZaP (A:=A) e hkids hl
   rw[e.children_len]at hc;unfold ZmE;simp(maxSteps:=4000000) (disch:=first|exact zd|fail) [hc,-getElem?_pos]
   refine Zaj (fun i=>⟨[(3,.sc (.arr 320 (ZhI e i).length)),(24,.sc (.arr 1568 (e.kids.length+e.arms.length))),(25,intV ((e.kids.length:Int)+e.arms.length)),(26,intV i)],[(64,some (.box (wc e.row))),(320,some (.arr 1 (wr (Zai (ZhI e i))) 0)),(1568,some (.arr 11 (wr (Exp.rows e.children)) 0))]⟩) (e.kids.length+e.arms.length) ?_ ?_ ?_
   .simp
   .intro i hi
    have hi2:(i:Int)<(e.kids.length:Int)+e.arms.length:=(by omega);obtain⟨x,hx⟩:=Zaa (l:=e.children) (i:=i) (by rw[e.children_len];exact hi);have hm:=qb hx;have hrec:=ih x hm (hwf.child hm) (by have:=Exp.child_lt hm;omega);have hs:=Zrp hx;have hlen:=Zsf e (i+1);rw[hs,qC]at hlen;rw[hs];generalize ZhI e i=ai at *
    generalize Zav x=ux at *
    unfold Zpd;simp(maxSteps:=4000000) (disch:=first|exact zd|fail) [hi,hi2,hx,hrec,-getElem?_pos]
   .rw [hend]
    unfold Zpd;simp(maxSteps:=4000000) (disch:=first|exact zd|fail) [-getElem?_pos]
theorem con204 (a:ArmH×Exp)(h:Exp):(K A).call 204 [.ag (wc (ZaD a)),.sc (.ptr 0 0)] [.box (wc h.row)]=some (Zaf (decide (a.1.con=h.name)),[.box (wc h.row)]):=by
 refine fnO v204 ?_;unfold v204;simp(disch:=first|exact zd|fail) [-getElem?_pos]
def Zhu (l:List (ArmH×Exp))(s:Str):Int:=match l.findIdx? (fun a=>a.1.con==s)with
 |some i=>i
 |none=>-1
theorem Zut {l:List (ArmH×Exp)}{s:Str}{i:Nat}{a:ArmH×Exp}(h:l[i]?=some a)(ha:a.1.con=s)(hn:∀(j:Nat) b,j<i->l[j]?=some b->b.1.con≠s):Zhu l s=i:=by
 unfold Zhu;have:l.findIdx? (fun x=>x.1.con==s)=some i:=by
  rw[qaH];obtain⟨hi,he⟩:=qd.1 h;refine⟨hi,by rw[he];simpa using ha,fun j hj=>?_⟩;have:=hn j _ hj (qk (by omega));simpa using this
 rw[this]
theorem ZnN {l:List (ArmH×Exp)}{s:Str}(hn:∀(j:Nat) b,j<l.length->l[j]?=some b->b.1.con≠s):Zhu l s=-1:=by
 unfold Zhu;have:l.findIdx? (fun x=>x.1.con==s)=none:=by
  rw[List.findIdx?_eq_none_iff];intro x hx;obtain⟨j,hj,rfl⟩:=qM hx;have:=hn j _ hj (qk hj);simpa using this
 rw[this]
theorem ZwS (l:List (ArmH×Exp))(h:Exp)(hl:l.length<=1073741824):(K A).call 203 [.sc (.c (.sl (Exp.armRows l))),.sc (.clo 204 [true] [[.ptr 0 0]])] [.box (wc h.row)]=some (intV (Zhu l h.name),[.box (wc h.row)]):=by
 refine fnO v203 ?_;unfold v203;simp(disch:=first|exact zd|fail) [-getElem?_pos];refine Zad (fun i s=>(∀(j:Nat) b,j<i->l[j]?=some b->b.1.con≠h.name)/\s=⟨[(0,.sc (.c (.sl (Exp.armRows l)))),(1,.sc (.clo 204 [true] [[.ptr 0 0]])),(7,intV l.length),(8,intV i)],[(0,some (.box (wc h.row)))]⟩) l.length ⟨by omega,by simp⟩ ?_ ?_
 .rintro i s hi ⟨hn,rfl⟩
  obtain⟨a,ha⟩:=Zaa hi;have hc:=con204 (A:=A) a h;unfold Zs8;by_cases hca:a.1.con=h.name
  .have hx:=Zut ha hca hn
   simp(disch:=first|exact zd|fail) [hi,ha,hc,hca,hx,-getElem?_pos]
  .simp (disch:=first|exact zd|fail) [hi,ha,hc,hca,-getElem?_pos]
   intro j b x hj hb;by_cases hji:j<i
   .exact hn j (b,x) hji hb
   .obtain rfl:j=i:=by omega
    rw[ha]at hb;cases hb;exact hca
 .rintro s ⟨hn,rfl⟩
  have hx:=ZnN hn;unfold Zs8;simp(disch:=first|exact zd|fail) [hx,-getElem?_pos]
theorem Zn2 {l:List (ArmH×Exp)}{s:Str}:(Zhu l s=-1/\l.find? (fun a=>a.1.con==s)=none)\/∃(i:Nat) (a:ArmH×Exp),Zhu l s=i/\l[i]?=some a/\l.find? (fun a=>a.1.con==s)=some a:=by
 unfold Zhu;cases h:l.findIdx? (fun x=>x.1.con==s)with
 |none=>
  refine .inl ⟨rfl,?_⟩;rw[List.findIdx?_eq_none_iff]at h;rw[List.find?_eq_none];intro x hx;simp[h x hx]
 |some i=>
  obtain⟨hi,h1,h2⟩:=qaH.1 h;refine .inr ⟨i,l[i],rfl,qk hi,?_⟩;rw[List.find?_eq_some_iff_getElem];exact⟨h1,i,hi,rfl,fun j hj=>by simpa using h2 j hj⟩
def Zlh (e:Exp)(o:Option (Exp×Nat)):V:=match o with
 |some p=>.tu [expV p.1,Zaf true]
 |none=>.tu [expV e,Zaf false]
def chB (T:List Str)(vars:List Str)(b:Exp)(i:Nat):Exp:=ZaO ((renL T vars).take i) b
def chS (T:List Str)(args:List Exp)(b:Exp)(i:Nat):Exp:=ZaO ((argL T args).take i) b
theorem Zi7 (l:List (Str×Exp))(p:Str×Exp)(b:Exp):ZaO (l++[p]) b=subP (ZaO l b) p.1 p.2:=by rw[Zeq];rfl
theorem ZwE {T vars:List Str}{b:Exp}{i:Nat}{v:Str}(h:vars[i]?=some v):chB T vars b (i+1)=subP (chB T vars b i) v (varX (Zax i T)):=by
 have h2:(renL T vars)[i]?=some (v,varX (Zax i T)):=by unfold renL;simp[h]
 unfold chB;rw[Zaq h2,Zi7]
theorem ZwY {T:List Str}{args:List Exp}{b:Exp}{i:Nat}{x:Exp}(h:args[i]?=some x):chS T args b (i+1)=subP (chS T args b i) (Zax i T) x:=by
 have h2:(argL T args)[i]?=some (Zax i T,x):=by unfold argL;simp[h]
 unfold chS;rw[Zaq h2,Zi7]
theorem ZxD (e:Exp):lowE e->∀s∈Zav e,s.length<=1000:=by
 induction e using Exp.ind with
 |h e ih=>
  intro h s hs;rw[Zet]at hs;rcases qz.1 hs with rfl|hs
  .exact Zk5 h
  .rcases qn.1 hs with hs|hs
   .obtain ⟨l,hl,hs⟩:=qbl.1 hs
    obtain⟨a,ha,rfl⟩:=qF.1 hl;exact qx (h.one.2.2.2 a ha s hs).1 (by decide)
   .obtain ⟨l,hl,hs⟩:=qbl.1 hs
    obtain⟨x,hx,rfl⟩:=qF.1 hl;exact ih x hx (h.child hx) s hs
theorem ZvB (e k:Exp)(hk:e.kids=[k])(he:okE e)(hl:lfE e)(hw:e.weight<=6000):(K A).call 159 [expV e] []=some (Zlh e (Zct subP Zav e (Zau k).1.name (Zau k).2),[]):=by
 have hkm:k∈e.children:=Zar (by rw[hk];simp);have hkl:=Exp.child_lt hkm;have hsk:=(he.child hkm).1;have hsp:=Zvw (A:=A) k hsk (by omega);have hal:=e.children_le;rw[e.children_len]at hal;have hix:=ZwS (A:=A) e.arms (Zau k).1 (by omega);have hsl:=ZlB k hsk;have hus:=ZyT (A:=A) e he.1.wf (by omega);have hul:=Zld e;refine fnO v159 ?_;unfold v159 Zct
 rcases Zn2 (l:=e.arms) (s:=(Zau k).1.name)with ⟨h1,h2⟩|⟨i,a,h1,hai,h2⟩
 .rw [h1] at hix
  rw[h2];simp(maxSteps:=4000000) (disch:=first|exact zd|fail) [hk,Zrb,hsp,hix,Zlh,-getElem?_pos]
 .rw [h1] at hix
  rw[h2];have hi0:=(qd.1 hai).1;have hin:¬(i:Int)<0:=by omega
  simp only;by_cases hv:a.1.vars.length=(Zau k).2.length
  .rw [if_pos hv]
   have hC:CaseOk e k a:=⟨he,hl,hw,hk,qb hai⟩;have hsum:=hC.sum;have hch:Zsy subP (Zi1 (Zav e) a.1.vars (Zau k).2) a.2=chS (Zav e) (Zau k).2 (chB (Zav e) a.1.vars a.2 a.1.vars.length) (Zau k).2.length:=by
    unfold chS chB;rw[qi (show(renL (Zav e) a.1.vars).length<=_ by simp[renL]),qi (show(argL (Zav e) (Zau k).2).length<=_ by simp[argL]),<-Zeq];rfl
   have hnmT:∀s∈Zav e,s.length<=281474976710656:=fun s hs=>qx (ZxD e hl.1 s hs) (by decide);rw[hch];simp(maxSteps:=4000000) (disch:=first|exact zd|fail) [hk,Zrb,hsp,hix,hin,hai,hi0,hv,hus,Zlh,-getElem?_pos];have hfr:∀i:Nat,i<=6000->(K A).call 207 [intV i,ZaF (Zav e)] []=some (strV (Zax i (Zav e)),[]):=fun i hi=>Zr7 (A:=A) i i (by omega) (by omega) (Zav e) (by omega) (by omega) hnmT
   have hfl:∀i:Nat,i<=6000->(Zax i (Zav e)).length<=1000:=fun i hi=>Zjh i (Zav e) (by omega);refine Zaj (fun i=>⟨[(2,.sc (.ptr 128 0)),(5,Zhb (Zau k).2),(7,.sc (.ptr 2880 0)),(8,ZaF (Zav e)),(53,ZaF a.1.vars),(54,intV (Zau k).2.length),(55,intV i)],
    [(64,some (.box (wc e.row))),(128,some (.box [zi,zi,zs,zi,.nil,.nil,zi,zs,zi,zi,.nil])),(768,some (.box (wc (Zau k).1.row))),(2880,some (.box (wc (chB (Zav e) a.1.vars a.2 i).row)))]⟩) (Zau k).2.length ?_ ?_ ?_
   .simp[chB,ZaO]
   .intro i hi
    obtain⟨v,hvi⟩:=Zaa (l:=a.1.vars) (i:=i) (by omega);obtain⟨r1,r2,r3⟩:=hC.ren i;have hvl:v.length<=1000:=qx (hl.1.one.2.2.2 a hC.am v (qb hvi)).1 (by decide);have hren:=Zv5 (A:=A) (chB (Zav e) a.1.vars a.2 i) v (Zax i (Zav e)) hvl (hfl i (by omega)) (show _<=_ from qx r3 (by omega)) r1.1 r1.2.1 (ZkA r2.1);rw[<-ZwE hvi]at hren;have hf:=hfr i (by omega);have hi2:i<a.1.vars.length:=(by omega);unfold Zo5
    simp(maxSteps:=4000000) (disch:=first|exact zd|fail) [hi,hi2,hvi,hf,hren,-getElem?_pos]
   .have hB:chB (Zav e) a.1.vars a.2 (Zau k).2.length=ZaO (renL (Zav e) a.1.vars) a.2:=by
     unfold chB;rw[qi (by simp[renL];omega)]
    rw[hB];unfold Zo5;simp(maxSteps:=4000000) (disch:=first|exact zd|fail) [-getElem?_pos];refine Zaj (fun i=>⟨[(2,.sc (.ptr 128 0)),(7,.sc (.ptr 2880 0)),(8,ZaF (Zav e)),(67,Zhb (Zau k).2),(68,intV (Zau k).2.length),(69,intV i)],
     [(64,some (.box (wc e.row))),(128,some (.box [zi,zi,zs,zi,.nil,.nil,zi,zs,zi,zi,.nil])),(768,some (.box (wc (Zau k).1.row))),(2880,some (.box (wc (chS (Zav e) (Zau k).2 (ZaO (renL (Zav e) a.1.vars) a.2) i).row)))]⟩) (Zau k).2.length ?_ ?_ ?_
    .simp[chS,ZaO]
    .intro i hi
     obtain⟨x,hx⟩:=Zaa (l:=(Zau k).2) (i:=i) hi;obtain⟨s1,s2,s3,s4⟩:=hC.sub i;obtain⟨x1,x2,x3,_⟩:=hC.args x (qb hx);have hsu:=Zoy (A:=A) (chS (Zav e) (Zau k).2 (ZaO (renL (Zav e) a.1.vars) a.2) i) (Zax i (Zav e)) x s1 x1 s2 x2 (qx s3 s4) (by omega) (hfl i (by omega));rw[<-ZwY hx]at hsu;have hf:=hfr i (by omega);unfold Zsh;simp(maxSteps:=4000000) (disch:=first|exact zd|fail) [hi,hx,hf,hsu,-getElem?_pos]
    .unfold Zsh
     simp(maxSteps:=4000000) (disch:=first|exact zd|fail) [-getElem?_pos]
  .rw [if_neg hv]
   have hv':¬(a.1.vars.length:Int)=(Zau k).2.length:=(by omega);simp(maxSteps:=4000000) (disch:=first|exact zd|fail) [hk,Zrb,hsp,hix,hin,hai,hi0,hv,hv',Zlh,-getElem?_pos]
variable {A:Zab}
def StepR (o:Option (Exp×Nat))(r:V×List Obj):Prop:=match o with
 |some p=>r=(.tu [expV p.1,intV p.2,Zaf true],[])
 |none=>∃(x:Exp) (m:Int),r=(.tu [expV x,intV m,Zaf false],[])
def Zdx (e:Exp)(i:Nat):St:=⟨[(1,.sc (.ptr 64 0)),(2,.sc (.ptr 128 0)),(13,.sc (.arr 352 6)),(14,intV 6),(15,intV i)],
 [(64,some (.box (wc e.row))),(128,some (.box [zi,zi,zs,zi,.nil,.nil,zi,zs,zi,zi,.nil])),(352,some (.arr 2 (Zat 353 354 355 356) 0)),(353,some (.box [.c (.int .i64 6)])),(354,some (.box [.c (.int .i64 7)])),(355,some (.box [.c (.int .i64 9)])),(356,some (.box [.c (.int .i64 11)]))]⟩
def ZeC (e:Exp)(i:Nat):Prop:=(i=0/\e.kind=5/\∃f,e.kids[0]?=some f/\f.kind=4)\/(i=1/\e.kind=6)\/(i=2/\e.kind=7)\/(i=3/\e.kind=8/\∃k,e.kids[0]?=some k/\(Zau k).1.kind=2)\/(i=4/\e.kind=9)\/(i=5/\e.kind=11)
theorem Znl (e:Exp)(hs:shp e)(hl:e.weight<=1073741824)(i:Nat)(hi:i<6)(hno:¬ZeC e i):wp (K A) Zfn (fun x s'=>x=.normal/\s'=Zdx e (i+1)) (Zdx e i):=by
 have h0:=Ztp (A:=A) e hs;have h3:=Zt8 (A:=A) e hs hl;have h1:=fun k=>Zvx (A:=A) k e;have hi6:(i:Int)<6:=by omega
 unfold ZeC at hno;have:i=0\/i=1\/i=2\/i=3\/i=4\/i=5:=by omega
 have g0:(Zat 353 354 355 356)[0]?=some [.c (.fn 153 [] []),.c (.fn 154 [] [])]:=rfl;have g1:(Zat 353 354 355 356)[1]?=some [.clo 151 [true] [[.ptr 353 0]],.c (.fn 156 [] [])]:=rfl;have g2:(Zat 353 354 355 356)[2]?=some [.clo 151 [true] [[.ptr 354 0]],.c (.fn 157 [] [])]:=rfl;have g3:(Zat 353 354 355 356)[3]?=some [.c (.fn 158 [] []),.c (.fn 159 [] [])]:=rfl
 have g4:(Zat 353 354 355 356)[4]?=some [.clo 151 [true] [[.ptr 355 0]],.c (.fn 152 [] [])]:=rfl;have g5:(Zat 353 354 355 356)[5]?=some [.clo 151 [true] [[.ptr 356 0]],.c (.fn 152 [] [])]:=rfl;have gl:(Zat 353 354 355 356).length=6:=rfl;have gren:(Zat 353 354 355 356).map (fun x=>x.map (W.ren (Zdy [768,1184,1185,1186,1440,1441,1442,1664]) 4))=Zat 353 354 355 356:=rfl
 have m2:Zan (intV 2) 6=some 2:=rfl;have m3:Zan (intV 3) 6=some 3:=rfl;have m4:Zan (intV 4) 6=some 4:=rfl;have m5:Zan (intV 5) 6=some 5:=rfl;rcases this with rfl|rfl|rfl|rfl|rfl|rfl
 .have hd:decide (e.kind=5/\∃ f,e.kids[0]?=some f/\f.kind=4)=false:=by simpa using hno
  rw[hd]at h0;unfold Zfn Zdx;generalize Zat 353 354 355 356=RR at *
  simp(maxSteps:=4000000) (disch:=first|exact zd|fail) [h0,g0,gl,gren,m2,m3,m4,m5,-getElem?_pos]
 .have hd:¬e.kind=6:=by simpa using hno
  have hc:=h1 6;unfold Zfn Zdx;generalize Zat 353 354 355 356=RR at *
  simp(maxSteps:=4000000) (disch:=first|exact zd|fail) [hc,hd,g1,gl,gren,m2,m3,m4,m5,-getElem?_pos]
 .have hd:¬e.kind=7:=by simpa using hno
  have hc:=h1 7;unfold Zfn Zdx;generalize Zat 353 354 355 356=RR at *
  simp(maxSteps:=4000000) (disch:=first|exact zd|fail) [hc,hd,g2,gl,gren,m2,m3,m4,m5,-getElem?_pos]
 .have hd:decide (e.kind=8/\∃ k,e.kids[0]?=some k/\(Zau k).1.kind=2)=false:=by simpa using hno
  rw[hd]at h3;unfold Zfn Zdx;generalize Zat 353 354 355 356=RR at *
  simp(maxSteps:=4000000) (disch:=first|exact zd|fail) [h3,g3,gl,gren,m2,m3,m4,m5,-getElem?_pos]
 .have hd:¬e.kind=9:=by simpa using hno
  have hc:=h1 9;unfold Zfn Zdx;generalize Zat 353 354 355 356=RR at *
  simp(maxSteps:=4000000) (disch:=first|exact zd|fail) [hc,hd,g4,gl,gren,m2,m3,m4,m5,-getElem?_pos]
 .have hd:¬e.kind=11:=by simpa using hno
  have hc:=h1 11;unfold Zfn Zdx;generalize Zat 353 354 355 356=RR at *
  simp(maxSteps:=4000000) (disch:=first|exact zd|fail) [hc,hd,g5,gl,gren,m2,m3,m4,m5,-getElem?_pos]
def aidN (i:Nat):Nat:=if i=0 then 154 else if i=1 then 156 else if i=2 then 157 else if i=3 then 159 else 152
theorem Zft (e:Exp)(hs:shp e)(hl:e.weight<=1073741824)(i:Nat)(hi:i<6)(hno:∀j,j<i->¬ZeC e j)(ha:ZeC e i)(x:Exp)(b:Bool)(hc:(K A).call (aidN i) [expV e] []=some (.tu [expV x,Zaf b],[])):
 (K A).call 48 [expV e] []=some (.tu [expV x,intV (i+1),Zaf b],[]):=by
 have hrl:=Zk0 (A:=A);have h0:=Ztp (A:=A) e hs;have h3:=Zt8 (A:=A) e hs hl;have h1:=fun k=>Zvx (A:=A) k e;have g0:(Zat 353 354 355 356)[0]?=some [.c (.fn 153 [] []),.c (.fn 154 [] [])]:=rfl;have g1:(Zat 353 354 355 356)[1]?=some [.clo 151 [true] [[.ptr 353 0]],.c (.fn 156 [] [])]:=rfl;have g2:(Zat 353 354 355 356)[2]?=some [.clo 151 [true] [[.ptr 354 0]],.c (.fn 157 [] [])]:=rfl
 have g3:(Zat 353 354 355 356)[3]?=some [.c (.fn 158 [] []),.c (.fn 159 [] [])]:=rfl;have g4:(Zat 353 354 355 356)[4]?=some [.clo 151 [true] [[.ptr 355 0]],.c (.fn 152 [] [])]:=rfl;have g5:(Zat 353 354 355 356)[5]?=some [.clo 151 [true] [[.ptr 356 0]],.c (.fn 152 [] [])]:=rfl;have gl:(Zat 353 354 355 356).length=6:=rfl
 have gr:(Zat 1 2 3 4).map (fun x=>x.map (W.ren (nthN [352,353,354,355,356]) 4))=Zat 353 354 355 356:=rfl;have m2:Zan (intV 2) 6=some 2:=rfl;have m3:Zan (intV 3) 6=some 3:=rfl;have m4:Zan (intV 4) 6=some 4:=rfl;have m5:Zan (intV 5) 6=some 5:=rfl;refine fnO v48 ?_;unfold v48;simp(maxSteps:=4000000) (disch:=first|exact zd|fail) [hrl,gl,gr,-getElem?_pos]
 refine Zaj (Zdx e) i (by simp[Zdx]) (fun j hj=>Znl e hs hl j (by omega) (hno j hj)) ?_;clear hrl gr;have hi6:i=0\/i=1\/i=2\/i=3\/i=4\/i=5:=by omega
 unfold ZeC at ha;rcases hi6 with rfl|rfl|rfl|rfl|rfl|rfl
 .replace hc:(K A).call 154 [expV e] []=some (.tu [expV x,Zaf b],[]):=hc
  have hd:decide (e.kind=5/\∃f,e.kids[0]?=some f/\f.kind=4)=true:=by simpa using ha
  rw[hd]at h0;unfold Zfn Zdx;generalize Zat 353 354 355 356=RR at *
  simp(maxSteps:=4000000) (disch:=first|exact zd|fail) [h0,hc,g0,gl,m2,m3,m4,m5,-getElem?_pos]
 .replace hc:(K A).call 156 [expV e] []=some (.tu [expV x,Zaf b],[]):=hc
  have hd:e.kind=6:=by simpa using ha
  have hk:=h1 6;unfold Zfn Zdx;generalize Zat 353 354 355 356=RR at *
  simp(maxSteps:=4000000) (disch:=first|exact zd|fail) [hk,hd,hc,g1,gl,m2,m3,m4,m5,-getElem?_pos]
 .replace hc:(K A).call 157 [expV e] []=some (.tu [expV x,Zaf b],[]):=hc
  have hd:e.kind=7:=by simpa using ha
  have hk:=h1 7;unfold Zfn Zdx;generalize Zat 353 354 355 356=RR at *
  simp(maxSteps:=4000000) (disch:=first|exact zd|fail) [hk,hd,hc,g2,gl,m2,m3,m4,m5,-getElem?_pos]
 .replace hc:(K A).call 159 [expV e] []=some (.tu [expV x,Zaf b],[]):=hc
  have hd:decide (e.kind=8/\∃k,e.kids[0]?=some k/\(Zau k).1.kind=2)=true:=by simpa using ha
  rw[hd]at h3;unfold Zfn Zdx;generalize Zat 353 354 355 356=RR at *
  simp(maxSteps:=4000000) (disch:=first|exact zd|fail) [h3,hc,g3,gl,m2,m3,m4,m5,-getElem?_pos]
 .replace hc:(K A).call 152 [expV e] []=some (.tu [expV x,Zaf b],[]):=hc
  have hd:e.kind=9:=by simpa using ha
  have hk:=h1 9;unfold Zfn Zdx;generalize Zat 353 354 355 356=RR at *
  simp(maxSteps:=4000000) (disch:=first|exact zd|fail) [hk,hd,hc,g4,gl,m2,m3,m4,m5,-getElem?_pos]
 .replace hc:(K A).call 152 [expV e] []=some (.tu [expV x,Zaf b],[]):=hc
  have hd:e.kind=11:=by simpa using ha
  have hk:=h1 11;unfold Zfn Zdx;generalize Zat 353 354 355 356=RR at *
  simp(maxSteps:=4000000) (disch:=first|exact zd|fail) [hk,hd,hc,g5,gl,m2,m3,m4,m5,-getElem?_pos]
theorem Zpa (e:Exp)(hs:shp e)(hl:e.weight<=1073741824)(hno:∀j,j<6->¬ZeC e j)(h5:e.kind≠5)(h8:e.kind≠8):(K A).call 48 [expV e] []=some (.tu [expV e,intV 0,Zaf false],[]):=by
 have hrl:=Zk0 (A:=A);have gl:(Zat 353 354 355 356).length=6:=rfl;have gr:(Zat 1 2 3 4).map (fun x=>x.map (W.ren (nthN [352,353,354,355,356]) 4))=Zat 353 354 355 356:=rfl;refine fnO v48 ?_;unfold v48;simp(maxSteps:=4000000) (disch:=first|exact zd|fail) [hrl,gl,gr,-getElem?_pos];refine Zaj (Zdx e) 6 (by simp[Zdx]) (fun j hj=>Znl e hs hl j (by omega) (hno j hj)) ?_;clear hrl gr;unfold Zfn Zdx
 generalize Zat 353 354 355 356=RR at *
 simp(maxSteps:=4000000) (disch:=first|exact zd|fail) [h5,h8,gl,-getElem?_pos]
theorem ZyY (e f x:Exp)(m:Int)(b:Bool)(hs:shp e)(hl:e.weight<=1073741824)(hno:∀j,j<6->¬ZeC e j)(h58:e.kind=5\/e.kind=8)(hf:e.kids[0]?=some f)(hc:(K A).call 48 [expV f] []=some (.tu [expV x,intV m,Zaf b],[])):
 (K A).call 48 [expV e] []=some (.tu [expV (Zbs e (x::e.children.tail)),intV m,Zaf b],[]):=by
 have hrl:=Zk0 (A:=A);have gl:(Zat 353 354 355 356).length=6:=rfl;have gr:(Zat 1 2 3 4).map (fun x=>x.map (W.ren (nthN [352,353,354,355,356]) 4))=Zat 353 354 355 356:=rfl;have hkl:0<e.kids.length:=by
  cases hh:e.kids with
  |nil=>rw[hh]at hf;simp at hf
  |cons a l=>simp
 have hne:e.kids≠[]:=fun h=>by rw[h]at hkl;simp at hkl
 have hle:=e.children_le;rw[e.children_len]at hle;have hch:=ZaP (A:=A) e hne hl;have hcl:=e.children_len;have hset:e.children.set 0 x=x::e.children.tail:=by
  cases hh:e.children with
  |nil=>rw[hh]at hcl;simp at hcl;omega
  |cons a l=>rfl
 have hrs:setRow (wr (Exp.rows e.children)) 0 (wc x.row)=wr (Exp.rows (x::e.children.tail)):=by rw[Zdc,hset]
 have hCl:(x::e.children.tail).length=e.kids.length+e.arms.length:=by rw[<-hset,List.length_set,hcl]
 have hw:=Zfu (A:=A) e (x::e.children.tail) hCl hl;have hg0:∃c,e.children[0]?=some c:=Zaa (by omega);obtain⟨c0,hg0⟩:=hg0;rw[hcl]at hch;have hrow':=ZcC e
 have hrowW:wc (Zbs e (x::e.children.tail)).row=[.c (.int .i64 e.kind),.c (.int .i64 e.pos),.c (.str e.name),.c (.int .i64 e.num),.c (.sl (Exp.rows ((x::e.children.tail).take e.kids.length))),.c (.sl (Exp.armRows (Zbk e.arms ((x::e.children.tail).drop e.kids.length)))),.c (.int .i64 e.ty.kind),.c (.str e.ty.name),.c (.int .i64 e.ty.id),.c (.int .i64 e.ty.home),.c (.sl (Ty.rows e.ty.args))]:=by rw[Exp.row_eq];rfl
 have hkW:((x::e.children.tail).take e.kids.length).length=e.kids.length:=by rw[qS,hCl];omega
 have haW:(Zbk e.arms ((x::e.children.tail).drop e.kids.length)).length=e.arms.length:=by rw[armsW_len,qZ,hCl];omega
 refine fnO v48 ?_;unfold v48;simp(maxSteps:=4000000) (disch:=first|exact zd|fail) [hrl,gl,gr,-getElem?_pos];refine Zaj (Zdx e) 6 (by simp[Zdx]) (fun j hj=>Znl e hs hl j (by omega) (hno j hj)) ?_;clear hrl gr;unfold Zfn Zdx;generalize Zat 353 354 355 356=RR at *
 generalize x::e.children.tail=cs at *
 simp only[expV,hrow']at hch hw;rcases h58 with h5|h5
 .simp only [h5] at hch hw hrowW
  simp(maxSteps:=4000000) (disch:=first|exact zd|fail) [h5,gl,hf,hc,hch,hrs,hg0,hw,hrowW,hCl,hkW,haW,hrow',-getElem?_pos]
 .simp only [h5] at hch hw hrowW
  simp(maxSteps:=4000000) (disch:=first|exact zd|fail) [h5,gl,hf,hc,hch,hrs,hg0,hw,hrowW,hCl,hkW,haW,hrow',-getElem?_pos]
theorem Zw8 {e:Exp}(hs:shp e)(h:e.kind=5\/e.kind=6\/e.kind=7):∃f a,e.kids=[f,a]:=by
 have h1:=hs.one.2.2;unfold ZgO at h1;rw[if_pos h]at h1
 match hk:e.kids with
 |[f,a]=>exact⟨f,a,rfl⟩
 |[]=>rw[hk]at h1;simp at h1
 |[_]=>rw[hk]at h1;simp at h1
 |_::_::_::_=>rw[hk]at h1;simp at h1
theorem ZpZ {e:Exp}(hs:shp e)(h:e.kind=4\/e.kind=8\/e.kind=9\/e.kind=11):∃k,e.kids=[k]:=by
 have h1:=hs.one.2.2;unfold ZgO at h1;rw[if_neg (by omega),if_pos h]at h1
 match hk:e.kids with
 |[f]=>exact⟨f,rfl⟩
 |[]=>rw[hk]at h1;simp at h1
 |_::_::_=>rw[hk]at h1;simp at h1
theorem Zz7 {e:Exp}(hs:shp e)(h:¬(e.kind=5\/e.kind=6\/e.kind=7))(h2:¬(e.kind=4\/e.kind=8\/e.kind=9\/e.kind=11)):e.kids=[]:=by
 have h1:=hs.one.2.2;unfold ZgO at h1;rw[if_neg h,if_neg h2]at h1;exact qD.1 h1
def ZyN (A:Zab)(n:Nat)(e:Exp):Prop:=∃(x:Exp) (m:Int) (b:Bool),(K A).call 48 [expV e] []=some (.tu [expV x,intV m,Zaf b],[])/\
 ((b=true/\∃m':Nat,m=m'/\Zb0 subP Zav ZaY n e=some (x,m'))\/(b=false/\Zb0 subP Zav ZaY n e=none))
theorem ZyI:∀(n:Nat)(e:Exp),e.weight<=n->okE e->lfE e->e.weight<=6000->ZyN A n e
 |0,e,h,_,_,_=>by have:=e.weight_pos;omega
 |n+1,e,hn,he,hl,hw=>by
  have hs:=he.1;have hwl:e.weight<=1073741824:=by omega
  have down:∀f,e.kids[0]?=some f->(e.kind=5\/e.kind=8)->(∀j,j<6->¬ZeC e j)->(Zb0 subP Zav ZaY (n+1) e=(Zb0 subP Zav ZaY n f).map fun p=>(Zbs e (p.1::e.children.tail),p.2))->ZyN A (n+1) e:=by
   intro f hf h58 hno hg;have hm:f∈e.children:=Zar (qb hf);have hlt:=Exp.child_lt hm;obtain⟨x,m,b,hc,hb⟩:=ZyI n f (by omega) (he.child hm) (hl.child hm) (by omega);refine⟨_,m,b,ZyY e f x m b hs hwl hno h58 hf hc,?_⟩;rw[hg];rcases hb with ⟨hb,m',hm',h1⟩|⟨hb,h1⟩
   .exact .inl ⟨hb,m',hm',by rw[h1];rfl⟩
   .exact .inr ⟨hb,by rw[h1];rfl⟩
  by_cases h2:e.kind=5\/e.kind=6\/e.kind=7
  .obtain ⟨f,a,hk⟩:=Zw8 hs h2
   have hf:e.kids[0]?=some f:=(by rw[hk];rfl);have hfm:f∈e.children:=Zar (qb hf);rcases h2 with h5|h6|h7
   .by_cases h4:f.kind=4
    .obtain ⟨k,hfk⟩:=ZpZ (hs.child hfm) (.inl h4)
     refine⟨_,_,true,Zft e hs hwl 0 (by omega) (fun j hj=>by omega) (.inl ⟨rfl,h5,f,hf,h4⟩) _ true (ZAr e f a k hk hfk he hl hw),.inl ⟨rfl,1,rfl,?_⟩⟩;unfold Zb0;rw[hk];simp[h5,h4,hfk]
    .refine down f hf (.inl h5) (fun j _ ha => ?_) ?_
     .unfold ZeC at ha
      rcases ha with ⟨_,_,g,hg,h⟩|⟨_,h⟩|⟨_,h⟩|⟨_,h,_⟩|⟨_,h⟩|⟨_,h⟩
      .rw[hf]at hg;obtain rfl:=qaA hg;exact h4 h
      all_goals omega
     .conv=>lhs;unfold Zb0
      rw[hk];simp[h5,h4]
   .refine ⟨_,_,true,Zft e hs hwl 1 (by omega) (fun j hj ha => ?_) (.inr (.inl ⟨rfl,h6⟩)) _ true (let156 e f a hk he hl hw),.inl ⟨rfl,2,rfl,?_⟩⟩
    .unfold ZeC at ha;omega
    .unfold Zb0
     rw[hk];simp[h6]
   .refine ⟨_,_,true,Zft e hs hwl 2 (by omega) (fun j hj ha => ?_) (.inr (.inr (.inl ⟨rfl,h7⟩))) _ true (rec157 e f a h7 hk he hl hw),.inl ⟨rfl,3,rfl,?_⟩⟩
    .unfold ZeC at ha;omega
    .unfold Zb0
     rw[hk];simp[h7]
  .by_cases h1:e.kind=4\/e.kind=8\/e.kind=9\/e.kind=11
   .obtain ⟨k,hk⟩:=ZpZ hs h1
    have hf:e.kids[0]?=some k:=(by rw[hk];rfl);rcases h1 with h4|h8|h9|h11
    .refine ⟨_,_,false,Zpa e hs hwl (fun j hj ha => ?_) (by omega) (by omega),.inr ⟨rfl,?_⟩⟩
     .unfold ZeC at ha;omega
     .unfold Zb0
      rw[hk];simp[h4]
    .by_cases hm:(Zau k).1.kind=2
     .have hc:=ZvB (A:=A) e k hk he hl hw
      have hg:Zb0 subP Zav ZaY (n+1) e=Zct subP Zav e (Zau k).1.name (Zau k).2:=by
       conv=>lhs;unfold Zb0
       rw[hk];have hsp:=ZcT k.weight k [] (qg _) (hs.child (Zar (qb hf)));simp[h8,hsp,hm]
      cases ho:Zct subP Zav e (Zau k).1.name (Zau k).2 with
      |none=>
       rw[ho]at hc;exact⟨_,_,false,Zft e hs hwl 3 (by omega) (fun j hj ha=>by unfold ZeC at ha;omega) (.inr (.inr (.inr (.inl ⟨rfl,h8,k,hf,hm⟩)))) _ false hc,.inr ⟨rfl,by rw[hg,ho]⟩⟩
      |some p=>
       rw[ho]at hc;refine⟨_,_,true,Zft e hs hwl 3 (by omega) (fun j hj ha=>by unfold ZeC at ha;omega) (.inr (.inr (.inr (.inl ⟨rfl,h8,k,hf,hm⟩)))) _ true hc,.inl ⟨rfl,4,rfl,?_⟩⟩;rw[hg,ho];have h4:p.2=4:=by
        unfold Zct at ho;split at ho
        .cases ho
        .split at ho
         .exact(congrArg Prod.snd (qaA ho)).symm
         .cases ho
       rw[<-h4]
     .refine down k hf (.inr h8) (fun j _ ha => ?_) ?_
      .unfold ZeC at ha
       rcases ha with ⟨_,h,_⟩|⟨_,h⟩|⟨_,h⟩|⟨_,_,g,hg,h⟩|⟨_,h⟩|⟨_,h⟩
       .omega
       .omega
       .omega
       .rw[hf]at hg;obtain rfl:=qaA hg;exact hm h
       .omega
       .omega
      .conv=>lhs;unfold Zb0
       rw[hk];have hsp:=ZcT k.weight k [] (qg _) (hs.child (Zar (qb hf)));simp[h8,hsp,hm]
    .refine ⟨_,_,true,Zft e hs hwl 4 (by omega) (fun j hj ha => ?_) (.inr (.inr (.inr (.inr (.inl ⟨rfl,h9⟩))))) _ true (ZyQ e k hf),.inl ⟨rfl,5,rfl,?_⟩⟩
     .unfold ZeC at ha;omega
     .unfold Zb0
      rw[hk];simp[h9]
    .refine ⟨_,_,true,Zft e hs hwl 5 (by omega) (fun j hj ha => ?_) (.inr (.inr (.inr (.inr (.inr ⟨rfl,h11⟩))))) _ true (ZyQ e k hf),.inl ⟨rfl,6,rfl,?_⟩⟩
     .unfold ZeC at ha;omega
     .unfold Zb0
      rw[hk];simp[h11]
   .refine ⟨_,_,false,Zpa e hs hwl (fun j hj ha => ?_) (by omega) (by omega),.inr ⟨rfl,?_⟩⟩
    .unfold ZeC at ha;omega
    .unfold Zb0
     rw[Zz7 hs h2 h1]
end Go.Vs.Tryz
