/- Valid expressions by the program, walked: all kinds. -/
import Derived.Test.YtccmnfpbcmccpaaGreatDoorR6u
set_option linter.unusedSimpArgs false
set_option linter.unusedVariables false
set_option linter.deprecated false
set_option maxHeartbeats 64000000
set_option maxRecDepth 10000
namespace Go.Vs.Tryz
open Go Go.Vs
variable {A:Ab}
theorem Vn (s:Str)(n:Nat)(h:Hs s n):(K A).call 142 [strV s,intV n] []=some (Aa true,[]):=by
 refine fnO v142 ?_;unfold v142;rcases h with ⟨rfl,rfl⟩|⟨rfl,rfl⟩|⟨h1,h2,h3,h4⟩
 .simp(disch:=try exact zd) [-getElem?_pos]
 .simp(disch:=try exact zd) [-getElem?_pos]
 .have hn:(K A).call 141 [strV s,.sc (.c (.int .u8 65)),.sc (.c (.int .u8 90))] []=some (Aa true,[]):=KQ (A:=A) 65 90 s h3
  have h4':(n:Int)<=4:=by omega
  simp(disch:=try exact zd) [h1,h2,hn,h4',-getElem?_pos]
theorem ZT (f:Nat)(l:List Ty)(hl:l.length<=687194767360)(h:∀x∈l,(K A).call f [tyV x] []=some (Aa false,[])):(K A).call 196 [tysV l,.sc (.c (.fn f [] []))] []=some (intV (-1),[]):=by
 refine fnO v196 ?_;unfold v196;simp(disch:=try exact zd) [-getElem?_pos];refine Aq (fun i=>⟨[(0,tysV l),(1,.sc (.c (.fn f [] []))),(7,intV l.length),(8,intV i)],[]⟩) l.length ?_ ?_ ?_
 .simp
 .intro i hi
  obtain⟨x,hx⟩:=Ag hi;have h1:=h x (qd hx);unfold LU;simp(disch:=try exact zd) [hi,hx,h1,-getElem?_pos]
 .unfold LU
  simp(disch:=try exact zd) [-getElem?_pos]
theorem Si (f:Nat)(l:List Ty)(hl:l.length<=687194767360)(h:∀x∈l,(K A).call f [tyV x] []=some (Aa false,[])):(K A).call 143 [tysV l,.sc (.c (.fn f [] []))] []=some (Aa false,[]):=by
 refine fnO v143 ?_;have h1:=ZT (A:=A) f l hl h;unfold v143;simp(disch:=try exact zd) [h1]
theorem U7 {s:Str}{n:Nat}(h:Hs s n):s≠[]:=by
 rcases h with ⟨rfl,_⟩|⟨rfl,_⟩|⟨_,_,h3,_⟩
 .simp
 .simp
 .rintro rfl
  obtain⟨_,⟨c,hc,_⟩,_⟩:=h3;cases hc
theorem nameOk.ne {lo hi:Nat}{s:Str}(h:nameOk lo hi s):s≠[]:=by
 rintro rfl;obtain⟨_,⟨c,hc,_⟩,_⟩:=h;cases hc
theorem wrT.arg {t x:Ty}(h:wrT t)(hx:x∈t.args):wrT x:=⟨h.1.arg hx,Ty.all.arg h.2 hx⟩
theorem wrT.kinds {t:Ty}(h:wrT t):(t.kind=4/\t.id=0/\t.home=0/\Hs t.name t.args.length)\/(t.kind=5/\t.id=0/\t.home=0/\t.args=[]/\nameOk 97 122 t.name):=by
 obtain⟨h1,h2,h3,h4,h5,h6,h7,h8⟩:=h.1.one;have h9:=Ty.all.one h.2;by_cases k4:t.kind=4
 .exact .inl ⟨k4,h5 k4⟩
 .by_cases k5:t.kind=5
  .exact .inr ⟨k5,h6 k5⟩
  .by_cases k1:t.kind=1
   .have:=h1 k1
    omega
   .by_cases k2:t.kind=2
    .have a:=h2 k2
     have b:=(h4 k2).1;omega
    .omega
theorem Zag (t:Ty):wrT t->t.size<=687194767360->(K A).call 93 [tyV t] []=some (Aa true,[]):=by
 induction t using Ty.ind with
 |h t ih=>
 intro h hl;have hal:=t.args_lt;refine fnO v93 ?_;rcases h.kinds with ⟨k,i0,h0,hc⟩|⟨k,i0,h0,ha,hn⟩
 .have hne:=U7 hc
  have hcv:=Vn (A:=A) t.name t.args.length hc;have hbad:∀x∈t.args,(K A).call 144 [tyV x] []=some (Aa false,[]):=fun x hx=>by
   have h1:=ih x hx (h.arg hx) (by have:=Ty.arg_lt hx;omega);refine fnO v144 ?_;unfold v144;simp(disch:=try exact zd) [h1]
  have hnone:=Si (A:=A) 144 t.args (by omega) hbad;unfold v93;simp(disch:=try exact zd) [k,i0,h0,hne,hcv,hnone,-getElem?_pos]
 .have hne:=hn.ne
  have hnv:(K A).call 141 [strV t.name,.sc (.c (.int .u8 97)),.sc (.c (.int .u8 122))] []=some (Aa true,[]):=KQ (A:=A) 97 122 t.name hn;unfold v93;simp(disch:=try exact zd) [k,i0,h0,ha,hne,hnv,-getElem?_pos]
theorem WY (t:Ty):wrT t->t.size<=687194767360->(K A).call 94 [tyV t] []=some (Aa true,[]):=by
 induction t using Ty.ind with
 |h t ih=>
 intro h hl;have hal:=t.args_lt;refine fnO v94 ?_;have hbad:∀x∈t.args,(K A).call 145 [tyV x] []=some (Aa false,[]):=fun x hx=>by
  have h1:=ih x hx (h.arg hx) (by have:=Ty.arg_lt hx;omega);refine fnO v145 ?_;unfold v145;simp(disch:=try exact zd) [h1]
 have hnone:=Si (A:=A) 145 t.args (by omega) hbad;unfold v94;rcases h.kinds with ⟨k,_⟩|⟨k,_⟩
 .simp(disch:=try exact zd) [k,hnone,-getElem?_pos]
 .simp(disch:=try exact zd) [k,hnone,-getElem?_pos]
theorem StE.child {e x:Exp}(h:StE e)(hx:x∈e.children):StE x:=⟨h.ok.child hx,h.rz.child hx,h.lf.child hx,h.ps.child hx⟩
theorem ZcI (e:Exp):StE e->e.weight<=687194767360->(K A).call 47 [expV e] []=some (Aa true,[]):=by
 induction e using Exp.ind with
 |h e ih=>
 intro hv hl;refine fnO v47 ?_;obtain⟨f1,f2,⟨f3,f4,f5⟩,f6,⟨f7,f8⟩,f9,f10⟩:=hv.lf.2.one;obtain⟨g1,g2,g3,g4⟩:=hv.lf.1.one;obtain⟨hpos,hpa⟩:=hv.ps.one;have hs:=hv.ok.1.one;have hz:=XN (A:=A);have hal:=e.children_le;rw[Exp.children_len]at hal;have hnn:¬e.num<0:=by omega
 have hnb:¬999999999<e.num:=by omega
 have hch:=Zcm (A:=A) e.children (by rw[Exp.children_len];omega) (fun x hx=>ih x hx (hv.child hx) (by have:=Exp.child_lt hx;omega));have ht9:e.kind≠9->wc e.ty.row=[zi,zs,zi,zi,.c (.sl [])]:=fun k=>by rw[f7 k];simp[tz,Ty.row,Ty.rows]
 have hk11:e.kind=1\/e.kind=2\/e.kind=3\/e.kind=4\/e.kind=5\/e.kind=6\/e.kind=7\/e.kind=8\/e.kind=9\/e.kind=10\/e.kind=11:=by omega
 rcases hk11 with h|h|h|h|h|h|h|h|h|h|h
 .have hkl:e.kids.length=0:=by have:=hs.2.2;rw [h] at this;exact this
  have ha:e.arms=[]:=hs.1.2.1 (by omega);have hk:e.kids=[]:=qS.1 hkl;have hlo:=HX (A:=A) e.name (g1 (by unfold lowK;omega));have htr:=ht9 (by omega);have hnum:=f3 (by omega);have hc:=DS (A:=A) e hk ha;rw[show e.children=[] by simp[Exp.children,hk,ha]]at hch;simp only[CA,rows0]at hch;unfold v47;simp(maxSteps:=9^7) (disch:=try exact zd) [h,hpos,hk,ha,hlo,hz,htr,hnum,hc,hch,-getElem?_pos]
  refine Aq (fun i=>⟨[(1,.sc (.ptr 64 0)),(127,.sc (.c (.sl []))),(128,intV 0),(129,intV i)],[(64,some (.box (wc e.row)))]⟩) 0 (by simp) (fun i hi=>by omega) ?_;unfold CS;simp(maxSteps:=9^7) (disch:=try exact zd) [hc,hch,-getElem?_pos]
 .have hkl:e.kids.length=0:=by have:=hs.2.2;rw [h] at this;exact this
  have ha:e.arms=[]:=hs.1.2.1 (by omega);have hk:e.kids=[]:=qS.1 hkl;have hlo:=PN (A:=A) e.name (g2 h);have htr:=ht9 (by omega);have hnum:=f3 (by omega);have hc:=DS (A:=A) e hk ha;rw[show e.children=[] by simp[Exp.children,hk,ha]]at hch;simp only[CA,rows0]at hch;unfold v47;simp(maxSteps:=9^7) (disch:=try exact zd) [h,hpos,hk,ha,hlo,hz,htr,hnum,hc,hch,-getElem?_pos]
  refine Aq (fun i=>⟨[(1,.sc (.ptr 64 0)),(127,.sc (.c (.sl []))),(128,intV 0),(129,intV i)],[(64,some (.box (wc e.row)))]⟩) 0 (by simp) (fun i hi=>by omega) ?_;unfold CS;simp(maxSteps:=9^7) (disch:=try exact zd) [hc,hch,-getElem?_pos]
 .have hkl:e.kids.length=0:=by have:=hs.2.2;rw [h] at this;exact this
  have ha:e.arms=[]:=hs.1.2.1 (by omega);have hk:e.kids=[]:=qS.1 hkl;have hn:e.name=[]:=g3 (by unfold lowK;omega) (by omega);have htr:=ht9 (by omega);have hc:=DS (A:=A) e hk ha;rw[show e.children=[] by simp[Exp.children,hk,ha]]at hch;simp only[CA,rows0]at hch;by_cases hnum:e.num=0
  .unfold v47
   simp(maxSteps:=9^7) (disch:=try exact zd) [h,hpos,hk,ha,hn,hz,htr,hnn,hnb,hnum,hc,hch,-getElem?_pos];refine Aq (fun i=>⟨[(1,.sc (.ptr 64 0)),(127,.sc (.c (.sl []))),(128,intV 0),(129,intV i)],[(64,some (.box (wc e.row)))]⟩) 0 (by simp) (fun i hi=>by omega) ?_;unfold CS;simp(maxSteps:=9^7) (disch:=try exact zd) [hc,hch,-getElem?_pos]
  .unfold v47
   simp(maxSteps:=9^7) (disch:=try exact zd) [h,hpos,hk,ha,hn,hz,htr,hnn,hnb,hnum,hc,hch,-getElem?_pos];refine Aq (fun i=>⟨[(1,.sc (.ptr 64 0)),(127,.sc (.c (.sl []))),(128,intV 0),(129,intV i)],[(64,some (.box (wc e.row)))]⟩) 0 (by simp) (fun i hi=>by omega) ?_;unfold CS;simp(maxSteps:=9^7) (disch:=try exact zd) [hc,hch,-getElem?_pos]
 .have hkl:e.kids.length=1:=by have:=hs.2.2;rw [h] at this;exact this
  have ha:e.arms=[]:=hs.1.2.1 (by omega);obtain⟨x,hk⟩:∃x,e.kids=[x]:=by
   match hkk:e.kids,hkl with
   |[x],_=>exact⟨x,rfl⟩
  have hlo:=HX (A:=A) e.name (g1 (by unfold lowK;omega));have htr:=ht9 (by omega);have hnum:=f3 (by omega);have hc:=BQ (A:=A) e (by simp[hk]) hl;unfold v47;simp(maxSteps:=9^7) (disch:=try exact zd) [h,hpos,hk,ha,hlo,hz,htr,hnum,hc,hch,-getElem?_pos]
  refine Aq (fun i=>⟨[(1,.sc (.ptr 64 0)),(127,.sc (.c (.sl []))),(128,intV 0),(129,intV i)],[(64,some (.box (wc e.row)))]⟩) 0 (by simp) (fun i hi=>by omega) ?_;unfold CS;simp(maxSteps:=9^7) (disch:=try exact zd) [hc,hch,-getElem?_pos]
 .have hkl:e.kids.length=2:=by have:=hs.2.2;rw [h] at this;exact this
  have ha:e.arms=[]:=hs.1.2.1 (by omega);obtain⟨x,y,hk⟩:∃x y,e.kids=[x,y]:=by
   match hkk:e.kids,hkl with
   |[x,y],_=>exact⟨x,y,rfl⟩
  have hn:e.name=[]:=g3 (by unfold lowK;omega) (by omega);have htr:=ht9 (by omega);have hnum:=f3 (by omega);have hc:=BQ (A:=A) e (by simp[hk]) hl;unfold v47;simp(maxSteps:=9^7) (disch:=try exact zd) [h,hpos,hk,ha,hn,hz,htr,hnum,hc,hch,-getElem?_pos]
  refine Aq (fun i=>⟨[(1,.sc (.ptr 64 0)),(127,.sc (.c (.sl []))),(128,intV 0),(129,intV i)],[(64,some (.box (wc e.row)))]⟩) 0 (by simp) (fun i hi=>by omega) ?_;unfold CS;simp(maxSteps:=9^7) (disch:=try exact zd) [hc,hch,-getElem?_pos]
 .have hkl:e.kids.length=2:=by have:=hs.2.2;rw [h] at this;exact this
  have ha:e.arms=[]:=hs.1.2.1 (by omega);obtain⟨x,y,hk⟩:∃x y,e.kids=[x,y]:=by
   match hkk:e.kids,hkl with
   |[x,y],_=>exact⟨x,y,rfl⟩
  have hlo:=HX (A:=A) e.name (g1 (by unfold lowK;omega));have htr:=ht9 (by omega);have hnum:=f3 (by omega);have hc:=BQ (A:=A) e (by simp[hk]) hl;unfold v47;simp(maxSteps:=9^7) (disch:=try exact zd) [h,hpos,hk,ha,hlo,hz,htr,hnum,hc,hch,-getElem?_pos]
  refine Aq (fun i=>⟨[(1,.sc (.ptr 64 0)),(127,.sc (.c (.sl []))),(128,intV 0),(129,intV i)],[(64,some (.box (wc e.row)))]⟩) 0 (by simp) (fun i hi=>by omega) ?_;unfold CS;simp(maxSteps:=9^7) (disch:=try exact zd) [hc,hch,-getElem?_pos]
 .have hkl:e.kids.length=2:=by have:=hs.2.2;rw [h] at this;exact this
  have ha:e.arms=[]:=hs.1.2.1 (by omega);obtain⟨x,y,hk⟩:∃x y,e.kids=[x,y]:=by
   match hkk:e.kids,hkl with
   |[x,y],_=>exact⟨x,y,rfl⟩
  have hlo:=HX (A:=A) e.name (g1 (by unfold lowK;omega));have htr:=ht9 (by omega);have hnum:=f3 (by omega);have hc:=BQ (A:=A) e (by simp[hk]) hl;unfold v47;simp(maxSteps:=9^7) (disch:=try exact zd) [h,hpos,hk,ha,hlo,hz,htr,hnum,hc,hch,-getElem?_pos]
  refine Aq (fun i=>⟨[(1,.sc (.ptr 64 0)),(127,.sc (.c (.sl []))),(128,intV 0),(129,intV i)],[(64,some (.box (wc e.row)))]⟩) 0 (by simp) (fun i hi=>by omega) ?_;unfold CS;simp(maxSteps:=9^7) (disch:=try exact zd) [hc,hch,-getElem?_pos]
 .have hkl:e.kids.length=1:=by have:=hs.2.2;rw [h] at this;exact this
  obtain⟨x,hk⟩:∃x,e.kids=[x]:=by
   match hkk:e.kids,hkl with
   |[x],_=>exact⟨x,rfl⟩
  have hn:e.name=[]:=g3 (by unfold lowK;omega) (by omega);have htr:=ht9 (by omega);have hnum:=f3 (by omega);have hc:=BQ (A:=A) e (by simp[hk]) hl;have hne:e.arms≠[]:=f9 h;have hpa0:0<e.arms.length:=qa3.2 hne;unfold v47;simp(maxSteps:=9^7) (disch:=try exact zd) [h,hpos,hk,hn,hz,htr,hnum,hpa0,-getElem?_pos]
  refine Aq (fun i=>⟨[(1,.sc (.ptr 64 0)),(127,.sc (.c (.sl (Exp.armRows e.arms)))),(128,intV e.arms.length),(129,intV i)],[(64,some (.box (wc e.row)))]⟩) e.arms.length (by simp) (fun i hi=>?_) ?_
  .obtain ⟨p,hp⟩:=Ag hi
   have hpm:=qd hp;have q1:=hpa p hpm;obtain⟨q2,q3⟩:=f10 p hpm;have hu:=PN (A:=A) p.1.con q2;have hav:=Yr (A:=A) p.1.vars (by omega) (g4 p hpm);have q3':¬(4:Int)<p.1.vars.length:=(by omega);have q3'':¬4<p.1.vars.length:=(by omega);unfold CS;simp(maxSteps:=9^7) (disch:=try exact zd) [hi,hp,q1,q3',q3'',hu,hav,-getElem?_pos]
  .unfold CS
   simp(maxSteps:=9^7) (disch:=try exact zd) [hc,hch,-getElem?_pos]
 .have hkl:e.kids.length=1:=by have:=hs.2.2;rw [h] at this;exact this
  have ha:e.arms=[]:=hs.1.2.1 (by omega);obtain⟨x,hk⟩:∃x,e.kids=[x]:=by
   match hkk:e.kids,hkl with
   |[x],_=>exact⟨x,rfl⟩
  have hn:e.name=[]:=g3 (by unfold lowK;omega) (by omega);have hw:=f8 h;have hv1:=Zag (A:=A) e.ty hw f6;have hv2:=WY (A:=A) e.ty hw f6;have hnum:=f3 (by omega);have hc:=BQ (A:=A) e (by simp[hk]) hl;unfold v47;simp(maxSteps:=9^7) (disch:=try exact zd) [h,hpos,hk,ha,hn,hv1,hv2,hnum,hc,hch,-getElem?_pos]
  refine Aq (fun i=>⟨[(1,.sc (.ptr 64 0)),(127,.sc (.c (.sl []))),(128,intV 0),(129,intV i)],[(64,some (.box (wc e.row)))]⟩) 0 (by simp) (fun i hi=>by omega) ?_;unfold CS;simp(maxSteps:=9^7) (disch:=try exact zd) [hc,hch,-getElem?_pos]
 .have hkl:e.kids.length=0:=by have:=hs.2.2;rw [h] at this;exact this
  have ha:e.arms=[]:=hs.1.2.1 (by omega);have hk:e.kids=[]:=qS.1 hkl;have hn:e.name=[]:=g3 (by unfold lowK;omega) (by omega);have htr:=ht9 (by omega);have hnum:=f3 (by omega);have hc:=DS (A:=A) e hk ha;rw[show e.children=[] by simp[Exp.children,hk,ha]]at hch;simp only[CA,rows0]at hch;unfold v47;simp(maxSteps:=9^7) (disch:=try exact zd) [h,hpos,hk,ha,hn,hz,htr,hnum,hc,hch,-getElem?_pos]
  refine Aq (fun i=>⟨[(1,.sc (.ptr 64 0)),(127,.sc (.c (.sl []))),(128,intV 0),(129,intV i)],[(64,some (.box (wc e.row)))]⟩) 0 (by simp) (fun i hi=>by omega) ?_;unfold CS;simp(maxSteps:=9^7) (disch:=try exact zd) [hc,hch,-getElem?_pos]
 .have hkl:e.kids.length=1:=by have:=hs.2.2;rw [h] at this;exact this
  have ha:e.arms=[]:=hs.1.2.1 (by omega);obtain⟨x,hk⟩:∃x,e.kids=[x]:=by
   match hkk:e.kids,hkl with
   |[x],_=>exact⟨x,rfl⟩
  have hn:e.name=[]:=g3 (by unfold lowK;omega) (by omega);have htr:=ht9 (by omega);have hnum:=f3 (by omega);have hc:=BQ (A:=A) e (by simp[hk]) hl;unfold v47;simp(maxSteps:=9^7) (disch:=try exact zd) [h,hpos,hk,ha,hn,hz,htr,hnum,hc,hch,-getElem?_pos]
  refine Aq (fun i=>⟨[(1,.sc (.ptr 64 0)),(127,.sc (.c (.sl []))),(128,intV 0),(129,intV i)],[(64,some (.box (wc e.row)))]⟩) 0 (by simp) (fun i hi=>by omega) ?_;unfold CS;simp(maxSteps:=9^7) (disch:=try exact zd) [hc,hch,-getElem?_pos]
end Go.Vs.Tryz
namespace Go.Vs
end Go.Vs
namespace Go.Vs.Tryz
open Go Go.Vs
variable {A:Ab}
def allA (e:Exp)(out:List Str)(i:Nat):List Str:=out++(if e.name=[] then [] else [e.name])++((e.arms.take i).map fun a=>a.1.vars).flatten
def allC (e:Exp)(out:List Str)(i:Nat):List Str:=allA e out e.arms.length++((e.children.take i).map DF).flatten
variable {A:Ab}
def Zdy (A:Ab)(n:Nat):Prop:=∀(e:Exp)(x:Str)(b:Exp),e.weight<=n->e.weight<=100000000000->shp e->b.wf->b.weight<=100000000000->(K A).call 103 [expV e,strV x,expV b] []=some (expV (refS n e x b),[])
theorem Xy (s:Str):(varX s).wf/\(varX s).weight=1:=by
 refine⟨?_,?_⟩
 .rw [Exp.wf_eq]
  refine⟨⟨fun h=>?_,fun _=>rfl,fun _=>rfl⟩,fun x hx=>?_⟩
  .exact absurd (show(1:Int)=8 from h) (by decide)
  .simp[varX,Exp.children,Exp.kids,Exp.arms]at hx
 .rw [Exp.weight_eq]
  simp[varX,Exp.children,Exp.kids,Exp.arms]
theorem Z7 (s:Str):expV (varX s)=.ag [.c (.int .i64 1),.c (.int .i64 0),.c (.str s),.c (.int .i64 0),.c (.sl []),.c (.sl []),.c (.int .i64 0),.c (.str []),.c (.int .i64 0),.c (.int .i64 0),.c (.sl [])]:=by
 rw[expV,Exp.row_eq];simp[varX,Exp.kind,Exp.pos,Exp.name,Exp.num,Exp.kids,Exp.arms,Exp.ty,Exp.rows,Exp.armRows,tz,Ty.kind,Ty.name,Ty.id,Ty.home,Ty.args,Ty.rows,wc]
def Zc5 (n:Nat)(x:Str)(b:Exp)(a:ArmH×Exp):ArmH×Exp:=if x∈a.1.vars then a else ((EB (refS n) x b a).1,refS n (EB (refS n) x b a).2 x b)
variable {A:Ab}
variable {A:Ab}
variable {A:Ab}
theorem rawE.conV {ds:List DataD}(hc:Ii ds){e:Exp}:rawE ds e->conV e:=by
 induction e using Exp.ind with
 |h e ih=>
  intro h;rw[DL];refine⟨fun a ha k hk=>?_,fun x hx=>ih x hx (h.child hx)⟩;rcases (h.one.2.1 a ha).2.1 with hG|⟨d,hd,c,hcc,hG⟩
  .rw [hG] at hk
   simp[AG]at hk
  .obtain ⟨_,⟨ch,h1,h2,h3⟩,_⟩:=hc d hd c hcc
   rw[<-hG,hk]at h1;simp[AG]at h1;subst h1;exact absurd h3 (by decide)
theorem U0 (s:Str)(hs:s.length<=1000):shp (varX s)/\nmL (varX s)/\tyBd (varX s):=by
 have hc:(varX s).children=[]:=rfl;refine⟨?_,fun u hu=>?_,?_⟩
 .rw [B1,hc]
  exact⟨⟨⟨fun h=>absurd (show(1:Int)=8 from h) (by decide),fun _=>rfl,fun _=>rfl⟩,fun _=>⟨rfl,rfl⟩,rfl⟩,fun x hx=>by simp at hx⟩
 .rcases A3.1 hu with h|⟨i,x,hx,_⟩
  .rw [h]
   exact hs
  .rw [hc] at hx
   simp at hx
 .rw [D8,hc]
  exact⟨show tz.size<=687194767360 by decide,fun x hx=>by simp at hx⟩
theorem Zay (e:Exp)(x to:Str)(hxl:x.length<=1000)(htl:to.length<=1000)(hl:e.weight<=100000000000)(hs:shp e)(hp:properP e)(hn:nmL e):(K A).call 206 [expV e,strV x,strV to] []=some (expV (subP e x (varX to)),[]):=by
 refine fnO v206 ?_;obtain⟨v1,v2,_⟩:=U0 to htl;have h:=OR (A:=A) e x (varX to) v1 (by rw[(Xy to).2];omega) v2 hxl hl hs hp hn;have hrow:=DR (subP e x (varX to));generalize subP e x (varX to)=r at *
 rw[Z7]at h;unfold v206;simp(disch:=try exact zd) [h,hrow]
variable {A:Ab}
theorem Hz {α:Type}(x:α):[x][0]?=some x:=rfl
theorem LR {α:Type}(x y:α):[x,y][0]?=some x:=rfl
def AR (k6 k7 k9 k11:Nat):List (List W):=[[.c (.fn 153 [] []),.c (.fn 154 [] [])],[.clo 151 [true] [[.ptr k6 0]],.c (.fn 156 [] [])],[.clo 151 [true] [[.ptr k7 0]],.c (.fn 157 [] [])],
 [.c (.fn 158 [] []),.c (.fn 159 [] [])],[.clo 151 [true] [[.ptr k9 0]],.c (.fn 152 [] [])],[.clo 151 [true] [[.ptr k11 0]],.c (.fn 152 [] [])]]
theorem Ma:(K A).call 101 [] []=some (.sc (.arr 0 6),[.arr 2 (AR 1 2 3 4) 0,.box [.c (.int .i64 6)],.box [.c (.int .i64 7)],.box [.c (.int .i64 9)],.box [.c (.int .i64 11)]]):=A8 (n:=40) (by kernel_rfl)
theorem Ps (k:Int)(e:Exp):(K A).call 151 [expV e,.sc (.ptr 0 0)] [.box [.c (.int .i64 k)]]=some (Aa (decide (e.kind=k)),[.box [.c (.int .i64 k)]]):=by
 refine fnO v151 ?_;unfold v151;simp(disch:=try exact zd) [-getElem?_pos]
theorem QK (e x:Exp)(h:e.kids[0]?=some x):(K A).call 152 [expV e] []=some (.tu [expV x,Aa true],[]):=by
 have hl:=(qf.1 h).1;refine fnO v152 ?_;unfold v152;simp(disch:=try exact zd) [h,hl,-getElem?_pos]
theorem RG (e:Exp)(hs:shp e):(K A).call 153 [expV e] []=some (Aa (decide (e.kind=5/\∃f,e.kids[0]?=some f/\f.kind=4)),[]):=by
 refine fnO v153 ?_;unfold v153;by_cases h5:e.kind=5
 .obtain ⟨f,x,hk,_⟩:=hs.app h5
  by_cases h4:f.kind=4
  .simp(disch:=try exact zd) [h5,hk,h4,qU]
  .simp(disch:=try exact zd) [h5,hk,h4,qU]
 .simp(disch:=try exact zd) [h5]
theorem Qr (e:Exp)(hs:shp e)(hl:e.weight<=687194767360):(K A).call 158 [expV e] []=some (Aa (decide (e.kind=8/\∃k,e.kids[0]?=some k/\(spine k).1.kind=2)),[]):=by
 refine fnO v158 ?_;unfold v158;by_cases h8:e.kind=8
 .obtain⟨k,hk⟩:∃k,e.kids=[k]:=by
   have hkl:e.kids.length=1:=by have:=hs.one.2.2;rw[h8]at this;exact this
   match hkk:e.kids,hkl with
   |[x],_=>exact⟨x,rfl⟩
  have hm:k∈e.children:=AO (by rw[hk];simp);have h1:=Qp (A:=A) k (hs.child hm) (by have:=Exp.child_lt hm;omega);by_cases h2:(spine k).1.kind=2
  .simp(disch:=try exact zd) [h8,hk,h1,h2,qU]
  .simp(disch:=try exact zd) [h8,hk,h1,h2,qU]
 .simp(disch:=try exact zd) [h8]
theorem IV (e:Exp)(x:Str)(b:Exp)(he:okE e)(hb:okE b)(hen:nmL e)(hbn:nmL b)(hel:e.weight<=100000000000)(hbl:b.weight<=100000000000)(hx:x.length<=1000):(K A).call 155 [expV e,strV x,expV b] []=some (expV (subP e x b),[]):=
 OR e x b hb.1 hbl hbn hx hel he.1 he.2.1 hen
theorem IZ {e:Exp}(h:lowE e):e.name.length<=1000:=D9 h _ (A3.2 (.inl rfl))
theorem Vw {B:Nat}(e f a k:Exp)(hk:e.kids=[f,a])(hf:f.kids=[k])(he:okE e)(hl:lfE e)(hw:Lim B e):(K A).call 154 [expV e] []=some (.tu [expV (subP k f.name a),Aa true],[]):=by
 have hfm:f∈e.children:=AO (by rw[hk];simp);have ham:a∈e.children:=AO (by rw[hk];simp);have hkm:k∈f.children:=AO (by rw[hf];simp);have h1:=Exp.child_lt hfm;have h2:=Exp.child_lt ham;have h3:=Exp.child_lt hkm;have hsm:=hw.sm;have hs:=IV (A:=A) k f.name a ((he.child hfm).child hkm) (he.child ham) (D9 ((hl.child hfm).child hkm).1) (D9 (hl.child ham).1) (by omega) (by omega) (IZ (hl.child hfm).1)
 have e0:([f,a]:List Exp)[0]?=some f:=rfl;have e1:([f,a]:List Exp)[1]?=some a:=rfl;have e2:([k]:List Exp)[0]?=some k:=rfl;refine fnO v154 ?_;unfold v154;simp(disch:=try exact zd) [hk,hf,hs,e0,e1,e2,Hz,LR]
theorem Zc0 {B:Nat}(e f a:Exp)(hk:e.kids=[f,a])(he:okE e)(hl:lfE e)(hw:Lim B e):(K A).call 156 [expV e] []=some (.tu [expV (subP a e.name f),Aa true],[]):=by
 have hfm:f∈e.children:=AO (by rw[hk];simp);have ham:a∈e.children:=AO (by rw[hk];simp);have h1:=Exp.child_lt hfm;have h2:=Exp.child_lt ham;have hsm:=hw.sm;have hs:=IV (A:=A) a e.name f (he.child ham) (he.child hfm) (D9 (hl.child ham).1) (D9 (hl.child hfm).1) (by omega) (by omega) (IZ hl.1);have e0:([f,a]:List Exp)[0]?=some f:=rfl;have e1:([f,a]:List Exp)[1]?=some a:=rfl;refine fnO v156 ?_
 unfold v156;simp(disch:=try exact zd) [hk,hs,e0,e1,Hz,LR]
theorem ZH {B:Nat}(e f a:Exp)(h7:e.kind=7)(hk:e.kids=[f,a])(he:okE e)(hl:lfE e)(hw:Lim B e):(K A).call 157 [expV e] []=some (.tu [expV (subP a e.name (AA e f)),Aa true],[]):=by
 have hfm:f∈e.children:=AO (by rw[hk];simp);have ham:a∈e.children:=AO (by rw[hk];simp);have h1:=Exp.child_lt hfm;have h2:=Exp.child_lt ham;have hag:=Qg (f:=f) he h7;have hsm:=hw.sm;have hs:=IV (A:=A) a e.name (AA e f) (he.child ham) (IJ he h7 hfm) (D9 (hl.child ham).1) (D9 (QJ he h7 hl hfm).1) (by omega) (by omega) (IZ hl.1);have e0:([f,a]:List Exp)[0]?=some f:=rfl
 have e1:([f,a]:List Exp)[1]?=some a:=rfl;have hrow:wc (AA e f).row=[.c (.int .i64 e.kind),.c (.int .i64 e.pos),.c (.str e.name),.c (.int .i64 e.num),.c (.sl [f.row,f.row]),.c (.sl (Exp.armRows e.arms)),.c (.int .i64 e.ty.kind),.c (.str e.ty.name),.c (.int .i64 e.ty.id),.c (.int .i64 e.ty.home),.c (.sl (Ty.rows e.ty.args))]:=by
  unfold AA;simp[Exp.row,Ty.row_eq,wc,Exp.rows_map]
 have her:wc e.row=[.c (.int .i64 e.kind),.c (.int .i64 e.pos),.c (.str e.name),.c (.int .i64 e.num),.c (.sl [f.row,a.row]),.c (.sl (Exp.armRows e.arms)),.c (.int .i64 e.ty.kind),.c (.str e.ty.name),.c (.int .i64 e.ty.id),.c (.int .i64 e.ty.home),.c (.sl (Ty.rows e.ty.args))]:=by
  rw[Exp.row_eq,hk];simp[wc,Exp.rows_map]
 generalize hG:subP a e.name (AA e f)=G at *
 have hs':(K A).call 155 [expV a,strV e.name,.ag [.c (.int .i64 e.kind),.c (.int .i64 e.pos),.c (.str e.name),.c (.int .i64 e.num),.c (.sl [f.row,f.row]),.c (.sl (Exp.armRows e.arms)),.c (.int .i64 e.ty.kind),.c (.str e.ty.name),.c (.int .i64 e.ty.id),.c (.int .i64 e.ty.home),.c (.sl (Ty.rows e.ty.args))]] []=some (expV G,[]):=by rw[<-hrow];exact hs
 refine fnO v157 ?_;unfold v157;simp(disch:=try exact zd) [her,hs',e0,e1,Hz,LR]
variable {A:Ab}
def CV (e:Exp)(i:Nat):List Str:=e.name::((e.arms.take i).map fun a=>a.1.vars).flatten
def DC (e:Exp)(i:Nat):List Str:=CV e e.arms.length++((e.children.take i).map Ah).flatten
theorem ZB {e:Exp}{i:Nat}{a:ArmH×Exp}(h:e.arms[i]?=some a):CV e (i+1)=CV e i++a.1.vars:=by
 unfold CV;rw[Bn h];simp
theorem Zs {e x:Exp}{i:Nat}(h:e.children[i]?=some x):DC e (i+1)=DC e i++Ah x:=by
 unfold DC;rw[Bn h];simp
theorem XJ (e:Exp):DC e (e.kids.length+e.arms.length)=Ah e:=by
 unfold DC CV;rw[E6,qn (qg _),qn (by rw[e.children_len];exact qg _)];simp
theorem XD (e:Exp)(i:Nat):(CV e i).length<=e.weight:=by
 have h1:(((e.arms.take i).map fun a=>a.1.vars).flatten).length<=(e.arms.map fun a=>a.1.vars.length).sum:=by
  rw[qa2,qan,qaO];exact HM
 have h2:=e.weight_eq;unfold CV;rw[qF];omega
theorem Yu (e:Exp)(i:Nat):(DC e i).length<=e.weight:=by
 have h1:=II e;have h3:(((e.children.take i).map Ah).flatten).length<=((e.children.map Ah).flatten).length:=by
  rw[qa2,qa2,qan,qan,qaO];exact HM
 have h4:CV e e.arms.length=e.name::(e.arms.map fun a=>a.1.vars).flatten:=by unfold CV;rw[qn (qg _)]
 rw[E6,qF,qI]at h1;unfold DC;rw[qI,h4,qF];omega
theorem U9 (e:Exp):e.wf->e.weight<=687194767360->(K A).call 205 [expV e] []=some (A1 (Ah e),[]):=by
 induction e using Exp.ind with
 |h e ih=>
 intro hwf hl;refine fnO v205 ?_;have hle:=e.children_le;rw[e.children_len]at hle;have h0:CV e 0=[e.name]:=rfl;have hr:wr (Ao [e.name])=[[W.c (.str e.name)]]:=rfl;have hkt:DC e 0=CV e e.arms.length:=by simp[DC]
 have hend:=XJ e;unfold v205;simp(maxSteps:=9^7) (disch:=try exact zd) [-getElem?_pos];refine Aq (fun i=>⟨[(1,.sc (.ptr 64 0)),(3,.sc (.arr 320 (CV e i).length)),(12,.sc (.c (.sl (Exp.armRows e.arms)))),(13,intV e.arms.length),(14,intV i)],[(64,some (.box (wc e.row))),(320,some (.arr 1 (wr (Ao (CV e i))) 0))]⟩) e.arms.length ?_ ?_ ?_
 .simp[h0,hr]
 .intro i hi
  obtain⟨a,ha⟩:=Ag hi;have hs:=ZB ha;have hlen:=XD e (i+1);rw[hs,qI]at hlen;rw[hs];generalize CV e i=ai at *
  unfold IH;simp(maxSteps:=9^7) (disch:=try exact zd) [hi,ha,-getElem?_pos]
 .rw [<-hkt]
  by_cases hkids:e.kids=[]
  .have harms:e.arms=[]:=qP fun h=>by
    have h8:e.kind=8:=qP fun h8=>h (hwf.one.2.1 h8);have:=hwf.one.1 h8;rw[hkids]at this;simp at this
   have hc:=DS (A:=A) e hkids harms;rw[hkids,harms]at hend;simp only[qR,qa6]at hend;rw[hend];unfold IH;simp(maxSteps:=9^7) (disch:=try exact zd) [hc,-getElem?_pos];refine Aq (fun i=>⟨[(3,.sc (.arr 320 (Ah e).length)),(24,.sc (.full [])),(25,intV 0),(26,intV i)],[(64,some (.box (wc e.row))),(320,some (.arr 1 (wr (Ao (Ah e))) 0))]⟩) 0 ?_ (fun i hi=>by omega) ?_
   .simp
   .unfold Jv
    simp(maxSteps:=9^7) (disch:=try exact zd) [-getElem?_pos]
  .have hc:=BQ (A:=A) e hkids hl
   rw[e.children_len]at hc;unfold IH;simp(maxSteps:=9^7) (disch:=try exact zd) [hc,-getElem?_pos]
   refine Aq (fun i=>⟨[(3,.sc (.arr 320 (DC e i).length)),(24,.sc (.arr 1568 (e.kids.length+e.arms.length))),(25,intV ((e.kids.length:Int)+e.arms.length)),(26,intV i)],[(64,some (.box (wc e.row))),(320,some (.arr 1 (wr (Ao (DC e i))) 0)),(1568,some (.arr 11 (wr (Exp.rows e.children)) 0))]⟩) (e.kids.length+e.arms.length) ?_ ?_ ?_
   .simp
   .intro i hi
    have hi2:(i:Int)<(e.kids.length:Int)+e.arms.length:=(by omega);obtain⟨x,hx⟩:=Ag (l:=e.children) (i:=i) (by rw[e.children_len];exact hi);have hm:=qd hx;have hrec:=ih x hm (hwf.child hm) (by have:=Exp.child_lt hm;omega);have hs:=Zs hx;have hlen:=Yu e (i+1);rw[hs,qI]at hlen;rw[hs];generalize DC e i=ai at *
    generalize Ah x=ux at *
    unfold Jv;simp(maxSteps:=9^7) (disch:=try exact zd) [hi,hi2,hx,hrec,-getElem?_pos]
   .rw [hend]
    unfold Jv;simp(maxSteps:=9^7) (disch:=try exact zd) [-getElem?_pos]
theorem XP (a:ArmH×Exp)(h:Exp):(K A).call 204 [.ag (wc (AM a)),.sc (.ptr 0 0)] [.box (wc h.row)]=some (Aa (decide (a.1.con=h.name)),[.box (wc h.row)]):=by
 refine fnO v204 ?_;unfold v204;simp(disch:=try exact zd) [-getElem?_pos]
def Ft (l:List (ArmH×Exp))(s:Str):Int:=match l.findIdx? (fun a=>a.1.con==s)with
 |some i=>i
 |none=>-1
theorem Wq {l:List (ArmH×Exp)}{s:Str}{i:Nat}{a:ArmH×Exp}(h:l[i]?=some a)(ha:a.1.con=s)(hn:∀(j:Nat) b,j<i->l[j]?=some b->b.1.con≠s):Ft l s=i:=by
 unfold Ft;have:l.findIdx? (fun x=>x.1.con==s)=some i:=by
  rw[List.findIdx?_eq_some_iff_getElem];obtain⟨hi,he⟩:=qf.1 h;refine⟨hi,by rw[he];simpa using ha,fun j hj=>?_⟩;have:=hn j _ hj (qm (by omega));simpa using this
 rw[this]
theorem Zad {l:List (ArmH×Exp)}{s:Str}(hn:∀(j:Nat) b,j<l.length->l[j]?=some b->b.1.con≠s):Ft l s=-1:=by
 unfold Ft;have:l.findIdx? (fun x=>x.1.con==s)=none:=by
  rw[List.findIdx?_eq_none_iff];intro x hx;obtain⟨j,hj,rfl⟩:=List.getElem_of_mem hx;have:=hn j _ hj (qm hj);simpa using this
 rw[this]
theorem UB (l:List (ArmH×Exp))(h:Exp)(hl:l.length<=687194767360):(K A).call 203 [.sc (.c (.sl (Exp.armRows l))),.sc (.clo 204 [true] [[.ptr 0 0]])] [.box (wc h.row)]=some (intV (Ft l h.name),[.box (wc h.row)]):=by
 refine fnO v203 ?_;unfold v203;simp(disch:=try exact zd) [-getElem?_pos];refine AW (fun i s=>(∀(j:Nat) b,j<i->l[j]?=some b->b.1.con≠h.name)/\s=⟨[(0,.sc (.c (.sl (Exp.armRows l)))),(1,.sc (.clo 204 [true] [[.ptr 0 0]])),(7,intV l.length),(8,intV i)],[(0,some (.box (wc h.row)))]⟩) l.length ⟨by omega,by simp⟩ ?_ ?_
 .rintro i s hi ⟨hn,rfl⟩
  obtain⟨a,ha⟩:=Ag hi;have hc:=XP (A:=A) a h;unfold ML;by_cases hca:a.1.con=h.name
  .have hx:=Wq ha hca hn
   simp(disch:=try exact zd) [hi,ha,hc,hca,hx,-getElem?_pos]
  .simp (disch:=try exact zd) [hi,ha,hc,hca,-getElem?_pos]
   intro j b x hj hb;by_cases hji:j<i
   .exact hn j (b,x) hji hb
   .obtain rfl:j=i:=by omega
    rw[ha]at hb;cases hb;exact hca
 .rintro s ⟨hn,rfl⟩
  have hx:=Zad hn;unfold ML;simp(disch:=try exact zd) [hx,-getElem?_pos]
theorem VB {l:List (ArmH×Exp)}{s:Str}:(Ft l s=-1/\l.find? (fun a=>a.1.con==s)=none)\/∃(i:Nat)(a:ArmH×Exp),Ft l s=i/\l[i]?=some a/\l.find? (fun a=>a.1.con==s)=some a:=by
 unfold Ft;cases h:l.findIdx? (fun x=>x.1.con==s)with
 |none=>
  refine .inl ⟨rfl,?_⟩;rw[List.findIdx?_eq_none_iff]at h;rw[List.find?_eq_none];intro x hx;simp[h x hx]
 |some i=>
  obtain⟨hi,h1,h2⟩:=List.findIdx?_eq_some_iff_getElem.1 h;refine .inr ⟨i,l[i],rfl,qm hi,?_⟩;rw[List.find?_eq_some_iff_getElem];exact⟨h1,i,hi,rfl,fun j hj=>by simpa using h2 j hj⟩
def Ke (e:Exp)(o:Option (Exp×Nat)):V:=match o with
 |some p=>.tu [expV p.1,Aa true]
 |none=>.tu [expV e,Aa false]
def chB (T:List Str)(vars:List Str)(b:Exp)(i:Nat):Exp:=Ax ((renL T vars).take i) b
def chS (T:List Str)(args:List Exp)(b:Exp)(i:Nat):Exp:=Ax ((argL T args).take i) b
theorem Up (l:List (Str×Exp))(p:Str×Exp)(b:Exp):Ax (l++[p]) b=subP (Ax l b) p.1 p.2:=by rw[Nx];rfl
theorem ZbW {T vars:List Str}{b:Exp}{i:Nat}{v:Str}(h:vars[i]?=some v):chB T vars b (i+1)=subP (chB T vars b i) v (varX (Av i T)):=by
 have h2:(renL T vars)[i]?=some (v,varX (Av i T)):=by unfold renL;simp[h]
 unfold chB;rw[Bn h2,Up]
theorem XC {T:List Str}{args:List Exp}{b:Exp}{i:Nat}{x:Exp}(h:args[i]?=some x):chS T args b (i+1)=subP (chS T args b i) (Av i T) x:=by
 have h2:(argL T args)[i]?=some (Av i T,x):=by unfold argL;simp[h]
 unfold chS;rw[Bn h2,Up]
theorem YT (e:Exp):lowE e->∀s∈Ah e,s.length<=1000:=by
 induction e using Exp.ind with
 |h e ih=>
  intro h s hs;rw[E6]at hs;rcases qD.1 hs with rfl|hs
  .exact IZ h
  .rcases qz.1 hs with hs|hs
   .obtain ⟨l,hl,hs⟩:=List.mem_flatten.1 hs
    obtain⟨a,ha,rfl⟩:=qL.1 hl;exact qr (h.one.2.2.2 a ha s hs).1 (by decide)
   .obtain ⟨l,hl,hs⟩:=List.mem_flatten.1 hs
    obtain⟨x,hx,rfl⟩:=qL.1 hl;exact ih x hx (h.child hx) s hs
theorem Yp {B:Nat}(e k:Exp)(hk:e.kids=[k])(he:okE e)(hl:lfE e)(hw:Lim B e):(K A).call 159 [expV e] []=some (Ke e (CK subP Ah e (spine k).1.name (spine k).2),[]):=by
 have hsm:=hw.sm;have hwt:=hw.wt;have hkm:k∈e.children:=AO (by rw[hk];simp);have hkl:=Exp.child_lt hkm;have hsk:=(he.child hkm).1;have hsp:=MB (A:=A) k hsk (by omega);have hal:=e.children_le;rw[e.children_len]at hal;have hix:=UB (A:=A) e.arms (spine k).1 (by omega);have hsl:=L8 k hsk;have hus:=U9 (A:=A) e he.1.wf (by omega);have hul:=II e;refine fnO v159 ?_;unfold v159 CK
 rcases VB (l:=e.arms) (s:=(spine k).1.name)with ⟨h1,h2⟩|⟨i,a,h1,hai,h2⟩
 .rw [h1] at hix
  rw[h2];simp(maxSteps:=9^7) (disch:=try exact zd) [hk,Hz,hsp,hix,Ke,-getElem?_pos]
 .rw [h1] at hix
  rw[h2];have hi0:=(qf.1 hai).1;have hin:¬(i:Int)<0:=by omega
  simp only;by_cases hv:a.1.vars.length=(spine k).2.length
  .rw [if_pos hv]
   have hC:CaseOk B e k a:=⟨he,hl,hw,hk,qd hai⟩;have hsum:=hC.sum;have hch:LZ subP (Ef (Ah e) a.1.vars (spine k).2) a.2=chS (Ah e) (spine k).2 (chB (Ah e) a.1.vars a.2 a.1.vars.length) (spine k).2.length:=by
    unfold chS chB;rw[qn (show(renL (Ah e) a.1.vars).length<=_ by simp[renL]),qn (show(argL (Ah e) (spine k).2).length<=_ by simp[argL]),<-Nx];rfl
   have hnmT:∀s∈Ah e,s.length<=281474976710656:=fun s hs=>qr (YT e hl.1 s hs) (by decide);rw[hch];simp(maxSteps:=9^7) (disch:=try exact zd) [hk,Hz,hsp,hix,hin,hai,hi0,hv,hus,Ke,-getElem?_pos];have hfr:∀i:Nat,i<=100000000->(K A).call 207 [intV i,A1 (Ah e)] []=some (strV (Av i (Ah e)),[]):=fun i hi=>Ox (A:=A) i i (by omega) (by omega) (Ah e) (by omega) (by omega) hnmT
   have hfl:∀i:Nat,i<=100000000->(Av i (Ah e)).length<=1000:=fun i hi=>Ha i (Ah e) (by omega);refine Aq (fun i=>⟨[(2,.sc (.ptr 128 0)),(5,CA (spine k).2),(7,.sc (.ptr 2880 0)),(8,A1 (Ah e)),(53,A1 a.1.vars),(54,intV (spine k).2.length),(55,intV i)],
    [(64,some (.box (wc e.row))),(128,some (.box [zi,zi,zs,zi,.nil,.nil,zi,zs,zi,zi,.nil])),(768,some (.box (wc (spine k).1.row))),(2880,some (.box (wc (chB (Ah e) a.1.vars a.2 i).row)))]⟩) (spine k).2.length ?_ ?_ ?_
   .simp[chB,Ax]
   .intro i hi
    obtain⟨v,hvi⟩:=Ag (l:=a.1.vars) (i:=i) (by omega);obtain⟨r1,r2,r3⟩:=hC.ren i;have hvl:v.length<=1000:=qr (hl.1.one.2.2.2 a hC.am v (qd hvi)).1 (by decide);have hren:=Zay (A:=A) (chB (Ah e) a.1.vars a.2 i) v (Av i (Ah e)) hvl (hfl i (by omega)) (show _<=_ from qr r3 (by omega)) r1.1 r1.2.1 r2;rw[<-ZbW hvi]at hren;have hf:=hfr i (by omega);have hi2:i<a.1.vars.length:=(by omega);unfold KH
    simp(maxSteps:=9^7) (disch:=try exact zd) [hi,hi2,hvi,hf,hren,-getElem?_pos]
   .have hB:chB (Ah e) a.1.vars a.2 (spine k).2.length=Ax (renL (Ah e) a.1.vars) a.2:=by
     unfold chB;rw[qn (by simp[renL];omega)]
    rw[hB];unfold KH;simp(maxSteps:=9^7) (disch:=try exact zd) [-getElem?_pos];refine Aq (fun i=>⟨[(2,.sc (.ptr 128 0)),(7,.sc (.ptr 2880 0)),(8,A1 (Ah e)),(67,CA (spine k).2),(68,intV (spine k).2.length),(69,intV i)],
     [(64,some (.box (wc e.row))),(128,some (.box [zi,zi,zs,zi,.nil,.nil,zi,zs,zi,zi,.nil])),(768,some (.box (wc (spine k).1.row))),(2880,some (.box (wc (chS (Ah e) (spine k).2 (Ax (renL (Ah e) a.1.vars) a.2) i).row)))]⟩) (spine k).2.length ?_ ?_ ?_
    .simp[chS,Ax]
    .intro i hi
     obtain⟨x,hx⟩:=Ag (l:=(spine k).2) (i:=i) hi;obtain⟨s1,s2,s3⟩:=hC.sub i;obtain⟨x1,x2,x3,_⟩:=hC.args x (qd hx);have hsu:=IV (A:=A) (chS (Ah e) (spine k).2 (Ax (renL (Ah e) a.1.vars) a.2) i) (Av i (Ah e)) x s1 x1 s2 (D9 x2.1) (qr s3 hwt) (by omega) (hfl i (by omega));rw[<-XC hx]at hsu;have hf:=hfr i (by omega);unfold Mk;simp(maxSteps:=9^7) (disch:=try exact zd) [hi,hx,hf,hsu,-getElem?_pos]
    .unfold Mk
     simp(maxSteps:=9^7) (disch:=try exact zd) [-getElem?_pos]
  .rw [if_neg hv]
   have hv':¬(a.1.vars.length:Int)=(spine k).2.length:=(by omega);simp(maxSteps:=9^7) (disch:=try exact zd) [hk,Hz,hsp,hix,hin,hai,hi0,hv,hv',Ke,-getElem?_pos]
variable {A:Ab}
def Zdr (o:Option (Exp×Nat))(r:V×List Obj):Prop:=match o with
 |some p=>r=(.tu [expV p.1,intV p.2,Aa true],[])
 |none=>∃(x:Exp) (m:Int),r=(.tu [expV x,intV m,Aa false],[])
def Bu (e:Exp)(i:Nat):St:=⟨[(1,.sc (.ptr 64 0)),(2,.sc (.ptr 128 0)),(13,.sc (.arr 352 6)),(14,intV 6),(15,intV i)],
 [(64,some (.box (wc e.row))),(128,some (.box [zi,zi,zs,zi,.nil,.nil,zi,zs,zi,zi,.nil])),(352,some (.arr 2 (AR 353 354 355 356) 0)),(353,some (.box [.c (.int .i64 6)])),(354,some (.box [.c (.int .i64 7)])),(355,some (.box [.c (.int .i64 9)])),(356,some (.box [.c (.int .i64 11)]))]⟩
def B5 (e:Exp)(i:Nat):Prop:=(i=0/\e.kind=5/\∃f,e.kids[0]?=some f/\f.kind=4)\/(i=1/\e.kind=6)\/(i=2/\e.kind=7)\/(i=3/\e.kind=8/\∃k,e.kids[0]?=some k/\(spine k).1.kind=2)\/(i=4/\e.kind=9)\/(i=5/\e.kind=11)
theorem Ny (e:Exp)(hs:shp e)(hl:e.weight<=687194767360)(i:Nat)(hi:i<6)(hno:¬B5 e i):wp (K A) Cl (fun x s'=>x=.normal/\s'=Bu e (i+1)) (Bu e i):=by
 have h0:=RG (A:=A) e hs;have h3:=Qr (A:=A) e hs hl;have h1:=fun k=>Ps (A:=A) k e;have hi6:(i:Int)<6:=by omega
 unfold B5 at hno;have:i=0\/i=1\/i=2\/i=3\/i=4\/i=5:=by omega
 have g0:(AR 353 354 355 356)[0]?=some [.c (.fn 153 [] []),.c (.fn 154 [] [])]:=rfl;have g1:(AR 353 354 355 356)[1]?=some [.clo 151 [true] [[.ptr 353 0]],.c (.fn 156 [] [])]:=rfl;have g2:(AR 353 354 355 356)[2]?=some [.clo 151 [true] [[.ptr 354 0]],.c (.fn 157 [] [])]:=rfl;have g3:(AR 353 354 355 356)[3]?=some [.c (.fn 158 [] []),.c (.fn 159 [] [])]:=rfl
 have g4:(AR 353 354 355 356)[4]?=some [.clo 151 [true] [[.ptr 355 0]],.c (.fn 152 [] [])]:=rfl;have g5:(AR 353 354 355 356)[5]?=some [.clo 151 [true] [[.ptr 356 0]],.c (.fn 152 [] [])]:=rfl;have gl:(AR 353 354 355 356).length=6:=rfl;have gren:(AR 353 354 355 356).map (fun x=>x.map (W.ren (Bx [768,1184,1185,1186,1440,1441,1442,1664]) 4))=AR 353 354 355 356:=rfl;have m2:AE (intV 2) 6=some 2:=rfl
 have m3:AE (intV 3) 6=some 3:=rfl;have m4:AE (intV 4) 6=some 4:=rfl;have m5:AE (intV 5) 6=some 5:=rfl;rcases this with rfl|rfl|rfl|rfl|rfl|rfl
 .have hd:decide (e.kind=5/\∃ f,e.kids[0]?=some f/\f.kind=4)=false:=by simpa using hno
  rw[hd]at h0;unfold Cl Bu;generalize AR 353 354 355 356=RR at *
  simp(maxSteps:=9^7) (disch:=try exact zd) [h0,g0,gl,gren,m2,m3,m4,m5,-getElem?_pos]
 .have hd:¬e.kind=6:=by simpa using hno
  have hc:=h1 6;unfold Cl Bu;generalize AR 353 354 355 356=RR at *
  simp(maxSteps:=9^7) (disch:=try exact zd) [hc,hd,g1,gl,gren,m2,m3,m4,m5,-getElem?_pos]
 .have hd:¬e.kind=7:=by simpa using hno
  have hc:=h1 7;unfold Cl Bu;generalize AR 353 354 355 356=RR at *
  simp(maxSteps:=9^7) (disch:=try exact zd) [hc,hd,g2,gl,gren,m2,m3,m4,m5,-getElem?_pos]
 .have hd:decide (e.kind=8/\∃ k,e.kids[0]?=some k/\(spine k).1.kind=2)=false:=by simpa using hno
  rw[hd]at h3;unfold Cl Bu;generalize AR 353 354 355 356=RR at *
  simp(maxSteps:=9^7) (disch:=try exact zd) [h3,g3,gl,gren,m2,m3,m4,m5,-getElem?_pos]
 .have hd:¬e.kind=9:=by simpa using hno
  have hc:=h1 9;unfold Cl Bu;generalize AR 353 354 355 356=RR at *
  simp(maxSteps:=9^7) (disch:=try exact zd) [hc,hd,g4,gl,gren,m2,m3,m4,m5,-getElem?_pos]
 .have hd:¬e.kind=11:=by simpa using hno
  have hc:=h1 11;unfold Cl Bu;generalize AR 353 354 355 356=RR at *
  simp(maxSteps:=9^7) (disch:=try exact zd) [hc,hd,g5,gl,gren,m2,m3,m4,m5,-getElem?_pos]
def aidN (i:Nat):Nat:=if i=0 then 154 else if i=1 then 156 else if i=2 then 157 else if i=3 then 159 else 152
theorem Gm (e:Exp)(hs:shp e)(hl:e.weight<=687194767360)(i:Nat)(hi:i<6)(hno:∀j,j<i->¬B5 e j)(ha:B5 e i)(x:Exp)(b:Bool)(hc:(K A).call (aidN i) [expV e] []=some (.tu [expV x,Aa b],[])):
 (K A).call 48 [expV e] []=some (.tu [expV x,intV (i+1),Aa b],[]):=by
 have hrl:=Ma (A:=A);have h0:=RG (A:=A) e hs;have h3:=Qr (A:=A) e hs hl;have h1:=fun k=>Ps (A:=A) k e;have g0:(AR 353 354 355 356)[0]?=some [.c (.fn 153 [] []),.c (.fn 154 [] [])]:=rfl;have g1:(AR 353 354 355 356)[1]?=some [.clo 151 [true] [[.ptr 353 0]],.c (.fn 156 [] [])]:=rfl;have g2:(AR 353 354 355 356)[2]?=some [.clo 151 [true] [[.ptr 354 0]],.c (.fn 157 [] [])]:=rfl
 have g3:(AR 353 354 355 356)[3]?=some [.c (.fn 158 [] []),.c (.fn 159 [] [])]:=rfl;have g4:(AR 353 354 355 356)[4]?=some [.clo 151 [true] [[.ptr 355 0]],.c (.fn 152 [] [])]:=rfl;have g5:(AR 353 354 355 356)[5]?=some [.clo 151 [true] [[.ptr 356 0]],.c (.fn 152 [] [])]:=rfl;have gl:(AR 353 354 355 356).length=6:=rfl
 have gr:(AR 1 2 3 4).map (fun x=>x.map (W.ren (nthN [352,353,354,355,356]) 4))=AR 353 354 355 356:=rfl;have m2:AE (intV 2) 6=some 2:=rfl;have m3:AE (intV 3) 6=some 3:=rfl;have m4:AE (intV 4) 6=some 4:=rfl;have m5:AE (intV 5) 6=some 5:=rfl;refine fnO v48 ?_;unfold v48;simp(maxSteps:=9^7) (disch:=try exact zd) [hrl,gl,gr,-getElem?_pos]
 refine Aq (Bu e) i (by simp[Bu]) (fun j hj=>Ny e hs hl j (by omega) (hno j hj)) ?_;clear hrl gr;have hi6:i=0\/i=1\/i=2\/i=3\/i=4\/i=5:=by omega
 unfold B5 at ha;rcases hi6 with rfl|rfl|rfl|rfl|rfl|rfl
 .replace hc:(K A).call 154 [expV e] []=some (.tu [expV x,Aa b],[]):=hc
  have hd:decide (e.kind=5/\∃f,e.kids[0]?=some f/\f.kind=4)=true:=by simpa using ha
  rw[hd]at h0;unfold Cl Bu;generalize AR 353 354 355 356=RR at *
  simp(maxSteps:=9^7) (disch:=try exact zd) [h0,hc,g0,gl,m2,m3,m4,m5,-getElem?_pos]
 .replace hc:(K A).call 156 [expV e] []=some (.tu [expV x,Aa b],[]):=hc
  have hd:e.kind=6:=by simpa using ha
  have hk:=h1 6;unfold Cl Bu;generalize AR 353 354 355 356=RR at *
  simp(maxSteps:=9^7) (disch:=try exact zd) [hk,hd,hc,g1,gl,m2,m3,m4,m5,-getElem?_pos]
 .replace hc:(K A).call 157 [expV e] []=some (.tu [expV x,Aa b],[]):=hc
  have hd:e.kind=7:=by simpa using ha
  have hk:=h1 7;unfold Cl Bu;generalize AR 353 354 355 356=RR at *
  simp(maxSteps:=9^7) (disch:=try exact zd) [hk,hd,hc,g2,gl,m2,m3,m4,m5,-getElem?_pos]
 .replace hc:(K A).call 159 [expV e] []=some (.tu [expV x,Aa b],[]):=hc
  have hd:decide (e.kind=8/\∃k,e.kids[0]?=some k/\(spine k).1.kind=2)=true:=by simpa using ha
  rw[hd]at h3;unfold Cl Bu;generalize AR 353 354 355 356=RR at *
  simp(maxSteps:=9^7) (disch:=try exact zd) [h3,hc,g3,gl,m2,m3,m4,m5,-getElem?_pos]
 .replace hc:(K A).call 152 [expV e] []=some (.tu [expV x,Aa b],[]):=hc
  have hd:e.kind=9:=by simpa using ha
  have hk:=h1 9;unfold Cl Bu;generalize AR 353 354 355 356=RR at *
  simp(maxSteps:=9^7) (disch:=try exact zd) [hk,hd,hc,g4,gl,m2,m3,m4,m5,-getElem?_pos]
 .replace hc:(K A).call 152 [expV e] []=some (.tu [expV x,Aa b],[]):=hc
  have hd:e.kind=11:=by simpa using ha
  have hk:=h1 11;unfold Cl Bu;generalize AR 353 354 355 356=RR at *
  simp(maxSteps:=9^7) (disch:=try exact zd) [hk,hd,hc,g5,gl,m2,m3,m4,m5,-getElem?_pos]
theorem Tv (e:Exp)(hs:shp e)(hl:e.weight<=687194767360)(hno:∀j,j<6->¬B5 e j)(h5:e.kind≠5)(h8:e.kind≠8):(K A).call 48 [expV e] []=some (.tu [expV e,intV 0,Aa false],[]):=by
 have hrl:=Ma (A:=A);have gl:(AR 353 354 355 356).length=6:=rfl;have gr:(AR 1 2 3 4).map (fun x=>x.map (W.ren (nthN [352,353,354,355,356]) 4))=AR 353 354 355 356:=rfl;refine fnO v48 ?_;unfold v48;simp(maxSteps:=9^7) (disch:=try exact zd) [hrl,gl,gr,-getElem?_pos];refine Aq (Bu e) 6 (by simp[Bu]) (fun j hj=>Ny e hs hl j (by omega) (hno j hj)) ?_;clear hrl gr;unfold Cl Bu
 generalize AR 353 354 355 356=RR at *
 simp(maxSteps:=9^7) (disch:=try exact zd) [h5,h8,gl,-getElem?_pos]
theorem WE (e f x:Exp)(m:Int)(b:Bool)(hs:shp e)(hl:e.weight<=687194767360)(hno:∀j,j<6->¬B5 e j)(h58:e.kind=5\/e.kind=8)(hf:e.kids[0]?=some f)(hc:(K A).call 48 [expV f] []=some (.tu [expV x,intV m,Aa b],[])):
 (K A).call 48 [expV e] []=some (.tu [expV (AL e (x::e.children.tail)),intV m,Aa b],[]):=by
 have hrl:=Ma (A:=A);have gl:(AR 353 354 355 356).length=6:=rfl;have gr:(AR 1 2 3 4).map (fun x=>x.map (W.ren (nthN [352,353,354,355,356]) 4))=AR 353 354 355 356:=rfl;have hkl:0<e.kids.length:=by
  cases hh:e.kids with
  |nil=>rw[hh]at hf;simp at hf
  |cons a l=>simp
 have hne:e.kids≠[]:=fun h=>by rw[h]at hkl;simp at hkl
 have hle:=e.children_le;rw[e.children_len]at hle;have hch:=BQ (A:=A) e hne hl;have hcl:=e.children_len;have hset:e.children.set 0 x=x::e.children.tail:=by
  cases hh:e.children with
  |nil=>rw[hh]at hcl;simp at hcl;omega
  |cons a l=>rfl
 have hrs:setRow (wr (Exp.rows e.children)) 0 (wc x.row)=wr (Exp.rows (x::e.children.tail)):=by rw[Fu,hset]
 have hCl:(x::e.children.tail).length=e.kids.length+e.arms.length:=by rw[<-hset,List.length_set,hcl]
 have hw:=Gg (A:=A) e (x::e.children.tail) hCl hl;have hg0:∃c,e.children[0]?=some c:=Ag (by omega);obtain⟨c0,hg0⟩:=hg0;rw[hcl]at hch;have hrow':=DR e
 have hrowW:wc (AL e (x::e.children.tail)).row=[.c (.int .i64 e.kind),.c (.int .i64 e.pos),.c (.str e.name),.c (.int .i64 e.num),.c (.sl (Exp.rows ((x::e.children.tail).take e.kids.length))),.c (.sl (Exp.armRows (AV e.arms ((x::e.children.tail).drop e.kids.length)))),.c (.int .i64 e.ty.kind),.c (.str e.ty.name),.c (.int .i64 e.ty.id),.c (.int .i64 e.ty.home),.c (.sl (Ty.rows e.ty.args))]:=by rw[Exp.row_eq];rfl
 have hkW:((x::e.children.tail).take e.kids.length).length=e.kids.length:=by rw[qY,hCl];omega
 have haW:(AV e.arms ((x::e.children.tail).drop e.kids.length)).length=e.arms.length:=by rw[armsW_len,qaa,hCl];omega
 refine fnO v48 ?_;unfold v48;simp(maxSteps:=9^7) (disch:=try exact zd) [hrl,gl,gr,-getElem?_pos];refine Aq (Bu e) 6 (by simp[Bu]) (fun j hj=>Ny e hs hl j (by omega) (hno j hj)) ?_;clear hrl gr;unfold Cl Bu;generalize AR 353 354 355 356=RR at *
 generalize x::e.children.tail=cs at *
 simp only[expV,hrow']at hch hw;rcases h58 with h5|h5
 .simp only [h5] at hch hw hrowW
  simp(maxSteps:=9^7) (disch:=try exact zd) [h5,gl,hf,hc,hch,hrs,hg0,hw,hrowW,hCl,hkW,haW,hrow',-getElem?_pos]
 .simp only [h5] at hch hw hrowW
  simp(maxSteps:=9^7) (disch:=try exact zd) [h5,gl,hf,hc,hch,hrs,hg0,hw,hrowW,hCl,hkW,haW,hrow',-getElem?_pos]
theorem Z5 {e:Exp}(hs:shp e)(h:e.kind=5\/e.kind=6\/e.kind=7):∃f a,e.kids=[f,a]:=by
 have h1:=hs.one.2.2;unfold CO at h1;rw[if_pos h]at h1
 match hk:e.kids with
 |[f,a]=>exact⟨f,a,rfl⟩
 |[]=>rw[hk]at h1;simp at h1
 |[_]=>rw[hk]at h1;simp at h1
 |_::_::_::_=>rw[hk]at h1;simp at h1
theorem PT {e:Exp}(hs:shp e)(h:e.kind=4\/e.kind=8\/e.kind=9\/e.kind=11):∃k,e.kids=[k]:=by
 have h1:=hs.one.2.2;unfold CO at h1;rw[if_neg (by omega),if_pos h]at h1
 match hk:e.kids with
 |[f]=>exact⟨f,rfl⟩
 |[]=>rw[hk]at h1;simp at h1
 |_::_::_=>rw[hk]at h1;simp at h1
theorem Zbk {e:Exp}(hs:shp e)(h:¬(e.kind=5\/e.kind=6\/e.kind=7))(h2:¬(e.kind=4\/e.kind=8\/e.kind=9\/e.kind=11)):e.kids=[]:=by
 have h1:=hs.one.2.2;unfold CO at h1;rw[if_neg h,if_neg h2]at h1;exact qS.1 h1
def Qa (A:Ab)(n:Nat)(e:Exp):Prop:=∃(x:Exp)(m:Int)(b:Bool),(K A).call 48 [expV e] []=some (.tu [expV x,intV m,Aa b],[])/\
 ((b=true/\∃m':Nat,m=m'/\AI subP Ah AA n e=some (x,m'))\/(b=false/\AI subP Ah AA n e=none))
theorem ON {B:Nat}:∀(n:Nat)(e:Exp),e.weight<=n->okE e->lfE e->Lim B e->Qa A n e
 |0,e,h,_,_,_=>by have:=e.weight_pos;omega
 |n+1,e,hn,he,hl,hw=>by
  have hs:=he.1;have hsm:=hw.sm;have hwl:e.weight<=687194767360:=by omega
  have down:∀f,e.kids[0]?=some f->(e.kind=5\/e.kind=8)->(∀j,j<6->¬B5 e j)->(AI subP Ah AA (n+1) e=(AI subP Ah AA n f).map fun p=>(AL e (p.1::e.children.tail),p.2))->Qa A (n+1) e:=by
   intro f hf h58 hno hg;have hm:f∈e.children:=AO (qd hf);have hlt:=Exp.child_lt hm;obtain⟨x,m,b,hc,hb⟩:=ON n f (by omega) (he.child hm) (hl.child hm) (hw.child hm);refine⟨_,m,b,WE e f x m b hs hwl hno h58 hf hc,?_⟩;rw[hg];rcases hb with ⟨hb,m',hm',h1⟩|⟨hb,h1⟩
   .exact .inl ⟨hb,m',hm',by rw[h1];rfl⟩
   .exact .inr ⟨hb,by rw[h1];rfl⟩
  by_cases h2:e.kind=5\/e.kind=6\/e.kind=7
  .obtain ⟨f,a,hk⟩:=Z5 hs h2
   have hf:e.kids[0]?=some f:=(by rw[hk];rfl);have hfm:f∈e.children:=AO (qd hf);rcases h2 with h5|h6|h7
   .by_cases h4:f.kind=4
    .obtain ⟨k,hfk⟩:=PT (hs.child hfm) (.inl h4)
     refine⟨_,_,true,Gm e hs hwl 0 (by omega) (fun j hj=>by omega) (.inl ⟨rfl,h5,f,hf,h4⟩) _ true (Vw e f a k hk hfk he hl hw),.inl ⟨rfl,1,rfl,?_⟩⟩;unfold AI;rw[hk];simp[h5,h4,hfk]
    .refine down f hf (.inl h5) (fun j _ ha => ?_) ?_
     .unfold B5 at ha
      rcases ha with ⟨_,_,g,hg,h⟩|⟨_,h⟩|⟨_,h⟩|⟨_,h,_⟩|⟨_,h⟩|⟨_,h⟩
      .rw[hf]at hg;obtain rfl:=qV hg;exact h4 h
      all_goals omega
     .conv=>lhs;unfold AI
      rw[hk];simp[h5,h4]
   .refine ⟨_,_,true,Gm e hs hwl 1 (by omega) (fun j hj ha => ?_) (.inr (.inl ⟨rfl,h6⟩)) _ true (Zc0 e f a hk he hl hw),.inl ⟨rfl,2,rfl,?_⟩⟩
    .unfold B5 at ha;omega
    .unfold AI
     rw[hk];simp[h6]
   .refine ⟨_,_,true,Gm e hs hwl 2 (by omega) (fun j hj ha => ?_) (.inr (.inr (.inl ⟨rfl,h7⟩))) _ true (ZH e f a h7 hk he hl hw),.inl ⟨rfl,3,rfl,?_⟩⟩
    .unfold B5 at ha;omega
    .unfold AI
     rw[hk];simp[h7]
  .by_cases h1:e.kind=4\/e.kind=8\/e.kind=9\/e.kind=11
   .obtain ⟨k,hk⟩:=PT hs h1
    have hf:e.kids[0]?=some k:=(by rw[hk];rfl);rcases h1 with h4|h8|h9|h11
    .refine ⟨_,_,false,Tv e hs hwl (fun j hj ha => ?_) (by omega) (by omega),.inr ⟨rfl,?_⟩⟩
     .unfold B5 at ha;omega
     .unfold AI
      rw[hk];simp[h4]
    .by_cases hm:(spine k).1.kind=2
     .have hc:=Yp (A:=A) e k hk he hl hw
      have hg:AI subP Ah AA (n+1) e=CK subP Ah e (spine k).1.name (spine k).2:=by
       conv=>lhs;unfold AI
       rw[hk];have hsp:=HW k.weight k [] (qg _) (hs.child (AO (qd hf)));simp[h8,hsp,hm]
      cases ho:CK subP Ah e (spine k).1.name (spine k).2 with
      |none=>
       rw[ho]at hc;exact⟨_,_,false,Gm e hs hwl 3 (by omega) (fun j hj ha=>by unfold B5 at ha;omega) (.inr (.inr (.inr (.inl ⟨rfl,h8,k,hf,hm⟩)))) _ false hc,.inr ⟨rfl,by rw[hg,ho]⟩⟩
      |some p=>
       rw[ho]at hc;refine⟨_,_,true,Gm e hs hwl 3 (by omega) (fun j hj ha=>by unfold B5 at ha;omega) (.inr (.inr (.inr (.inl ⟨rfl,h8,k,hf,hm⟩)))) _ true hc,.inl ⟨rfl,4,rfl,?_⟩⟩;rw[hg,ho];have h4:p.2=4:=by
        unfold CK at ho;split at ho
        .cases ho
        .split at ho
         .exact(congrArg Prod.snd (qV ho)).symm
         .cases ho
       rw[<-h4]
     .refine down k hf (.inr h8) (fun j _ ha => ?_) ?_
      .unfold B5 at ha
       rcases ha with ⟨_,h,_⟩|⟨_,h⟩|⟨_,h⟩|⟨_,_,g,hg,h⟩|⟨_,h⟩|⟨_,h⟩
       .omega
       .omega
       .omega
       .rw[hf]at hg;obtain rfl:=qV hg;exact hm h
       .omega
       .omega
      .conv=>lhs;unfold AI
       rw[hk];have hsp:=HW k.weight k [] (qg _) (hs.child (AO (qd hf)));simp[h8,hsp,hm]
    .refine ⟨_,_,true,Gm e hs hwl 4 (by omega) (fun j hj ha => ?_) (.inr (.inr (.inr (.inr (.inl ⟨rfl,h9⟩))))) _ true (QK e k hf),.inl ⟨rfl,5,rfl,?_⟩⟩
     .unfold B5 at ha;omega
     .unfold AI
      rw[hk];simp[h9]
    .refine ⟨_,_,true,Gm e hs hwl 5 (by omega) (fun j hj ha => ?_) (.inr (.inr (.inr (.inr (.inr ⟨rfl,h11⟩))))) _ true (QK e k hf),.inl ⟨rfl,6,rfl,?_⟩⟩
     .unfold B5 at ha;omega
     .unfold AI
      rw[hk];simp[h11]
   .refine ⟨_,_,false,Tv e hs hwl (fun j hj ha => ?_) (by omega) (by omega),.inr ⟨rfl,?_⟩⟩
    .unfold B5 at ha;omega
    .unfold AI
     rw[Zbk hs h2 h1]
variable {A:Ab}
def Hx (e:Exp)(o:Option (Exp×Nat)):V×List Obj:=match o with
 |some p=>(.tu [expV (Ai p.1),intV p.2,Aa true],[])
 |none=>(.tu [expV e,intV 0,Aa false],[])
theorem Q1 {B:Nat}(u:List (List Cell))(e:Exp)(h:StE e)(hw:Lim B e):(K A).call 16 [.sc (.c (.sl u)),expV e] []=some (Hx e (AI subP Ah AA e.weight e)):=by
 have hsm:=hw.sm;have hv:=ZcI (A:=A) e h (by omega);obtain⟨x,m,b,hc,hb⟩:=ON (A:=A) e.weight e (qg _) h.ok h.lf hw;refine fnO v16 ?_;rcases hb with ⟨rfl,m',rfl,hs⟩|⟨rfl,hs⟩
 .have hx:=GP _ e _ (qg _) h.ok h.lf hw hs
  have hst:=Oj (A:=A) x (JB (fun e f he hk hf=>IJ he hk hf) _ e _ h.ok hs).1.wf (by
   have h1:=hx.1;have h2:=hw.wt;simp only at h1;omega)
  rw[hs];unfold v16 Hx;simp(maxSteps:=9^7) (disch:=try exact zd) [hv,hc,hst,-getElem?_pos]
 .rw [hs]
  unfold v16 Hx;simp(maxSteps:=9^7) (disch:=try exact zd) [hv,hc,-getElem?_pos]
def Zee (cur:Exp)(acc:List Exp):St:=if acc=[] then ⟨[(1,.sc (.ptr 64 0)),(2,.sc (.ptr 128 0)),(4,.sc .nil)],[(64,some (.box (wc cur.row))),(128,some (.box [zi,zi,zs,zi,.nil,.nil,zi,zs,zi,zi,.nil]))]⟩
 else ⟨[(1,.sc (.ptr 64 0)),(2,.sc (.ptr 128 0)),(4,CA acc)],[(64,some (.box (wc cur.row))),(128,some (.box [zi,zi,zs,zi,.nil,.nil,zi,zs,zi,zi,.nil])),(768,some (.arr 11 (wr (Exp.rows acc)) acc.length))]⟩
variable {A:Ab}
def runP:Nat->Exp->Exp×Nat
 |0,e=>(e,0)
 |k+1,e=>match AI subP Ah AA e.weight e with
  |none=>(e,0)
  |some p=>if 2000<Aj e then (e,0) else ((runP k (Ai p.1)).1,(runP k (Ai p.1)).2+1)
theorem Hv {k:Nat}{e:Exp}(h:AI subP Ah AA e.weight e=none):runP k e=(e,0):=by
 cases k with
 |zero=>rfl
 |succ k=>simp only[runP,h]
theorem IB {k:Nat}{e:Exp}(h:2000<Aj e):runP k e=(e,0):=by
 cases k with
 |zero=>rfl
 |succ k=>
  simp only[runP];split
  .rfl
  .rw[if_pos h]
theorem Gk {k:Nat}{e:Exp}{p:Exp×Nat}(h:AI subP Ah AA e.weight e=some p)(hn:¬2000<Aj e):runP (k+1) e=((runP k (Ai p.1)).1,(runP k (Ai p.1)).2+1):=by
 simp only[runP,h,if_neg hn]
theorem H4:∀(k:Nat)(e:Exp),(runP k e).2<=k
 |0,_=>qg _
 |k+1,e=>by
  cases h:AI subP Ah AA e.weight e with
  |none=>rw[Hv h];exact qai _
  |some p=>
   by_cases hn:2000<Aj e
   .rw[IB hn];exact qai _
   .rw [Gk h hn]
    have:=H4 k (Ai p.1);simp only;omega
theorem Rl {k:Nat}{e:Exp}(h:(runP k e).2=0):runP k e=(e,0):=by
 cases k with
 |zero=>rfl
 |succ k=>
  cases hp:AI subP Ah AA e.weight e with
  |none=>exact Hv hp
  |some p=>
   by_cases hn:2000<Aj e
   .exact IB hn
   .rw [Gk hp hn] at h
    simp only at h;omega
theorem ZJ (a:Exp):∀b,sameP a b->∀ρ,cV b ρ<=cV a ρ:=by
 induction a using Exp.ind with
 |h a ih=>
  intro b h ρ;have hs:=BP.1 h;have hk:a.kind=b.kind:=hs.1.1;by_cases h1:a.kind=1
  .rw [DM h1,DM (hk▸h1),hs.1.2.1]
   exact qg _
  .rw [DJ h1,DJ (hk▸h1)]
   refine Fe _ _ 0 h.kids_len.symm fun i y x hy hx=>?_;obtain⟨y',hy',hxy⟩:=h.kid hx;rw[hy]at hy';cases hy';simp only;rw[<-G9 h];exact ih x (qd hx) y hxy _
theorem Wf {B:Nat}(a:Exp):∀b,sameP a b->occB B a->occB B b:=by
 induction a using Exp.ind with
 |h a ih=>
  intro b h hb;have get:∀(i:Nat) y,b.children[i]?=some y->∃x,a.children[i]?=some x/\sameP x y:=fun i y hy=>by
   obtain⟨x,hx⟩:=Ag (l:=a.children) (i:=i) (by have:=h.kids_len;have:=(qf.1 hy).1;omega);obtain⟨y',hy',hxy⟩:=h.kid hx;rw[hy]at hy';cases hy';exact⟨x,hx,hxy⟩
  rw[FK];refine⟨fun i y hy u hu=>?_,fun y hy=>?_⟩
  .obtain ⟨x,hx,hxy⟩:=get i y hy
   exact qr (ZJ x y hxy _) (hb.one i x hx u (G9 h i▸hu))
  .obtain ⟨i,hi⟩:=qj.1 hy
   obtain⟨x,hx,hxy⟩:=get i y hi;exact ih x (qd hx) y hxy (hb.child (qd hx))
theorem Zah (e:Exp):posE e->Ai e=e:=by
 induction e using Exp.ind with
 |h e ih=>
  intro h;have hm:e.children.map Ai=e.children:=by
   rw[qM (g:=id) fun x hx=>ih x hx (h.child hx)];simp
  have ha:List.zipWith (fun(a:ArmH×Exp) c=>((⟨0,a.1.con,a.1.vars⟩:ArmH),c)) e.arms (e.arms.map (·.2))=e.arms:=by
   have h2:=h.one.2;generalize e.arms=l at h2
   induction l with
   |nil=>rfl
   |cons a l il=>
    obtain⟨⟨p,c,v⟩,x⟩:=a;have h3:p=0:=h2 (⟨p,c,v⟩,x) (by simp);simp only[qv,List.zipWith_cons_cons,il fun a ha=>h2 a (by simp[ha]),h3]
  rw[DT,hm];unfold Fs Exp.children;rw[List.take_left,List.drop_left,ha,<-h.one.1];cases e;rfl
def OkR (e:Exp):Prop:=StE e/\∃B,Lim B e
theorem OkR.next {e:Exp}(h:OkR e){p:Exp×Nat}(hp:AI subP Ah AA e.weight e=some p)(hn:¬2000<Aj e):OkR (Ai p.1):=by
 have hw:=Jz e h.1.lf.2;have hl:Lim 2000 e:=⟨HN e (by omega),by omega,by omega⟩;obtain⟨h1,h2,_⟩:=GP e.weight e p (qg _) h.1.ok h.1.lf hl hp;have hs:=Un p.1;exact⟨h.1.step hl (by omega) hp,2000,Wf _ _ (Io p.1) h2,by omega,by omega⟩
theorem OkR.run:∀(k:Nat){e:Exp},OkR e->OkR (runP k e).1
 |0,_,h=>h
 |k+1,e,h=>by
  cases hp:AI subP Ah AA e.weight e with
  |none=>rw[Hv hp];exact h
  |some p=>
   by_cases hn:2000<Aj e
   .rw[IB hn];exact h
   .rw [Gk hp hn]
    exact OkR.run k (h.next hp hn)
theorem NZ:∀(n:Nat)(e:Exp)(p:Exp×Nat),AI subP Ah AA n e=some p->p.2≠0
 |0,_,_,h=>by cases h
 |n+1,e,p,h=>by
  have ih:=NZ n;unfold AI CK at h;grind[qo]
abbrev Jc:List W:=[zi,zi,zs,zi,.nil,.nil,zi,zs,zi,zi,.nil]
def RunS (u:List (List Cell))(k:Nat)(e:Exp)(i:Nat)(t:List (Nat×Option Obj)):St:=⟨[(0,.sc (.c (.sl u))),(2,intV k),(4,.sc (.ptr 64 0)),(6,.sc (.ptr 128 0)),(9,intV i)],(64,some (.box (wc e.row)))::(128,some (.box Jc))::t⟩
def RunT (t:List (Nat×Option Obj)):Prop:=t=[]\/∃c,t=[(1280,some (.box c))]
def kP (k:Int):Nat:=(min (max k 0) 300).toNat
theorem Za9 (u:List (List Cell))(e:Exp)(k:Int)(h:OkR e):(K A).call 33 [.sc (.c (.sl u)),expV e,intV k] []=some (.tu [expV (Ai (runP (kP k) e).1),intV ((runP (kP k) e).2:Nat),Aa (decide (valP (runP (kP k) e).1))],[]):=by
 refine fnO v33 ?_;have hk:(if (300:Int)<(if (0:Int)>k then 0 else k) then (300:Int) else (if (0:Int)>k then 0 else k))=(kP k:Int):=by
  unfold kP;split<;>split at *<;>omega
 have hk3:kP k<=300:=by unfold kP;omega
 generalize kP k=n at *
 unfold v33;simp(disch:=try exact zd) [hk];refine AW (fun i s=>∃cur t,OkR cur/\RunT t/\i<=n/\runP n e=((runP (n-i) cur).1,(runP (n-i) cur).2+i)/\s=RunS u n cur i t) (runP n e).2 ⟨e,[],h,.inl rfl,qai _,rfl,by simp[RunS]⟩ ?_ ?_
 .rintro i s hi ⟨cur,t,hok,ht,hin,hr,rfl⟩
  have h2:=congrArg Prod.snd hr;simp only at h2;obtain⟨j,hj⟩:∃j,n-i=j+1:=⟨n-i-1,by have:=H4 (n-i) cur;omega⟩;obtain⟨hst,B,hB⟩:=hok;have h16:=Q1 (A:=A) u cur hst hB;have h71:=OI (A:=A) cur hst.ok.1.wf (by have:=hB.sm;omega);rw[hj]at hr h2;cases hp:AI subP Ah AA cur.weight cur with
  |none=>
   rw[Hv hp]at h2;simp only at h2;omega
  |some p=>
   by_cases hn:2000<Aj cur
   .rw [IB hn] at h2
    simp only at h2;omega
   .rw [Gk hp hn] at hr
    rw[hp]at h16;unfold Hx at h16;have hnx:=OkR.next ⟨hst,B,hB⟩ hp hn;have h0:=NZ _ _ _ hp;have hiI:(i:Int)<n:=(by omega);have hnI:¬(2000:Int)<Aj cur:=(by omega);obtain⟨x,r⟩:=p;simp only at *
    generalize Ai x=y at *
    refine wp_mono (Q:=fun e' s'=>e'=.normal/\s'=RunS u n y (i+1) [(1280,some (.box (wc y.row)))]) ?_ ?_
    .unfold Iq RunS
     rcases ht with rfl|⟨c,rfl⟩ <;>
     simp(disch:=try exact zd) [hiI,hnI,h16,h71,h0]
    .rintro e' s' ⟨rfl,rfl⟩
     exact .inl ⟨rfl,y,_,hnx,.inr ⟨_,rfl⟩,by omega,by rw[hr,show n-(i+1)=j by omega,qaP,Nat.add_comm 1 i],rfl⟩
 .rintro s ⟨cur,t,hok,ht,hin,hr,rfl⟩
  have h2:=congrArg Prod.snd hr;simp only at h2;have hz:=Rl (k:=n-(runP n e).2) (e:=cur) (by omega);have h1:(runP n e).1=cur:=by rw[hr,hz]
  rw[h1];generalize (runP n e).2=m at *
  obtain⟨hst,B,hB⟩:=hok;have hsm:=hB.sm;have h16:=Q1 (A:=A) u cur hst hB;have h71:=OI (A:=A) cur hst.ok.1.wf (by omega);have h49:=Oj (A:=A) cur hst.ok.1.wf (by omega);have h19:=Zck (A:=A) cur hst.ok.1 (by omega);by_cases hm:m=n
  .have hmI:¬(m:Int)<n:=by omega
   unfold Iq RunS;rcases ht with rfl|⟨c,rfl⟩ <;>
   simp(disch:=try exact zd) [hmI,h49,h19]
  .have hmI:(m:Int)<n:=by omega
   obtain⟨j,hj⟩:∃j,n-m=j+1:=⟨n-m-1,by omega⟩;rw[hj]at h2 hz;cases hp:AI subP Ah AA cur.weight cur with
   |none=>
    rw[hp]at h16;unfold Hx at h16;unfold Iq RunS;rcases ht with rfl|⟨c,rfl⟩ <;>
    simp(disch:=try exact zd) [hmI,h16,h49,h19]
   |some p=>
    by_cases hn:2000<Aj cur
    .rw [hp] at h16
     unfold Hx at h16;have h0:=NZ _ _ _ hp;have hnI:(2000:Int)<Aj cur:=(by omega);obtain⟨x,r⟩:=p;simp only at *
     generalize Ai x=y at *
     unfold Iq RunS;rcases ht with rfl|⟨c,rfl⟩ <;>
     simp(disch:=try exact zd) [hmI,hnI,h16,h71,h0,h49,h19]
    .rw [Gk hp hn] at h2
     simp only at h2;omega
end Go.Vs.Tryz
namespace Go.Vs
open Go
structure SlotD where
 bound:Bool
 ty:Ty
 home:Int
 base:Bool
structure ChgD where
 id:Int
 old:SlotD
 isNew:Bool
def Cy (s:SlotD):List Cell:=[.bool s.bound,.int .i64 s.ty.kind,.str s.ty.name,.int .i64 s.ty.id,.int .i64 s.ty.home,.sl (Ty.rows s.ty.args),.int .i64 s.home,.bool s.base]
def QC (c:ChgD):List Cell:=[.int .i64 c.id,.bool c.old.bound,.int .i64 c.old.ty.kind,.str c.old.ty.name,.int .i64 c.old.ty.id,.int .i64 c.old.ty.home,.sl (Ty.rows c.old.ty.args),.int .i64 c.old.home,.bool c.old.base,.bool c.isNew]
def EL (l:List SlotD):List (List Cell):=l.map Cy
def Gf (l:List ChgD):List (List Cell):=l.map QC
@[simp] theorem slRow_len (s:SlotD):(Cy s).length=8:=rfl
@[simp] theorem chRow_len (s:ChgD):(QC s).length=10:=rfl
@[simp] theorem slRows_len (l:List SlotD):(EL l).length=l.length:=by simp[EL]
@[simp] theorem chRows_len (l:List ChgD):(Gf l).length=l.length:=by simp[Gf]
@[simp] theorem slRows_get (l:List SlotD) (i:Nat):(EL l)[i]?=(l[i]?).map Cy:=by simp[EL]
@[simp] theorem okRows_sl (l:List SlotD):AP 8 (wr (EL l))=true:=Cu l slRow_len
@[simp] theorem okRows_ch (l:List ChgD):AP 10 (wr (Gf l))=true:=Cu l chRow_len
@[simp] theorem slRows0:EL []=[]:=rfl
@[simp] theorem chRows0:Gf []=[]:=rfl
section
variable (s:SlotD)
@[simp] theorem cut_sl0:cut (Cy s) 0 1=some [.bool s.bound]:=rfl
@[simp] theorem cut_sl1:cut (Cy s) 1 5=some s.ty.row:=by rw[Ty.row_eq];rfl
@[simp] theorem cut_sl6:cut (Cy s) 6 1=some [.int .i64 s.home]:=rfl
@[simp] theorem cut_sl7:cut (Cy s) 7 1=some [.bool s.base]:=rfl
@[simp] theorem cut_sl:cut (Cy s) 0 8=some (Cy s):=rfl
@[simp] theorem cutw_sl0:cut (wc (Cy s)) 0 1=some [.c (.bool s.bound)]:=rfl
@[simp] theorem cutw_sl1:cut (wc (Cy s)) 1 5=some (wc s.ty.row):=by rw[Ty.row_eq];rfl
@[simp] theorem cutw_sl6:cut (wc (Cy s)) 6 1=some [.c (.int .i64 s.home)]:=rfl
@[simp] theorem cutw_sl7:cut (wc (Cy s)) 7 1=some [.c (.bool s.base)]:=rfl
@[simp] theorem cutw_sl:cut (wc (Cy s)) 0 8=some (wc (Cy s)):=rfl
end
structure StoD where
 slots:List SlotD
 trail:List ChgD
end Go.Vs
namespace Go.Vs.Tryz
open Go Go.Vs
variable {A:Ab}
abbrev stoV (s:StoD):V:=.ag [.c (.sl (EL s.slots)),.c (.sl (Gf s.trail))]
def stoOk (n:Nat)(s:StoD):Prop:=s.slots.length=n/\n<=1000/\s.trail.length<=1000000/\∀x∈s.slots,x.bound=true->tyS n x.ty/\x.ty.size<=687194767360/\x.ty.kind≠1
def Hi (s:StoD)(t:Ty):Ty:=if t.kind=1 then (match s.slots[t.id.toNat]? with
 |some x=>if x.bound then x.ty else t
 |none=>t) else t
def ext (s s':StoD):Prop:=∀(i:Nat) x,s.slots[i]?=some x->x.bound=true->∃y,s'.slots[i]?=some y/\y.bound=true/\y.ty=x.ty
theorem ext.refl (s:StoD):ext s s:=fun _ x h hb=>⟨x,h,hb,rfl⟩
theorem ext.trans {a b c:StoD}(h1:ext a b)(h2:ext b c):ext a c:=fun i x hx hb=>by
 obtain⟨y,hy,hyb,hyt⟩:=h1 i x hx hb;obtain⟨z,hz,hzb,hzt⟩:=h2 i y hy hyb;exact⟨z,hz,hzb,hzt.trans hyt⟩
theorem ext.set {s:StoD}{i:Nat}{x:SlotD}{T:List ChgD}(h:∀y,s.slots[i]?=some y->y.bound=true->x.bound=true/\x.ty=y.ty):ext s ⟨s.slots.set i x,T⟩:=fun j y hy hb=>by
 have hj:=(qf.1 hy).1;by_cases hji:i=j
 .subst hji
  obtain⟨h1,h2⟩:=h y hy hb;exact⟨x,by rw[List.getElem?_set_self hj],h1,h2⟩
 .exact⟨y,by rw[qaX hji];exact hy,hb,rfl⟩
theorem ext.app {s:StoD}{l:List SlotD}{T:List ChgD}:ext s ⟨s.slots++l,T⟩:=fun j y hy hb=>
 ⟨y,by rw[qK (qf.1 hy).1];exact hy,hb,rfl⟩
inductive Res (s:StoD):Ty->Ty->Prop
 |mk (t:Ty) (us:List Ty) (hl:us.length=(Hi s t).args.length) (h:∀(j:Nat) x y,(Hi s t).args[j]?=some x->us[j]?=some y->Res s x y):Res s t (.mk (Hi s t).kind (Hi s t).name (Hi s t).id (Hi s t).home us)
def bndB (s:StoD)(t:Ty):Prop:=t.kind=1/\∃(i:Nat)(x:SlotD),t.id=i/\s.slots[i]?=some x/\x.bound=true
end Go.Vs.Tryz
namespace Go.Vs
open Go
theorem OM {α β:Type}{f:α->Option β}:∀{a b:List α}{x:List β},Ad f a=some x->Ad f (a++b)=(Ad f b).map (x++·)
 |[],b,x,h=>by
  cases h;cases hb:Ad f b<;>simp[hb]
 |y::a,b,x,h=>by
  simp only[Ad]at h;cases hy:f y with
  |none=>rw[hy]at h;cases h
  |some z=>
   rw[hy]at h;cases ha:Ad f a with
   |none=>rw[ha]at h;cases h
   |some w=>
    rw[ha]at h;cases h;have ih:=OM (b:=b) ha;simp only[q9,Ad,hy,ih];cases Ad f b<;>rfl
@[simp] theorem listM_wr_app (L:Nat->Option Obj) (d:Nat) (r:List (List Cell)) (m:List (List W)):Ad (Ad (W.toC L d)) (wr r++m)=(Ad (Ad (W.toC L d)) m).map (r++·):=OM (wr_toC L d r)
end Go.Vs
namespace Go.Vs.Tryz
open Go Go.Vs
variable {A:Ab}
def ZbA (h:Int)(b:Bool):SlotD:=⟨false,.mk 0 [] 0 0 [],h,b⟩
variable {A:Ab}
def ZdN (n:Nat)(t:Ty)(r:V×List Obj):Prop:=∃u:Ty,tyS n u/\u.size<=687194767360/\(t.kind≠1->u=t)/\r=(tyV u,[])
def SzOk (A:Ab)(n:Nat)(s:StoD)(t:Ty)(k:Nat):Prop:=∃u:Ty,tyS n u/\Res s t u/\u.size<=k/\(K A).call 254 [stoV s,tyV t] []=some (tyV u,[])
def Zeh (A:Ab)(n:Nat)(s:StoD)(most:Nat)(t:Ty):Prop:=∃k:Nat,1<=k/\k<=most+1/\(K A).call 253 [stoV s,tyV t,intV most] []=some (intV k,[])/\(k<=most->SzOk A n s t k)/\∀u,Res s t u->u.size<=most->k=u.size
variable {A:Ab}
def ResR (r:V×List Obj):Prop:=∃(u:Ty)(b:Bool),u.size<=4000/\r=(.tu [tyV u,Aa b],[])
def ResS (n:Nat)(r:V×List Obj):Prop:=∃(u:Ty),tyS n u/\u.size<=4000/\r=(.tu [tyV u,Aa true],[])
abbrev ZdD (s:StoD)(ks:List Bool):List Obj:=[.box [.c (.sl (EL s.slots)),.c (.sl (Gf s.trail)),.nil,.arr 1 ks.length],.arr 1 (boOs ks) 0]
def StoR (n T:Nat)(s0:StoD)(r:V×List Obj):Prop:=∃(s:StoD)(e:Int),stoOk n s/\s.trail.length<=T/\ext s0 s/\r=(.tu [stoV s,intV e],[])
theorem stoOk.set {n:Nat}{s:StoD}(hs:stoOk n s){i:Nat}{x:SlotD}(hx:x.bound=true->tyS n x.ty/\x.ty.size<=687194767360/\x.ty.kind≠1){c:ChgD}(ht:s.trail.length<1000000):stoOk n ⟨s.slots.set i x,s.trail++[c]⟩:=by
 obtain⟨h1,h2,h3,h4⟩:=hs;refine⟨by simp[h1],h2,by simp;omega,?_⟩;intro y hy;rcases List.mem_or_eq_of_mem_set hy with hy|hy
 .exact h4 y hy
 .exact hy▸hx
variable {A:Ab}
variable {A:Ab}
def Zd6 (n T:Nat)(s0:StoD)(r:V×List Obj):Prop:=∃s:StoD,stoOk n s/\s.trail.length<=T/\ext s0 s/\r=(stoV s,[])
def ZdR (l:List Ty)(r:V×List Obj):Prop:=∃(M:Nat)(l2:List Ty),l2.length=l.length/\(∀(i:Nat) x y,l[i]?=some x->l2[i]?=some y->tyS M y/\y.size<=x.size)/\r=(tysV l2,[])
variable {A:Ab}
@[simp] theorem cut_n2 (e:EntD):cut (Br e) 2 5=some e.ty.row:=by rw[Br,Ty.row_eq];rfl
variable {A:Ab}
@[simp] theorem cutw_sc0 (c:Int) (t:Ty):cut (wc (BG c t)) 0 1=some [.c (.int .i64 c)]:=by rw[BG,Ty.row_eq];rfl
@[simp] theorem cutw_sc1 (c:Int) (t:Ty):cut (wc (BG c t)) 1 5=some (wc t.row):=by rw[BG,Ty.row_eq];rfl
def SpineOk (s:StoD)(w:Ty)(ar:List Ty)(u:Ty):Prop:=∀s',ext s s'->∀U,Res s' w U->U.size<=200->(∀x∈ar,∃v,Res s' x v/\v.size<=200)/\∃v,Res s' u v/\v.size<=200
theorem SpineOk.nil (s:StoD)(w:Ty):SpineOk s w [] w:=fun s' _ U hU hl=>⟨by simp,U,hU,hl⟩
def Zdw (r:V×List Obj):Prop:=∃(b:Bool)(l2:List Ty),l2.length<=3/\(∀x∈l2,∃M,tyS M x/\x.size<=4000)/\r=(.tu [.sc (.c (.sl [])),tysV l2,Aa b],[])
theorem stoOk.fresh {n:Nat}{s:StoD}(hs:stoOk n s)(hn:n<1000)(ht:s.trail.length<1000000){h:Int}{b:Bool}{c:ChgD}:stoOk (n+1) ⟨s.slots++[ZbA h b],s.trail++[c]⟩:=by
 obtain⟨h1,h2,h3,h4⟩:=hs;refine⟨by simp[h1],by omega,by simp;omega,?_⟩;intro x hx;rcases qz.1 hx with hx|hx
 .exact fun hb=>⟨(h4 x hx hb).1.mono (by omega),(h4 x hx hb).2⟩
 .simp only [qy] at hx
  subst hx;intro hb;cases hb
def Zdf (c n:Nat)(goal w:Ty)(is:List Ty)(j:Nat)(st:St):Prop:=∃(m:Nat)(s:StoD)(u:Ty)(ar:List Ty)(tail:List (Nat×Option Obj)),stoOk m s/\c<=m/\m<=c+2*j/\s.trail.length<=c+3*j/\tyS m u/\u.size<=687194767360/\ar.length=j/\(∀x∈ar,tyS m x/\x.size<=687194767360)/\SpineOk s w ar u/\
 (tail=[]\/∃a b rows q,tail=[(6976,some (.box a)),(7040,some (.box b)),(7744,some (.arr 5 rows q))])/\
 st=⟨[(3,WV []),(4,intV n),(5,.sc (.ptr 64 0)),(7,.sc (.ptr 192 0)),(16,.sc (.ptr 2112 0)),(17,.sc (.ptr 2304 0)),(18,.sc (.arr 2433 j))],
  [(64,some (.box [.c (.sl (EL s.slots)),.c (.sl (Gf s.trail))])),(192,some (.box (wc goal.row))),(449,some (.arr 5 (wr (Ty.rows is)) c)),(2112,some (.box (wc w.row))),(2304,some (.box (wc u.row))),(2433,some (.arr 5 (wr (Ty.rows ar)) 0))]++tail⟩
variable {A:Ab}
def Zei (mid:List (Nat×Option Obj)):Prop:=mid=[]\/∃a b rows q,mid=[(6976,some (.box a)),(7040,some (.box b)),(7744,some (.arr 5 rows q))]
variable {A:Ab}
end Go.Vs.Tryz
namespace Go.Vs
open Go
structure HeadD where
 name:Str
 con:Bool
 args:List Ty
 types:List Ty
def CR (h:HeadD):List Cell:=[.str h.name,.bool h.con,.sl (Ty.rows h.args),.sl (Ty.rows h.types)]
def Cw (l:List HeadD):List (List Cell):=l.map CR
@[simp] theorem hdRow_len (h:HeadD):(CR h).length=4:=rfl
@[simp] theorem hdRows_len (l:List HeadD):(Cw l).length=l.length:=by simp[Cw]
@[simp] theorem hdRows_get (l:List HeadD) (i:Nat):(Cw l)[i]?=(l[i]?).map CR:=by simp[Cw]
@[simp] theorem okRows_hd (l:List HeadD):AP 4 (wr (Cw l))=true:=Cu l hdRow_len
@[simp] theorem hdRows0:Cw []=[]:=rfl
@[simp] theorem hdRows_app (l m:List HeadD):wr (Cw l)++wr (Cw m)=wr (Cw (l++m)):=by simp[Cw,wr]
@[simp] theorem hdRows_snoc (l:List HeadD) (h:HeadD):wr (Cw l)++[wc (CR h)]=wr (Cw (l++[h])):=by simp[Cw,wr]
section
variable (h:HeadD)
@[simp] theorem cut_hd0:cut (CR h) 0 1=some [.str h.name]:=rfl
@[simp] theorem cut_hd1:cut (CR h) 1 1=some [.bool h.con]:=rfl
@[simp] theorem cut_hd2:cut (CR h) 2 1=some [.sl (Ty.rows h.args)]:=rfl
@[simp] theorem cut_hd3:cut (CR h) 3 1=some [.sl (Ty.rows h.types)]:=rfl
@[simp] theorem cut_hd:cut (CR h) 0 4=some (CR h):=rfl
@[simp] theorem cutw_hd0:cut (wc (CR h)) 0 1=some [.c (.str h.name)]:=rfl
@[simp] theorem cutw_hd1:cut (wc (CR h)) 1 1=some [.c (.bool h.con)]:=rfl
@[simp] theorem cutw_hd2:cut (wc (CR h)) 2 1=some [.c (.sl (Ty.rows h.args))]:=rfl
@[simp] theorem cutw_hd:cut (wc (CR h)) 0 4=some (wc (CR h)):=rfl
end
end Go.Vs
namespace Go.Vs.Tryz
open Go Go.Vs
variable {A:Ab}
def XO (nm:Str)(con:Bool)(h:HeadD):Prop:=h.name=nm/\h.con=con/\h.args.length<=3/\∀x∈h.args,∃M,tyS M x/\x.size<=4000
def Zc6 (nm:Str)(con:Bool)(r:V×List Obj):Prop:=∃hs:List HeadD,hs.length<=4/\(∀h∈hs,XO nm con h)/\r=(.sc (.c (.sl (Cw hs))),[])
variable {A:Ab}
def elOk (ds:List DataD)(h:HeadD):Prop:=(h.con=false->h.name∈Ek)/\(h.con=true->cOk ds h.name)/\h.args.length<=3/\∀x∈h.args,∃M,tyS M x/\x.size<=4000
def Zd9 (ds:List DataD)(r:V×List Obj):Prop:=∃hs:List HeadD,hs.length<=1000000/\(∀h∈hs,elOk ds h)/\r=(.sc (.c (.sl (Cw hs))),[])
variable {A:Ab}
def tyG (t:Ty):Prop:=tyS 0 t/\rigB t
def ZdM (L:List Int)(m:Nat)(r:V×List Obj):Prop:=∃t J,tyG t/\t.size<=m/\J<=L.length/\r=(tyV t,[AC L J])
def Zdo (L:List Int)(ds:List DataD)(ls:List Ty)(dd:DataD)(d i:Nat)(s:St):Prop:=∃tys J,tys.length=i/\(∀x∈tys,tyG x/\x.size<=5 ^ d)/\J<=L.length/\
 s=⟨[(0,.sc (.ptr 0 0)),(1,Bt ds),(2,tysV ls),(3,intV (d+1)),(8,.sc (.ptr 64 0)),(10,.sc (.ptr 3392 0)),(11,.sc (.arr 3521 i)),(12,intV i)],
  [(0,some (AC L J)),(64,some (.box [zi,zs,zi,zi,.nil])),(3392,some (.box (wc (Ba dd)))),(3521,some (.arr 5 (wr (Ty.rows tys)) 0))]⟩
def tyW (t:Ty):Prop:=tyG t/\Ty.all (fun u=>u.kind≠3) t
def Zdl (L:List Int)(m:Nat)(r:V×List Obj):Prop:=∃t J,tyW t/\t.size<=m/\J<=L.length/\r=(tyV t,[AC L J])
def ZdS (L:List Int)(ds:List DataD)(dd:DataD)(d i:Nat)(s:St):Prop:=∃tys J,tys.length=i/\(∀x∈tys,tyW x/\x.size<=5 ^ d)/\J<=L.length/\
 s=⟨[(0,.sc (.ptr 0 0)),(1,Bt ds),(2,.sc (.c (.sl []))),(3,intV (d+1)),(8,.sc (.ptr 64 0)),(10,.sc (.ptr 3392 0)),(11,.sc (.arr 3521 i)),(12,intV i)],
  [(0,some (AC L J)),(64,some (.box [zi,zs,zi,zi,.nil])),(3392,some (.box (wc (Ba dd)))),(3521,some (.arr 5 (wr (Ty.rows tys)) 0))]⟩
theorem tyW.wr {t:Ty}(h:tyW t):wrT t:=⟨h.1.1,h.2⟩
variable {A:Ab}
def wD:Nat->Nat
 |0=>1
 |d+1=>7*wD d+25
def Zef (A:Ab)(L:List Int)(ds:List DataD)(d:Nat):Prop:=∀(ctx:List EntD)(goal:Ty)(I:Nat),ctxOk (1000-4*d) 50000 ctx->tyS 0 goal->goal.size+10*d<=50000->I<=L.length->
 ∃r,MkR L ds (wD d) r/\(K A).call 44 [.sc (.ptr 0 0),Bt ds,Fd ctx,tyV goal,intV d] [AC L I]=some r
theorem ctxOk.up {n n2 m:Nat}{l:List EntD}(h:ctxOk n m l)(hn:n<=n2):ctxOk n2 m l:=⟨qr h.1 hn,h.2⟩
variable {A:Ab}
theorem Xw (e x:Exp):(Exp.mk 5 0 [] 0 [e,x] [] tz).row=[.int .i64 5,.int .i64 0,.str [],.int .i64 0,.sl [e.row,x.row],.sl [],.int .i64 0,.str [],.int .i64 0,.int .i64 0,.sl []]:=by
 simp[Exp.row,tz,Ty.kind,Ty.name,Ty.id,Ty.home,Ty.args]
theorem Jl (e x:Exp):(Exp.mk 5 0 [] 0 [e,x] [] tz).weight=1+(e.weight+x.weight):=by
 rw[Dr];simp
abbrev QN (k:Int)(s:Str):List W:=[.c (.int .i64 k),zi,.c (.str s),zi,.nil,.nil,zi,zs,zi,zi,.nil]
variable {A:Ab}
def Zdv:List Ty:=[.mk 3 [] 0 99 [],.mk 3 [] 1 99 []]
variable {A:Ab}
abbrev zE:List W:=[zi,zi,zs,zi,.nil,.nil,zi,zs,zi,zi,.nil]
def ArgA (L:List Int)(ds:List DataD)(ctx:List EntD)(goal:Ty)(dd:DataD)(d i:Nat)(s:St):Prop:=∃tys J,tys.length=i/\(∀x∈tys,tyG x/\x.size<=5)/\J<=L.length/\
 s=⟨[(0,.sc (.ptr 0 0)),(1,Bt ds),(2,Fd ctx),(4,intV (d+1)),(8,.sc (.ptr 64 0)),(10,.sc (.ptr 128 0)),(11,.sc (.ptr 1216 0)),(12,.sc (.arr 1345 i)),(13,intV i)],
  [(0,some (AC L J)),(64,some (.box (wc goal.row))),(128,some (.box zE)),(1216,some (.box (wc (Ba dd)))),(1345,some (.arr 5 (wr (Ty.rows tys)) 0))]⟩
def ArmA (L:List Int)(ds:List DataD)(ctx:List EntD)(goal:Ty)(dd:DataD)(tys:List Ty)(x:Exp)(B d i:Nat)(s:St):Prop:=∃arms J,arms.length=i/\J<=L.length/\(∀a∈arms,armM ds a/\mkE ds a.2/\a.2.weight<=B)/\
 s=⟨[(0,.sc (.ptr 0 0)),(1,Bt ds),(2,Fd ctx),(4,intV (d+1)),(8,.sc (.ptr 64 0)),(10,.sc (.ptr 128 0)),(11,.sc (.ptr 1216 0)),(12,.sc (.arr 1345 tys.length)),(14,.sc (.ptr 3200 0)),(15,intV i)],
  [(0,some (AC L J)),(64,some (.box (wc goal.row))),(128,some (.box zE)),(1216,some (.box (wc (Ba dd)))),(1345,some (.arr 5 (wr (Ty.rows tys)) tys.length)),(3072,some (.arr 11 [wc x.row] 0)),
    (3200,some (.box [.c (.int .i64 8),zi,zs,zi,.arr 3072 1,.arr 3270 i,zi,zs,zi,zi,.nil])),(3270,some (.arr 14 (wr (Exp.armRows arms)) 0))]⟩
def xyzw:List Str:=[[120],[121],[122],[119]]
def VarA (L:List Int)(ds:List DataD)(ctx:List EntD)(goal:Ty)(dd:DataD)(tys:List Ty)(x:Exp)(arms:List (ArmH×Exp))(con:Str)(f:List Ty)(J d n i j:Nat)(s:St):Prop:=∃vars inner,vars.length=j/\vars=xyzw.take j/\ctxOk (n+j) 50000 inner/\
 s=⟨[(0,.sc (.ptr 0 0)),(1,Bt ds),(2,Fd ctx),(4,intV (d+1)),(8,.sc (.ptr 64 0)),(10,.sc (.ptr 128 0)),(11,.sc (.ptr 1216 0)),(12,.sc (.arr 1345 tys.length)),(14,.sc (.ptr 3200 0)),(15,intV i),
  (16,tysV f),(18,.sc (.ptr 5056 0)),(19,Fd inner),(20,intV j)],
  [(0,some (AC L J)),(64,some (.box (wc goal.row))),(128,some (.box zE)),(1216,some (.box (wc (Ba dd)))),(1345,some (.arr 5 (wr (Ty.rows tys)) tys.length)),(3072,some (.arr 11 [wc x.row] 0)),
    (3200,some (.box [.c (.int .i64 8),zi,zs,zi,.arr 3072 1,.arr 3270 i,zi,zs,zi,zi,.nil])),(3270,some (.arr 14 (wr (Exp.armRows arms)) 0)),
    (5056,some (.box [zi,.c (.str con),.arr 5123 j,zi,zi,zs,zi,.nil,.nil,zi,zs,zi,zi,.nil])),(5123,some (.arr 1 (wr (Ao vars)) 0))]⟩
variable {A:Ab}
variable {A:Ab}
def Zc9 (t:Ty)(out:List Str)(r:V×List Obj):Prop:=∃o2:List Str,out.length<=o2.length/\o2.length<=out.length+t.size/\r=(.sc (.arr 0 o2.length),[.arr 1 (wr (Ao o2)) 0])
def ZdU (n:Nat)(r:V×List Obj):Prop:=∃l:List Str,l.length<=n/\r=(A1 l,[])
def SigR (x:Ty)(r:V×List Obj):Prop:=∃(a b:Ty)(c:Nat),tyS 0 a/\a.size<=x.size/\c<=x.size/\tyB 0 c b/\b.size<=x.size/\r=(.tu [tyV a,schV c b],[])
def nam3:List Ty:=[.mk 5 [97] 0 0 [],.mk 5 [98] 0 0 [],.mk 5 [99] 0 0 []]
end Go.Vs.Tryz
namespace Go.Vs
open Go
structure BindD where
 isRec:Bool
 name:Str
 sig:Bool
 ty:Ty
 body:Exp
def B3 (b:BindD):List Cell:=[.int .i64 0,.bool b.isRec,.str b.name,.bool b.sig,.int .i64 b.ty.kind,.str b.ty.name,.int .i64 b.ty.id,.int .i64 b.ty.home,.sl (Ty.rows b.ty.args),.int .i64 b.body.kind,.int .i64 b.body.pos,.str b.body.name,.int .i64 b.body.num,.sl (Exp.rows b.body.kids),.sl (Exp.armRows b.body.arms),.int .i64 b.body.ty.kind,.str b.body.ty.name,.int .i64 b.body.ty.id,.int .i64 b.body.ty.home,.sl (Ty.rows b.body.ty.args)]
def Dy (l:List BindD):List (List Cell):=l.map B3
@[simp] theorem bindRow_len (b:BindD):(B3 b).length=20:=rfl
@[simp] theorem bindRows_len (l:List BindD):(Dy l).length=l.length:=by simp[Dy]
@[simp] theorem bindRows_get (l:List BindD) (i:Nat):(Dy l)[i]?=(l[i]?).map B3:=by simp[Dy]
@[simp] theorem okRows_bind (l:List BindD):AP 20 (wr (Dy l))=true:=Cu l bindRow_len
@[simp] theorem bindRows_snoc (l:List BindD) (x:BindD):wr (Dy l)++[wc (B3 x)]=wr (Dy (l++[x])):=by simp[Dy,wr]
@[simp] theorem bindRows0:Dy []=[]:=rfl
section
variable (b:BindD)
@[simp] theorem cut_bd1:cut (B3 b) 1 1=some [.bool b.isRec]:=rfl
@[simp] theorem cut_bd2:cut (B3 b) 2 1=some [.str b.name]:=rfl
@[simp] theorem cut_bd3:cut (B3 b) 3 1=some [.bool b.sig]:=rfl
@[simp] theorem cut_bd4:cut (B3 b) 4 5=some b.ty.row:=by rw[Ty.row_eq];rfl
@[simp] theorem cut_bd9:cut (B3 b) 9 11=some b.body.row:=by rw[Exp.row_eq];rfl
@[simp] theorem cut_bd:cut (B3 b) 0 20=some (B3 b):=rfl
@[simp] theorem cutw_bd1:cut (wc (B3 b)) 1 1=some [.c (.bool b.isRec)]:=rfl
@[simp] theorem cutw_bd2:cut (wc (B3 b)) 2 1=some [.c (.str b.name)]:=rfl
@[simp] theorem cutw_bd3:cut (wc (B3 b)) 3 1=some [.c (.bool b.sig)]:=rfl
@[simp] theorem cutw_bd4:cut (wc (B3 b)) 4 5=some (wc b.ty.row):=by rw[Ty.row_eq];rfl
@[simp] theorem cutw_bd9:cut (wc (B3 b)) 9 11=some (wc b.body.row):=by rw[Exp.row_eq];rfl
@[simp] theorem cutw_bd:cut (wc (B3 b)) 0 20=some (wc (B3 b)):=rfl
end
def bW (b:BindD):List W:=[.c (.int .i64 0),.c (.bool b.isRec),.c (.str b.name),.c (.bool b.sig),.c (.int .i64 b.ty.kind),.c (.str b.ty.name),.c (.int .i64 b.ty.id),.c (.int .i64 b.ty.home),if b.sig=true then .c (.sl (Ty.rows b.ty.args)) else .nil,
 .c (.int .i64 b.body.kind),.c (.int .i64 b.body.pos),.c (.str b.body.name),.c (.int .i64 b.body.num),.c (.sl (Exp.rows b.body.kids)),.c (.sl (Exp.armRows b.body.arms)),.c (.int .i64 b.body.ty.kind),.c (.str b.body.ty.name),.c (.int .i64 b.body.ty.id),.c (.int .i64 b.body.ty.home),.c (.sl (Ty.rows b.body.ty.args))]
def bWs (l:List BindD):List (List W):=l.map bW
@[simp] theorem bW_len (b:BindD):(bW b).length=20:=rfl
@[simp] theorem bWs_len (l:List BindD):(bWs l).length=l.length:=by simp[bWs]
@[simp] theorem bWs_snoc (l:List BindD) (b:BindD):bWs l++[bW b]=bWs (l++[b]):=by simp[bWs]
@[simp] theorem bWs0:bWs []=[]:=rfl
theorem JQ (b:BindD){P:W->Prop}(hc:∀c,P (.c c))(hn:P .nil):∀w∈bW b,P w:=by
 intro w hw;unfold bW at hw;simp only[qD,qas,or_false]at hw;rcases hw with rfl|rfl|rfl|rfl|rfl|rfl|rfl|rfl|rfl|rfl|rfl|rfl|rfl|rfl|rfl|rfl|rfl|rfl|rfl|rfl<;>grind
@[simp] theorem okRows_bW (l:List BindD):AP 20 (bWs l)=true:=by
 unfold AP bWs;simp;exact fun b _ y hy=>JQ b (P:=fun y=>Am y=true) (fun _=>rfl) rfl y hy
theorem SQ (L:Nat->Option Obj)(d:Nat)(b:BindD){y:W}(hy:y∈bW b):W.ids L d y=[]:=
 JQ b (P:=fun y=>W.ids L d y=[]) (fun c=>by cases d<;>rfl) (by cases d<;>rfl) y hy
@[simp] theorem bWs_allIds (L:Nat->Option Obj) (d:Nat) (l:List BindD) (p:Nat->Bool):((bWs l).all fun a=>a.all fun b=>(W.ids L d b).all p)=true:=by
 simp only[qx,bWs,qL];rintro _ ⟨b,_,rfl⟩ y hy;rw[SQ L d b hy];simp
@[simp] theorem bWs_ids (L:Nat->Option Obj) (d:Nat) (l:List BindD):(bWs l).flatMap (fun x=>x.flatMap (W.ids L d))=[]:=by
 simp only[qZ,bWs,qL];rintro _ ⟨b,_,rfl⟩ y hy;exact SQ L d b hy
@[simp] theorem bWs_refs (d:Nat) (l:List BindD):(bWs l).flatMap (fun x=>x.flatMap (W.refs d))=[]:=by
 simp only[qZ,bWs,qL];rintro _ ⟨b,_,rfl⟩ y hy;exact JQ b (P:=fun y=>W.refs d y=[]) (fun c=>by cases d<;>rfl) (by cases d<;>rfl) y hy
@[simp] theorem bWs_ren (ρ:Nat->Option Nat) (d:Nat) (l:List BindD):(bWs l).map (fun x=>x.map (W.ren ρ d))=bWs l:=by
 unfold bWs;rw[qan];refine qM fun b _=>?_;show(bW b).map (W.ren ρ d)=bW b;refine(qM (g:=id) fun y hy=>?_).trans (List.map_id _);exact JQ b (P:=fun y=>W.ren ρ d y=id y) (fun c=>by cases d<;>rfl) (by cases d<;>rfl) y hy
end Go.Vs
namespace Go.Vs.Tryz
open Go Go.Vs
variable {A:Ab}
abbrev QT (ds:List DataD)(bs:List BindD):V:=.ag [.c (.sl (A7 ds)),.c (.sl (Dy bs))]
def RF (ds:List DataD)(b:BindD):Prop:=b.name∈Ek/\mkE ds b.body/\b.body.weight<=1768/\b.ty.size<=687194767360/\(b.sig=false->b.ty=tz)
def pre4:List Str:=[[112],[113],[114],[115]]
def pS0 (L:List Int)(ds:List DataD)(bs:List BindD)(cv:V)(n i J:Nat):St:=⟨[(4,.sc (.ptr 64 0)),(5,.sc (.ptr 256 0)),(6,.sc (.ptr 576 0)),(7,cv),(8,intV n),(9,intV i)],[(64,some (.box [.nil,.nil])),(256,some (AC L J)),(576,some (.box [.c (.sl (A7 ds)),.arr 642 i])),(642,some (.arr 20 (bWs bs) 0))]⟩
def pS0t (L:List Int)(ds:List DataD)(bs:List BindD)(cv:V)(n i J:Nat):St:=⟨[(4,.sc (.ptr 64 0)),(5,.sc (.ptr 256 0)),(6,.sc (.ptr 576 0)),(7,cv),(8,intV n),(9,intV i),(26,Aa true)],[(64,some (.box [.nil,.nil])),(256,some (AC L J)),(576,some (.box [.c (.sl (A7 ds)),.arr 642 i])),(642,some (.arr 20 (bWs bs) 0))]⟩
def pS1 (L:List Int)(ds:List DataD)(bs:List BindD)(cv:V)(n i J:Nat)(r:Bool)(nm:Str):St:=⟨[(4,.sc (.ptr 64 0)),(5,.sc (.ptr 256 0)),(6,.sc (.ptr 576 0)),(7,cv),(8,intV n),(9,intV i),(10,.sc (.ptr 1792 0))],[(64,some (.box [.nil,.nil])),(256,some (AC L J)),(576,some (.box [.c (.sl (A7 ds)),.arr 642 i])),(642,some (.arr 20 (bWs bs) 0)),(1280,some (.arr 1 [[.c (.str [112])],[.c (.str [113])],[.c (.str [114])],[.c (.str [115])]] 0)),(1792,some (.box [zi,.c (.bool r),.c (.str nm),.c (.bool false),zi,zs,zi,zi,.nil,zi,zi,zs,zi,.nil,.nil,zi,zs,zi,zi,.nil]))]⟩
def pS2 (L:List Int)(ds:List DataD)(bs:List BindD)(cv:V)(n i J:Nat)(r:Bool)(nm:Str)(x:Ty):St:=⟨[(4,.sc (.ptr 64 0)),(5,.sc (.ptr 256 0)),(6,.sc (.ptr 576 0)),(7,cv),(8,intV n),(9,intV i),(10,.sc (.ptr 1792 0)),(11,.sc (.ptr 2240 0))],[(64,some (.box [.nil,.nil])),(256,some (AC L J)),(576,some (.box [.c (.sl (A7 ds)),.arr 642 i])),(642,some (.arr 20 (bWs bs) 0)),(1792,some (.box [zi,.c (.bool r),.c (.str nm),.c (.bool false),zi,zs,zi,zi,.nil,zi,zi,zs,zi,.nil,.nil,zi,zs,zi,zi,.nil])),(2240,some (.box (wc x.row)))]⟩
def pS3 (L:List Int)(ds:List DataD)(bs:List BindD)(cv:V)(n i J:Nat)(r:Bool)(nm:Str)(x:Ty):St:=⟨[(4,.sc (.ptr 64 0)),(5,.sc (.ptr 256 0)),(6,.sc (.ptr 576 0)),(7,cv),(8,intV n),(9,intV i),(10,.sc (.ptr 1792 0)),(11,.sc (.ptr 2240 0)),(44,Aa false)],[(64,some (.box [.nil,.nil])),(256,some (AC L J)),(576,some (.box [.c (.sl (A7 ds)),.arr 642 i])),(642,some (.arr 20 (bWs bs) 0)),(1792,some (.box [zi,.c (.bool r),.c (.str nm),.c (.bool false),zi,zs,zi,zi,.nil,zi,zi,zs,zi,.nil,.nil,zi,zs,zi,zi,.nil])),(2240,some (.box (wc x.row)))]⟩
def pS4 (L:List Int)(ds:List DataD)(bs:List BindD)(cv:V)(n i J:Nat)(r g:Bool)(nm:Str)(x:Ty):St:=⟨[(4,.sc (.ptr 64 0)),(5,.sc (.ptr 256 0)),(6,.sc (.ptr 576 0)),(7,cv),(8,intV n),(9,intV i),(10,.sc (.ptr 1792 0)),(11,.sc (.ptr 2240 0))],[(64,some (.box [.nil,.nil])),(256,some (AC L J)),(576,some (.box [.c (.sl (A7 ds)),.arr 642 i])),(642,some (.arr 20 (bWs bs) 0)),(1792,some (.box [zi,.c (.bool r),.c (.str nm),.c (.bool g),zi,zs,zi,zi,.nil,zi,zi,zs,zi,.nil,.nil,zi,zs,zi,zi,.nil])),(2240,some (.box (wc x.row)))]⟩
def pS5 (L:List Int)(ds:List DataD)(bs:List BindD)(cv:V)(n i J:Nat)(r g:Bool)(nm:Str)(x:Ty)(t0 t1 t2 t3 t4:W):St:=⟨[(4,.sc (.ptr 64 0)),(5,.sc (.ptr 256 0)),(6,.sc (.ptr 576 0)),(7,cv),(8,intV n),(9,intV i),(10,.sc (.ptr 1792 0)),(11,.sc (.ptr 2240 0))],[(64,some (.box [.nil,.nil])),(256,some (AC L J)),(576,some (.box [.c (.sl (A7 ds)),.arr 642 i])),(642,some (.arr 20 (bWs bs) 0)),(1792,some (.box [zi,.c (.bool r),.c (.str nm),.c (.bool g),t0,t1,t2,t3,t4,zi,zi,zs,zi,.nil,.nil,zi,zs,zi,zi,.nil])),(2240,some (.box (wc x.row)))]⟩
def pS5b (L:List Int)(ds:List DataD)(bs:List BindD)(cv:V)(n i J:Nat)(r g:Bool)(nm:Str)(x:Ty)(t0 t1 t2 t3 t4:W):St:=⟨[(4,.sc (.ptr 64 0)),(5,.sc (.ptr 256 0)),(6,.sc (.ptr 576 0)),(7,cv),(8,intV n),(9,intV i),(10,.sc (.ptr 1792 0)),(11,.sc (.ptr 2240 0)),(54,Aa false)],[(64,some (.box [.nil,.nil])),(256,some (AC L J)),(576,some (.box [.c (.sl (A7 ds)),.arr 642 i])),(642,some (.arr 20 (bWs bs) 0)),(1792,some (.box [zi,.c (.bool r),.c (.str nm),.c (.bool g),t0,t1,t2,t3,t4,zi,zi,zs,zi,.nil,.nil,zi,zs,zi,zi,.nil])),(2240,some (.box (wc x.row)))]⟩
def pS6 (L:List Int)(ds:List DataD)(bs:List BindD)(cv:V)(n i J:Nat)(r g:Bool)(nm:Str)(x:Ty)(t0 t1 t2 t3 t4:W)(iv:V):St:=⟨[(4,.sc (.ptr 64 0)),(5,.sc (.ptr 256 0)),(6,.sc (.ptr 576 0)),(7,cv),(8,intV n),(9,intV i),(10,.sc (.ptr 1792 0)),(11,.sc (.ptr 2240 0)),(12,iv)],[(64,some (.box [.nil,.nil])),(256,some (AC L J)),(576,some (.box [.c (.sl (A7 ds)),.arr 642 i])),(642,some (.arr 20 (bWs bs) 0)),(1792,some (.box [zi,.c (.bool r),.c (.str nm),.c (.bool g),t0,t1,t2,t3,t4,zi,zi,zs,zi,.nil,.nil,zi,zs,zi,zi,.nil])),(2240,some (.box (wc x.row)))]⟩
def pS7 (L:List Int)(ds:List DataD)(bs:List BindD)(cv:V)(n i J:Nat)(r g:Bool)(nm:Str)(x:Ty)(t0 t1 t2 t3 t4:W)(iv:V):St:=⟨[(4,.sc (.ptr 64 0)),(5,.sc (.ptr 256 0)),(6,.sc (.ptr 576 0)),(7,cv),(8,intV n),(9,intV i),(10,.sc (.ptr 1792 0)),(11,.sc (.ptr 2240 0)),(12,iv),(59,Aa false)],[(64,some (.box [.nil,.nil])),(256,some (AC L J)),(576,some (.box [.c (.sl (A7 ds)),.arr 642 i])),(642,some (.arr 20 (bWs bs) 0)),(1792,some (.box [zi,.c (.bool r),.c (.str nm),.c (.bool g),t0,t1,t2,t3,t4,zi,zi,zs,zi,.nil,.nil,zi,zs,zi,zi,.nil])),(2240,some (.box (wc x.row)))]⟩
def pS8 (L:List Int)(ds:List DataD)(bs:List BindD)(cv:V)(n i J:Nat)(r g:Bool)(nm:Str)(x:Ty)(t0 t1 t2 t3 t4:W)(e:Exp):St:=⟨[(4,.sc (.ptr 64 0)),(5,.sc (.ptr 256 0)),(6,.sc (.ptr 576 0)),(7,cv),(8,intV n),(9,intV i),(10,.sc (.ptr 1792 0)),(11,.sc (.ptr 2240 0))],[(64,some (.box [.nil,.nil])),(256,some (AC L J)),(576,some (.box [.c (.sl (A7 ds)),.arr 642 i])),(642,some (.arr 20 (bWs bs) 0)),(1792,some (.box [zi,.c (.bool r),.c (.str nm),.c (.bool g),t0,t1,t2,t3,t4,.c (.int .i64 e.kind),.c (.int .i64 e.pos),.c (.str e.name),.c (.int .i64 e.num),.c (.sl (Exp.rows e.kids)),.c (.sl (Exp.armRows e.arms)),.c (.int .i64 e.ty.kind),.c (.str e.ty.name),.c (.int .i64 e.ty.id),.c (.int .i64 e.ty.home),.c (.sl (Ty.rows e.ty.args))])),(2240,some (.box (wc x.row)))]⟩
def pS9 (L:List Int)(ds:List DataD)(bs:List BindD)(cv:V)(n i J:Nat)(r g:Bool)(nm:Str)(x:Ty)(t0 t1 t2 t3 t4:W)(e:Exp)(u v:Ty)(c:Int):St:=⟨[(4,.sc (.ptr 64 0)),(5,.sc (.ptr 256 0)),(6,.sc (.ptr 576 0)),(7,cv),(8,intV n),(9,intV i),(10,.sc (.ptr 1792 0)),(14,.sc (.ptr 5248 0))],[(64,some (.box [.nil,.nil])),(256,some (AC L J)),(576,some (.box [.c (.sl (A7 ds)),.arr 642 i])),(642,some (.arr 20 (bWs bs) 0)),(1792,some (.box [zi,.c (.bool r),.c (.str nm),.c (.bool g),t0,t1,t2,t3,t4,.c (.int .i64 e.kind),.c (.int .i64 e.pos),.c (.str e.name),.c (.int .i64 e.num),.c (.sl (Exp.rows e.kids)),.c (.sl (Exp.armRows e.arms)),.c (.int .i64 e.ty.kind),.c (.str e.ty.name),.c (.int .i64 e.ty.id),.c (.int .i64 e.ty.home),.c (.sl (Ty.rows e.ty.args))])),(2240,some (.box (wc x.row))),(5184,some (.box (wc u.row))),(5248,some (.box (wc (BG c v))))]⟩
def pSa (L:List Int)(ds:List DataD)(bs:List BindD)(cv:V)(n i J:Nat)(r g:Bool)(nm:Str)(t0 t1 t2 t3 t4:W)(e:Exp)(v:Ty)(c:Int):St:=⟨[(4,.sc (.ptr 64 0)),(5,.sc (.ptr 256 0)),(6,.sc (.ptr 576 0)),(7,cv),(8,intV n),(9,intV i),(10,.sc (.ptr 1792 0)),(14,.sc (.ptr 5248 0))],[(64,some (.box [.nil,.nil])),(256,some (AC L J)),(576,some (.box [.c (.sl (A7 ds)),.arr 642 i])),(642,some (.arr 20 (bWs bs) 0)),(1792,some (.box [zi,.c (.bool r),.c (.str nm),.c (.bool g),t0,t1,t2,t3,t4,.c (.int .i64 e.kind),.c (.int .i64 e.pos),.c (.str e.name),.c (.int .i64 e.num),.c (.sl (Exp.rows e.kids)),.c (.sl (Exp.armRows e.arms)),.c (.int .i64 e.ty.kind),.c (.str e.ty.name),.c (.int .i64 e.ty.id),.c (.int .i64 e.ty.home),.c (.sl (Ty.rows e.ty.args))])),(5248,some (.box (wc (BG c v))))]⟩
def pSb (L:List Int)(ds:List DataD)(bs:List BindD)(cv:V)(n i J:Nat)(r g:Bool)(nm:Str)(t0 t1 t2 t3 t4:W)(e:Exp)(v:Ty)(c:Int):St:=⟨[(4,.sc (.ptr 64 0)),(5,.sc (.ptr 256 0)),(6,.sc (.ptr 576 0)),(7,cv),(8,intV n),(9,intV i),(10,.sc (.ptr 1792 0)),(14,.sc (.ptr 5248 0)),(92,Aa false)],[(64,some (.box [.nil,.nil])),(256,some (AC L J)),(576,some (.box [.c (.sl (A7 ds)),.arr 642 i])),(642,some (.arr 20 (bWs bs) 0)),(1792,some (.box [zi,.c (.bool r),.c (.str nm),.c (.bool g),t0,t1,t2,t3,t4,.c (.int .i64 e.kind),.c (.int .i64 e.pos),.c (.str e.name),.c (.int .i64 e.num),.c (.sl (Exp.rows e.kids)),.c (.sl (Exp.armRows e.arms)),.c (.int .i64 e.ty.kind),.c (.str e.ty.name),.c (.int .i64 e.ty.id),.c (.int .i64 e.ty.home),.c (.sl (Ty.rows e.ty.args))])),(5248,some (.box (wc (BG c v))))]⟩
def pSc (L:List Int)(ds:List DataD)(bs:List BindD)(cv:V)(n i J:Nat)(r g:Bool)(nm:Str)(t0 t1 t2 t3 t4:W)(e:Exp)(v:Ty)(c:Int):St:=⟨[(4,.sc (.ptr 64 0)),(5,.sc (.ptr 256 0)),(6,.sc (.ptr 576 0)),(7,cv),(8,intV n),(9,intV i),(10,.sc (.ptr 1792 0))],[(64,some (.box [.nil,.nil])),(256,some (AC L J)),(576,some (.box [.c (.sl (A7 ds)),.arr 642 i])),(642,some (.arr 20 (bWs bs) 0)),(1792,some (.box [zi,.c (.bool r),.c (.str nm),.c (.bool g),t0,t1,t2,t3,t4,.c (.int .i64 e.kind),.c (.int .i64 e.pos),.c (.str e.name),.c (.int .i64 e.num),.c (.sl (Exp.rows e.kids)),.c (.sl (Exp.armRows e.arms)),.c (.int .i64 e.ty.kind),.c (.str e.ty.name),.c (.int .i64 e.ty.id),.c (.int .i64 e.ty.home),.c (.sl (Ty.rows e.ty.args))])),(5248,some (.box (wc (BG c v))))]⟩
def pSd (L:List Int)(ds:List DataD)(bs:List BindD)(cv:V)(n i J:Nat)(o1 o2:Obj):St:=⟨[(4,.sc (.ptr 64 0)),(5,.sc (.ptr 256 0)),(6,.sc (.ptr 576 0)),(7,cv),(8,intV n),(9,intV i)],[(64,some (.box [.nil,.nil])),(256,some (AC L J)),(576,some (.box [.c (.sl (A7 ds)),.arr 642 (i+1)])),(642,some (.arr 20 (bWs bs) 0)),(1792,some o1),(7040,some o2)]⟩
def ZdT (L:List Int)(ds:List DataD)(n i:Nat)(s:St):Prop:=∃bs ctx J cv,bs.length=i/\(∀b∈bs,RF ds b)/\ctxOk i 50000 ctx/\J<=L.length/\(cv=Fd ctx\/(cv=.sc .nil/\ctx=[]))/\s=pS0 L ds bs cv n i J
def sigT (g:Bool)(x:Ty)(t0 t1 t2 t3 t4:W):Prop:=(g=true/\t0=.c (.int .i64 x.kind)/\t1=.c (.str x.name)/\t2=.c (.int .i64 x.id)/\t3=.c (.int .i64 x.home)/\t4=.c (.sl (Ty.rows x.args)))\/(g=false/\t0=zi/\t1=zs/\t2=zi/\t3=zi/\t4=.nil)
def ZdQ (ds7:List DataD)(r:V×List Obj):Prop:=∃ds bs,(∀d∈ds,d∈ds7)/\G4 ds/\bs.length<=4/\(∀b∈bs,RF ds b)/\r=(QT ds bs,[])
variable {A:Ab}
@[simp] theorem fit_bind (l:List BindD):BT 20 (Dy l)=true:=JD bindRow_len l
def Xk (g:Exp->Exp)(l:List BindD)(nm:Str):Exp:=l.foldr (fun b e=>.mk (if b.isRec then 7 else 6) 0 b.name 0 [g b.body,e] [] tz) (.mk 1 0 nm 0 [] [] tz)
def Wv (bs:List BindD):Str:=(bs.getLast?.map (·.name)).getD []
def Zda (g:Exp->Exp)(bs:List BindD):Exp:=if bs=[] then .mk 3 0 [] 0 [] [] tz else Xk g bs (Wv bs)
variable {A:Ab}
theorem OkR.ty {e:Exp}(h:OkR e):tyBd e:=by
 have hl:=h.1.lf;clear h
 induction e using Exp.ind with
 |h e ih=>
  rw[D8];exact⟨hl.2.one.2.2.2.1,fun x hx=>ih x hx (hl.child hx)⟩
theorem OkR.wt {e:Exp}(h:OkR e):e.weight<=100000000:=by
 obtain⟨_,B,hB⟩:=h;exact hB.sm
variable {A:Ab}
def Zed (e:Exp)(o:Option (Exp×Nat)):V:=match o with
 |some p=>.tu [expV p.1,intV 4,Aa true]
 |none=>.tu [expV e,intV 0,Aa false]
def chBR (T:List Str)(vars:List Str)(b:Exp)(i:Nat):Exp:=Im ((renL T vars).take i) b
def chSR (T:List Str)(args:List Exp)(b:Exp)(i:Nat):Exp:=Im ((argL T args).take i) b
def Zec (e:Exp)(con:Str)(args:List Exp)(i:Nat):St:=⟨[(1,strV con),(2,CA args),(3,.sc (.ptr 64 0)),(6,.sc (.ptr 128 0)),(9,intV i)],[(64,some (.box (wc e.row))),(128,some (.box [zi,zi,zs,zi,.nil,.nil,zi,zs,zi,zi,.nil]))]⟩
variable {A:Ab}
def ZdK (A:Ab)(n:Nat)(e:Exp):Prop:=∃(x:Exp)(m:Int)(b:Bool),(K A).call 50 [expV e] []=some (.tu [expV x,intV m,Aa b],[])/\
 ((b=true/\∃m':Nat,m=m'/\AI refP DF PZ n e=some (x,m'))\/(b=false/\AI refP DF PZ n e=none))
variable {A:Ab}
def JL (ds:List DataD)(e:Exp):Prop:=rawE1 ds e/\annT e/\numB e/\(e.kind=8->e.arms≠[])/\∀a∈e.arms,a.1.vars.length<=2
def rawN (ds:List DataD)(e:Exp):Prop:=e.fold fun e l=>JL ds e/\∀p∈l,p
theorem Qb (ds:List DataD)(e:Exp):rawN ds e=(JL ds e/\∀x∈e.children,rawN ds x):=by
 have:=Exp.fold_eq (fun e (l:List Prop)=>JL ds e/\∀p∈l,p) e;unfold rawN;rw[this];simp only[qN]
theorem rawN.one {ds:List DataD}{e:Exp}(h:rawN ds e):JL ds e:=by rw[Qb]at h;exact h.1
theorem rawN.child {ds:List DataD}{e x:Exp}(h:rawN ds e)(hx:x∈e.children):rawN ds x:=by rw[Qb]at h;exact h.2 x hx
theorem rawN.mkE {ds:List DataD}{e:Exp}:rawN ds e->(e.fold fun e l=>(∀a∈e.arms,a.1.vars.Nodup)/\∀p∈l,p)->mkE ds e:=by
 induction e using Exp.ind with
 |h e ih=>
  intro h hp;rw[Exp.fold_eq]at hp;simp only[qN]at hp;rw[Nm];refine⟨?_,fun x hx=>ih x hx (h.child hx) (hp.2 x hx)⟩;obtain⟨⟨h1,h2,h3,h4,h5,h6⟩,h7,h8,h9,h10⟩:=h.one;refine⟨h1,fun a ha=>?_,qr h3 (by decide),h7,h8,?_⟩
  .obtain ⟨g1,g2,g3,g4⟩:=h2 a ha
   exact⟨g1,g2,h10 a ha,hp.1 a ha,fun v hv=>JZ (g4 v hv)⟩
  .rcases h6 with h|h|h|h|h|h|h|h
   .exact .inl ⟨h.1,JZ h.2.1,h.2.2⟩
   .exact .inr (.inl h)
   .exact .inr (.inr (.inl h))
   .exact .inr (.inr (.inr (.inl ⟨h.1,JZ h.2.1,h.2.2⟩)))
   .exact .inr (.inr (.inr (.inr (.inl h))))
   .exact .inr (.inr (.inr (.inr (.inr (.inl ⟨h.1,JZ h.2.1,h.2.2⟩)))))
   .exact .inr (.inr (.inr (.inr (.inr (.inr (.inl h))))))
   .exact .inr (.inr (.inr (.inr (.inr (.inr (.inr ⟨h.1,h.2.1,h.2.2,h9 h.1⟩))))))
def RawN (L:List Int)(ds:List DataD)(B:Nat)(r:V×List Obj):Prop:=∃e J,rawN ds e/\e.weight<=B/\J<=L.length/\r=(expV e,[AC L J])
def ArmN (L:List Int)(ds:List DataD)(dd:DataD)(x:Exp)(B d i:Nat)(s:St):Prop:=∃arms J,arms.length=i/\J<=L.length/\(∀a∈arms,armE ds a/\rawN ds a.2/\a.2.weight<=B/\a.1.vars.length<=2)/\
 s=⟨[(0,.sc (.ptr 0 0)),(1,Bt ds),(2,intV (d+1)),(6,.sc (.ptr 64 0)),(13,.sc (.ptr 10176 0)),(14,.sc (.ptr 10752 0)),(15,intV i)],
  [(0,some (AC L J)),(64,some (.box [zi,zi,zs,zi,.nil,.nil,zi,zs,zi,zi,.nil])),(10176,some (.box (wc (Ba dd)))),(10624,some (.arr 11 [wc x.row] 0)),
    (10752,some (.box [.c (.int .i64 8),zi,zs,zi,.arr 10624 1,.arr 10822 i,zi,zs,zi,zi,.nil])),(10822,some (.arr 14 (wr (Exp.armRows arms)) 0))]⟩
variable {A:Ab}
variable {A:Ab}
def wfT (e:Exp):Prop:=e.wf/\tyBd e
theorem mkE.wfT {ds:List DataD}{e:Exp}(h:mkE ds e):wfT e:=⟨h.wf,h.tyBd⟩
theorem rawE.wfT {ds:List DataD}{e:Exp}(h:rawE ds e):wfT e:=⟨h.wf,h.tyBd⟩
theorem wfT.child {e x:Exp}(h:wfT e)(hx:x∈e.children):wfT x:=⟨h.1.child hx,h.2.child hx⟩
def PutR (B:Nat)(r:V×List Obj):Prop:=∃e b,wfT e/\e.weight<=B/\r=(.tu [expV e,Aa b],[])
variable {A:Ab}
def Zau (B:Nat)(b:BindD):Prop:=wfT b.body/\b.body.weight<=B
def setB (b:BindD)(x:Exp):BindD:=⟨b.isRec,b.name,b.sig,b.ty,x⟩
def MutR (ds:List DataD)(n B:Nat)(r:V×List Obj):Prop:=∃bs:List BindD,bs.length=n/\(∀b∈bs,Zau B b)/\r=(QT ds bs,[])
def Zd3 (L:List Int)(ds:List DataD)(bs:List BindD)(i n r:Nat)(s:St):Prop:=∃(path:List Int)(e:Exp)(J:Nat),path.length<=r/\wfT e/\e.weight<=100000/\J<=L.length/\
 s=⟨[(2,.sc (.ptr 64 0)),(4,.sc (.ptr 128 0)),(5,.sc (.ptr 320 0)),(6,intV i),(7,.sc (.arr 1473 path.length)),(8,.sc (.ptr 1920 0)),(9,intV ((n:Int)-r))],
  [(64,some (.box [.c (.sl (A7 ds)),.c (.sl (Dy bs))])),(128,some (.box [.nil,.nil])),(320,some (AC L J)),(1473,some (.arr 1 (wr (Bm path)) 0)),(1920,some (.box (wc e.row)))]⟩
variable {A:Ab}
variable {A:Ab}
def RunQ (u:List (List Cell))(k:Nat)(e:Exp)(i:Nat):St:=⟨[(0,.sc (.c (.sl u))),(2,intV k),(4,.sc (.ptr 64 0)),(6,.sc (.ptr 128 0)),(9,intV i)],[(64,some (.box (wc e.row))),(128,some (.box Jc))]⟩
abbrev runV (e:Exp)(k:Int):V:=.tu [expV (runP (kP k) e).1,intV ((runP (kP k) e).2:Nat),Aa (decide (valP (runP (kP k) e).1))]
theorem OkR.equal {e:Exp}(h:OkR e):(K A).call 18 [expV e,expV e] []=some (Aa true,[]):=by
 have hw:=h.wt;obtain⟨_,⟨q,hq,rfl⟩,heq⟩:=PI (A:=A) e e h.ty (by omega) (by omega);have hqt:q=true:=hq.2 (HQ _);rw[heq,hqt]
variable {A:Ab}
def bigM:Nat:=100000000
def cW:Nat:=24010000
theorem Zcg:23997998<=cW:=by decide
theorem OkR.wtM {e:Exp}(h:OkR e):e.weight<=bigM:=h.wt
abbrev appE (f a:Exp):Exp:=.mk 5 0 [] 0 [f,a] [] tz
def Bp:Nat->Nat->Exp->Exp×Nat
 |0,_,e=>(e,0)
 |f+1,k,e=>if (spine (runP k e).1).1.kind=2 then
  (spine (runP k e).1).2.foldl (fun p a=>(appE p.1 (Bp f (k-p.2) a).1,p.2+(Bp f (k-p.2) a).2)) ((spine (runP k e).1).1,(runP k e).2)
  else runP k e
def Bb (f k:Nat)(l:List Exp)(p:Exp×Nat):Exp×Nat:=l.foldl (fun p a=>(appE p.1 (Bp f (k-p.2) a).1,p.2+(Bp f (k-p.2) a).2)) p
theorem Gx (f k:Nat)(e:Exp):Bp (f+1) k e=if (spine (runP k e).1).1.kind=2 then Bb f k (spine (runP k e).1).2 ((spine (runP k e).1).1,(runP k e).2) else runP k e:=rfl
theorem Gl (f k:Nat)(l:List Exp)(a:Exp)(p:Exp×Nat):Bb f k (l++[a]) p=(appE (Bb f k l p).1 (Bp f (k-(Bb f k l p).2) a).1,(Bb f k l p).2+(Bp f (k-(Bb f k l p).2) a).2):=by
 unfold Bb;rw[qav];rfl
theorem OkR.child {e x:Exp}(h:OkR e)(hx:x∈e.children):OkR x:=by
 obtain⟨⟨h1,h2,h3,h4⟩,B,hB⟩:=h;rw[Eg]at h2;exact⟨⟨h1.child hx,h2.2 x hx,h3.child hx,h4.child hx⟩,B,hB.child hx⟩
theorem OkR.spine {e:Exp}(h:OkR e):OkR (spine e).1/\∀x∈(spine e).2,OkR x:=HZ (P:=OkR) (fun _ _ q hx=>q.child hx) e h.1.ok.1 h
theorem Uc:∀(k:Nat)(e:Exp),OkR e->(runP k e).1.weight<=e.weight+(runP k e).2*cW
 |0,_,_=>Nat.le_add_right _ _
 |k+1,e,h=>by
  cases hp:AI subP Ah AA e.weight e with
  |none=>rw[Hv hp];exact Nat.le_add_right _ _
  |some p=>
   by_cases hn:2000<Aj e
   .rw[IB hn];exact Nat.le_add_right _ _
   .rw [Gk hp hn]
    have hw:=Jz e h.1.lf.2;have h1:=(GP e.weight e p (qg _) h.1.ok h.1.lf ⟨HN e (Nat.le_of_not_lt hn),by omega,by omega⟩ hp).1;have h2:=Uc k _ (h.next hp hn);rw[Un]at h2;simp only;rw[qaH,Nat.one_mul];have:=Zcg;omega
def WhOk (f k:Nat)(e:Exp):Prop:=(Bp f k e).2<=k/\tyBd (Bp f k e).1/\(Bp f k e).1.weight<=e.weight+(Bp f k e).2*cW
theorem NK {f k:Nat}(ih:∀k e,OkR e->WhOk f k e):∀(l:List Exp)(p:Exp×Nat),(∀a∈l,OkR a)->tyBd p.1->p.2<=k->
 p.2<=(Bb f k l p).2/\(Bb f k l p).2<=k/\tyBd (Bb f k l p).1/\(Bb f k l p).1.weight+p.2*cW<=p.1.weight+(l.map Exp.weight).sum+l.length+(Bb f k l p).2*cW
 |[],p,_,h1,h2=>⟨qg _,h2,h1,by simp[Bb]⟩
 |a::l,p,h,h1,h2=>by
  obtain⟨g1,g2,g3⟩:=ih (k-p.2) a (h a (by simp));have ht:tyBd (appE p.1 (Bp f (k-p.2) a).1):=by
   rw[D8];refine⟨by show tz.size<=_;decide,fun x hx=>?_⟩;rw[BK]at hx;simp only[qaf,qJ,qD,qas,or_false]at hx;rcases hx with rfl|rfl
   .exact h1
   .exact g2
  have hf:Bb f k (a::l) p=Bb f k l (appE p.1 (Bp f (k-p.2) a).1,p.2+(Bp f (k-p.2) a).2):=rfl;rw[hf];generalize Bp f (k-p.2) a=q at *
  obtain⟨q1,q2,q3,q4⟩:=NK (k:=k) ih l (appE p.1 q.1,p.2+q.2) (fun b hb=>h b (by simp[hb])) ht (by simp only;omega);simp only[Jl,qaH]at q1 q4;simp only[qv,qad,qF];refine⟨by omega,q2,q3,?_⟩;generalize p.2*cW=x1 at *
  generalize q.2*cW=x2 at *
  generalize (Bb f k l (appE p.1 q.1,p.2+q.2)).2*cW=x3 at *
  omega
theorem Np (f:Nat):∀(k:Nat)(e:Exp),OkR e->WhOk f k e:=by
 induction f with
 |zero=>
  intro k e h;unfold WhOk Bp;exact⟨qai _,h.ty,by simp⟩
 |succ f ih=>
  intro k e h;have hr:=h.run k;have hw:=Uc k e h;have hl:=H4 k e;unfold WhOk;rw[Gx];split
  .obtain ⟨h1,h2⟩:=hr.spine
   obtain⟨q1,q2,q3,q4⟩:=NK (k:=k) ih (spine (runP k e).1).2 ((spine (runP k e).1).1,(runP k e).2) h2 h1.ty hl;have hs:=J8 _ hr.1.ok.1;simp only at q1 q4;exact⟨q2,q3,by omega⟩
  .exact⟨hl,hr.ty,hw⟩
theorem ZaP {f k:Nat}{e:Exp}(h:OkR e)(hf:k*bigM+e.weight<f+1){i:Nat}{a:Exp}(ha:(spine (runP k e).1).2[i]?=some a):
 OkR a/\(Bb f k ((spine (runP k e).1).2.take i) ((spine (runP k e).1).1,(runP k e).2)).2<=k/\(k-(Bb f k ((spine (runP k e).1).2.take i) ((spine (runP k e).1).1,(runP k e).2)).2)*bigM+a.weight<f:=by
 have hr:=h.run k;obtain⟨h1,h2⟩:=hr.spine;have hm:=qd ha;obtain⟨q1,q2,_,_⟩:=NK (f:=f) (k:=k) (Np f) ((spine (runP k e).1).2.take i) ((spine (runP k e).1).1,(runP k e).2) (fun b hb=>h2 b (q8 hb)) h1.ty (H4 k e);refine⟨h2 a hm,q2,?_⟩;have hlt:=RO hr.1.ok.1 hm;have hwa:=(h2 a hm).wtM;have hpos:=e.weight_pos
 generalize (Bb f k ((spine (runP k e).1).2.take i) ((spine (runP k e).1).1,(runP k e).2)).2=m at *
 by_cases h0:m=0
 .have hz:=Rl (k:=k) (e:=e) (by simp only at q1;omega)
  rw[hz]at hlt;subst h0;simp only at hlt;rw[Nat.sub_zero];omega
 .have:(k-m)*bigM+bigM<=k*bigM:=by
   rw[<-Nat.succ_mul];exact qQ _ (by omega)
  omega
theorem Zbw (k:Int):(if (300:Int)<(if (0:Int)>k then 0 else k) then (300:Int) else (if (0:Int)>k then 0 else k))=(kP k:Int)/\kP k<=300/\kP (kP k:Nat)=kP k:=by
 unfold kP;split<;>split at *<;>omega
def WhIH (A:Ab)(u:List (List Cell))(F f:Nat):Prop:=∀(k:Int)(e:Exp),OkR e->kP k*bigM+e.weight<f->(K A).call F [.sc (.c (.sl u)),expV e,intV k] []=some (.tu [expV (Bp f (kP k) e).1,intV ((Bp f (kP k) e).2:Nat)],[])
theorem V0 {u:List (List Cell)}{F f n i:Nat}{e:Exp}(ih:WhIH A u F f)(h:OkR e)(hn:n<=300)(hf:n*bigM+e.weight<f+1)(hi:i<(spine (runP n e).1).2.length):∃(a:Exp)(p q:Exp×Nat),(spine (runP n e).1).2[i]?=some a/\
 Bb f n ((spine (runP n e).1).2.take i) ((spine (runP n e).1).1,(runP n e).2)=p/\Bb f n ((spine (runP n e).1).2.take (i+1)) ((spine (runP n e).1).1,(runP n e).2)=(appE p.1 q.1,p.2+q.2)/\(n:Int)-p.2<=n/\p.2<=n/\
 (K A).call F [.sc (.c (.sl u)),expV a,intV ((n:Int)-p.2)] []=some (.tu [expV q.1,intV (q.2:Nat)],[])/\IntKind.i64.wrap ((p.2:Int)+q.2)=(p.2:Int)+q.2/\
 wc (appE p.1 q.1).row=[.c (.int .i64 5),zi,zs,zi,.c (.sl [p.1.row,q.1.row]),.c (.sl []),zi,zs,zi,zi,.c (.sl [])]:=by
 obtain⟨a,ha⟩:=Ag hi;obtain⟨g1,g2,g3⟩:=ZaP h hf ha;rw[Bn ha,Gl];generalize Bb f n ((spine (runP n e).1).2.take i) ((spine (runP n e).1).1,(runP n e).2)=p at *
 have hq:kP ((n:Int)-p.2)=n-p.2:=by unfold kP;omega
 have hc:=ih ((n:Int)-p.2) a g1 (by rw[hq];exact g3);have hqk:=(Np f (n-p.2) a g1).1;rw[hq]at hc;exact⟨a,p,_,ha,rfl,rfl,by omega,g2,hc,FY _ (by omega),by rw[Xw];rfl⟩
def WhS (u:List (List Cell))(n:Nat)(args:List Exp)(x:Exp)(p:Exp×Nat)(i:Nat):St:=
 ⟨[(0,.sc (.c (.sl u))),(2,intV n),(6,.sc (.ptr 128 0)),(8,intV p.2),(10,.sc (.ptr 1536 0)),(41,CA args),(42,intV args.length),(43,intV i)],[(64,some (.box (wc x.row))),(128,some (.box Jc)),(1536,some (.box (wc p.1.row)))]⟩
theorem XV (u:List (List Cell))(f:Nat):WhIH A u 35 f:=by
 induction f with
 |zero=>intro k e h hf;omega
 |succ f ih=>
  intro k e h hf;obtain⟨hk,hk3,hkk⟩:=Zbw k;have h33:=Za9 (A:=A) u e (kP k:Nat) h;rw[hkk]at h33;generalize kP k=n at *
  have hr:=h.run n;have hl:=H4 n e;rw[Zah _ hr.1.ps]at h33;have hwr:=hr.wt;have h41:=MB (A:=A) (runP n e).1 hr.1.ok.1 (by omega);have hlen:=L8 _ hr.1.ok.1;have hro:=fun i hi=>V0 (i:=i) ih h hk3 hf hi;rw[Gx];refine fnO v35 ?_;unfold v35;by_cases h2:(spine (runP n e).1).1.kind=2
  .have hv:valP (runP n e).1:=.inr (.inr h2)
   rw[if_pos h2];simp(maxSteps:=9^7) (disch:=try exact zd) [hk,h33,h41,hv,h2,-getElem?_pos];refine Aq (fun i=>WhS u n (spine (runP n e).1).2 (runP n e).1 (Bb f n ((spine (runP n e).1).2.take i) ((spine (runP n e).1).1,(runP n e).2)) i) (spine (runP n e).1).2.length (by simp[WhS,Bb]) ?_ ?_
   .intro i hi
    obtain⟨a,p,q,ha,hp,hp1,g1,g2,hc,hwr2,hrow⟩:=hro i hi;rw[hp,hp1];generalize (spine (runP n e).1).2=args at *
    unfold N5 WhS;simp(maxSteps:=9^7) (disch:=try exact zd) [hi,ha,hc,hrow,hwr2,-getElem?_pos]
   .rw [qn (qg _)]
    generalize Bb f n (spine (runP n e).1).2 ((spine (runP n e).1).1,(runP n e).2)=p at *
    unfold N5 WhS;simp(maxSteps:=9^7) (disch:=try exact zd) [-getElem?_pos]
  .rw [if_neg h2]
   by_cases hv:valP (runP n e).1 <;>
   simp(maxSteps:=9^7) (disch:=try exact zd) [hk,h33,h41,hv,h2,-getElem?_pos]
def WhQ (u:List (List Cell))(n:Nat)(args:List Exp)(x:Exp)(p:Exp×Nat)(i:Nat):St:=
 ⟨[(0,.sc (.c (.sl u))),(2,intV n),(6,.sc (.ptr 128 0)),(9,intV p.2),(12,CA args),(13,.sc (.ptr 2560 0)),(14,intV i)],[(128,some (.box Jc)),(1024,some (.box (wc x.row))),(2560,some (.box (wc p.1.row)))]⟩
def Gu:Nat:=301*bigM+1
theorem ZcK {e:Exp}(h:OkR e)(k:Int):kP k*bigM+e.weight<Gu:=by
 have h1:=h.wtM;have h2:kP k*bigM<=300*bigM:=qQ _ (by unfold kP;omega);have h3:301*bigM=300*bigM+bigM:=Nat.succ_mul 300 bigM;unfold Gu;omega
end Go.Vs.Tryz
