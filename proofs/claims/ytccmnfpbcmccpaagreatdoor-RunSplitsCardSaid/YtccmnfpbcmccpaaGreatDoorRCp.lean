/- Valid expressions by the program, walked: all kinds. -/
import Derived.Test.YtccmnfpbcmccpaaGreatDoorRBp
set_option linter.unusedSimpArgs false
set_option linter.unusedVariables false
set_option linter.deprecated false
set_option maxHeartbeats 64000000
set_option maxRecDepth 10000
namespace Go.Vs.Tryz
open Go Go.Vs
variable {A:Af}
theorem Zbe (s:Str)(n:Nat)(h:CK s n):(K A).call 142 [strV s,intV n] []=some (Ac true,[]):=by
 refine fnO v142 ?_;unfold v142;rcases h with ⟨rfl,rfl⟩|⟨rfl,rfl⟩|⟨h1,h2,h3,h4⟩
 .simp(disch:=try exact zd) [-getElem?_pos]
 .simp(disch:=try exact zd) [-getElem?_pos]
 .have hn:(K A).call 141 [strV s,.sc (.c (.int .u8 65)),.sc (.c (.int .u8 90))] []=some (Ac true,[]):=IK (A:=A) 65 90 s h3
  have h4':(n:Int)<=4:=by omega
  simp(disch:=try exact zd) [h1,h2,hn,h4',-getElem?_pos]
theorem Zcz (f:Nat)(l:List Ty)(hl:l.length<=687194767360)(h:∀x∈l,(K A).call f [tyV x] []=some (Ac false,[])):(K A).call 196 [tysV l,.sc (.c (.fn f [] []))] []=some (intV (-1),[]):=by
 refine fnO v196 ?_;unfold v196;simp(disch:=try exact zd) [-getElem?_pos];refine Ap (fun i=>⟨[(0,tysV l),(1,.sc (.c (.fn f [] []))),(7,intV l.length),(8,intV i)],[]⟩) l.length ?_ ?_ ?_
 .simp
 .intro i hi
  obtain⟨x,hx⟩:=Ae hi;have h1:=h x (qc hx);unfold Og;simp(disch:=try exact zd) [hi,hx,h1,-getElem?_pos]
 .unfold Og
  simp(disch:=try exact zd) [-getElem?_pos]
theorem PF (f:Nat)(l:List Ty)(hl:l.length<=687194767360)(h:∀x∈l,(K A).call f [tyV x] []=some (Ac false,[])):(K A).call 143 [tysV l,.sc (.c (.fn f [] []))] []=some (Ac false,[]):=by
 refine fnO v143 ?_;have h1:=Zcz (A:=A) f l hl h;unfold v143;simp(disch:=try exact zd) [h1]
theorem Zex {s:Str}{n:Nat}(h:CK s n):s≠[]:=by
 rcases h with ⟨rfl,_⟩|⟨rfl,_⟩|⟨_,_,h3,_⟩
 .simp
 .simp
 .rintro rfl
  obtain⟨_,⟨c,hc,_⟩,_⟩:=h3;cases hc
theorem nameOk.ne {lo hi:Nat}{s:Str}(h:nameOk lo hi s):s≠[]:=by
 rintro rfl;obtain⟨_,⟨c,hc,_⟩,_⟩:=h;cases hc
theorem wrT.arg {t x:Ty}(h:wrT t)(hx:x∈t.args):wrT x:=⟨h.1.arg hx,Ty.all.arg h.2 hx⟩
theorem wrT.kinds {t:Ty}(h:wrT t):(t.kind=4/\t.id=0/\t.home=0/\CK t.name t.args.length)\/(t.kind=5/\t.id=0/\t.home=0/\t.args=[]/\nameOk 97 122 t.name):=by
 obtain⟨h1,h2,h3,h4,h5,h6,h7,h8⟩:=h.1.one;have h9:=Ty.all.one h.2;by_cases k4:t.kind=4
 .exact .inl ⟨k4,h5 k4⟩
 .by_cases k5:t.kind=5
  .exact .inr ⟨k5,h6 k5⟩
  .by_cases k1:t.kind=1
   .have:=h1 k1
    omega
   .by_cases k2:t.kind=2
    .have a:=h2 k2
     have b:=(h4 k2).1;omega
    .omega
theorem Xt (t:Ty):wrT t->t.size<=687194767360->(K A).call 93 [tyV t] []=some (Ac true,[]):=by
 induction t using Ty.ind with
 |h t ih=>
 intro h hl;have hal:=t.args_lt;refine fnO v93 ?_;rcases h.kinds with ⟨k,i0,h0,hc⟩|⟨k,i0,h0,ha,hn⟩
 .have hne:=Zex hc
  have hcv:=Zbe (A:=A) t.name t.args.length hc;have hbad:∀x∈t.args,(K A).call 144 [tyV x] []=some (Ac false,[]):=fun x hx=>by
   have h1:=ih x hx (h.arg hx) (by have:=Ty.arg_lt hx;omega);refine fnO v144 ?_;unfold v144;simp(disch:=try exact zd) [h1]
  have hnone:=PF (A:=A) 144 t.args (by omega) hbad;unfold v93;simp(disch:=try exact zd) [k,i0,h0,hne,hcv,hnone,-getElem?_pos]
 .have hne:=hn.ne
  have hnv:(K A).call 141 [strV t.name,.sc (.c (.int .u8 97)),.sc (.c (.int .u8 122))] []=some (Ac true,[]):=IK (A:=A) 97 122 t.name hn;unfold v93;simp(disch:=try exact zd) [k,i0,h0,ha,hne,hnv,-getElem?_pos]
theorem Zb1 (t:Ty):wrT t->t.size<=687194767360->(K A).call 94 [tyV t] []=some (Ac true,[]):=by
 induction t using Ty.ind with
 |h t ih=>
 intro h hl;have hal:=t.args_lt;refine fnO v94 ?_;have hbad:∀x∈t.args,(K A).call 145 [tyV x] []=some (Ac false,[]):=fun x hx=>by
  have h1:=ih x hx (h.arg hx) (by have:=Ty.arg_lt hx;omega);refine fnO v145 ?_;unfold v145;simp(disch:=try exact zd) [h1]
 have hnone:=PF (A:=A) 145 t.args (by omega) hbad;unfold v94;rcases h.kinds with ⟨k,_⟩|⟨k,_⟩
 .simp(disch:=try exact zd) [k,hnone,-getElem?_pos]
 .simp(disch:=try exact zd) [k,hnone,-getElem?_pos]
theorem StE.child {e x:Exp}(h:StE e)(hx:x∈e.children):StE x:=⟨h.ok.child hx,h.rz.child hx,h.lf.child hx,h.ps.child hx⟩
theorem XJ (e:Exp):StE e->e.weight<=687194767360->(K A).call 47 [expV e] []=some (Ac true,[]):=by
 induction e using Exp.ind with
 |h e ih=>
 intro hv hl;refine fnO v47 ?_;obtain⟨f1,f2,⟨f3,f4,f5⟩,f6,⟨f7,f8⟩,f9,f10⟩:=hv.lf.2.one;obtain⟨g1,g2,g3,g4⟩:=hv.lf.1.one;obtain⟨hpos,hpa⟩:=hv.ps.one;have hs:=hv.ok.1.one;have hz:=Xp (A:=A);have hal:=e.children_le;rw[Exp.children_len]at hal;have hnn:¬e.num<0:=by omega
 have hnb:¬999999999<e.num:=by omega
 have hch:=X9 (A:=A) e.children (by rw[Exp.children_len];omega) (fun x hx=>ih x hx (hv.child hx) (by have:=Exp.child_lt hx;omega));have ht9:e.kind≠9->wc e.ty.row=[zi,zs,zi,zi,.c (.sl [])]:=fun k=>by rw[f7 k];simp[tz,Ty.row,Ty.rows]
 have hk11:e.kind=1\/e.kind=2\/e.kind=3\/e.kind=4\/e.kind=5\/e.kind=6\/e.kind=7\/e.kind=8\/e.kind=9\/e.kind=10\/e.kind=11:=by omega
 rcases hk11 with h|h|h|h|h|h|h|h|h|h|h
 .have hkl:e.kids.length=0:=by have:=hs.2.2;rw [h] at this;exact this
  have ha:e.arms=[]:=hs.1.2.1 (by omega);have hk:e.kids=[]:=qN.1 hkl;have hlo:=HE (A:=A) e.name (g1 (by unfold lowK;omega));have htr:=ht9 (by omega);have hnum:=f3 (by omega);have hc:=Dz (A:=A) e hk ha;rw[show e.children=[] by simp[Exp.children,hk,ha]]at hch;simp only[Di,rows0]at hch;unfold v47;simp(maxSteps:=9^7) (disch:=try exact zd) [h,hpos,hk,ha,hlo,hz,htr,hnum,hc,hch,-getElem?_pos]
  refine Ap (fun i=>⟨[(1,.sc (.ptr 64 0)),(127,.sc (.c (.sl []))),(128,intV 0),(129,intV i)],[(64,some (.box (wc e.row)))]⟩) 0 (by simp) (fun i hi=>by omega) ?_;unfold CR;simp(maxSteps:=9^7) (disch:=try exact zd) [hc,hch,-getElem?_pos]
 .have hkl:e.kids.length=0:=by have:=hs.2.2;rw [h] at this;exact this
  have ha:e.arms=[]:=hs.1.2.1 (by omega);have hk:e.kids=[]:=qN.1 hkl;have hlo:=Tz (A:=A) e.name (g2 h);have htr:=ht9 (by omega);have hnum:=f3 (by omega);have hc:=Dz (A:=A) e hk ha;rw[show e.children=[] by simp[Exp.children,hk,ha]]at hch;simp only[Di,rows0]at hch;unfold v47;simp(maxSteps:=9^7) (disch:=try exact zd) [h,hpos,hk,ha,hlo,hz,htr,hnum,hc,hch,-getElem?_pos]
  refine Ap (fun i=>⟨[(1,.sc (.ptr 64 0)),(127,.sc (.c (.sl []))),(128,intV 0),(129,intV i)],[(64,some (.box (wc e.row)))]⟩) 0 (by simp) (fun i hi=>by omega) ?_;unfold CR;simp(maxSteps:=9^7) (disch:=try exact zd) [hc,hch,-getElem?_pos]
 .have hkl:e.kids.length=0:=by have:=hs.2.2;rw [h] at this;exact this
  have ha:e.arms=[]:=hs.1.2.1 (by omega);have hk:e.kids=[]:=qN.1 hkl;have hn:e.name=[]:=g3 (by unfold lowK;omega) (by omega);have htr:=ht9 (by omega);have hc:=Dz (A:=A) e hk ha;rw[show e.children=[] by simp[Exp.children,hk,ha]]at hch;simp only[Di,rows0]at hch;by_cases hnum:e.num=0
  .unfold v47
   simp(maxSteps:=9^7) (disch:=try exact zd) [h,hpos,hk,ha,hn,hz,htr,hnn,hnb,hnum,hc,hch,-getElem?_pos];refine Ap (fun i=>⟨[(1,.sc (.ptr 64 0)),(127,.sc (.c (.sl []))),(128,intV 0),(129,intV i)],[(64,some (.box (wc e.row)))]⟩) 0 (by simp) (fun i hi=>by omega) ?_;unfold CR;simp(maxSteps:=9^7) (disch:=try exact zd) [hc,hch,-getElem?_pos]
  .unfold v47
   simp(maxSteps:=9^7) (disch:=try exact zd) [h,hpos,hk,ha,hn,hz,htr,hnn,hnb,hnum,hc,hch,-getElem?_pos];refine Ap (fun i=>⟨[(1,.sc (.ptr 64 0)),(127,.sc (.c (.sl []))),(128,intV 0),(129,intV i)],[(64,some (.box (wc e.row)))]⟩) 0 (by simp) (fun i hi=>by omega) ?_;unfold CR;simp(maxSteps:=9^7) (disch:=try exact zd) [hc,hch,-getElem?_pos]
 .have hkl:e.kids.length=1:=by have:=hs.2.2;rw [h] at this;exact this
  have ha:e.arms=[]:=hs.1.2.1 (by omega);obtain⟨x,hk⟩:∃x,e.kids=[x]:=by
   match hkk:e.kids,hkl with
   |[x],_=>exact⟨x,rfl⟩
  have hlo:=HE (A:=A) e.name (g1 (by unfold lowK;omega));have htr:=ht9 (by omega);have hnum:=f3 (by omega);have hc:=B7 (A:=A) e (by simp[hk]) hl;unfold v47;simp(maxSteps:=9^7) (disch:=try exact zd) [h,hpos,hk,ha,hlo,hz,htr,hnum,hc,hch,-getElem?_pos]
  refine Ap (fun i=>⟨[(1,.sc (.ptr 64 0)),(127,.sc (.c (.sl []))),(128,intV 0),(129,intV i)],[(64,some (.box (wc e.row)))]⟩) 0 (by simp) (fun i hi=>by omega) ?_;unfold CR;simp(maxSteps:=9^7) (disch:=try exact zd) [hc,hch,-getElem?_pos]
 .have hkl:e.kids.length=2:=by have:=hs.2.2;rw [h] at this;exact this
  have ha:e.arms=[]:=hs.1.2.1 (by omega);obtain⟨x,y,hk⟩:∃x y,e.kids=[x,y]:=by
   match hkk:e.kids,hkl with
   |[x,y],_=>exact⟨x,y,rfl⟩
  have hn:e.name=[]:=g3 (by unfold lowK;omega) (by omega);have htr:=ht9 (by omega);have hnum:=f3 (by omega);have hc:=B7 (A:=A) e (by simp[hk]) hl;unfold v47;simp(maxSteps:=9^7) (disch:=try exact zd) [h,hpos,hk,ha,hn,hz,htr,hnum,hc,hch,-getElem?_pos]
  refine Ap (fun i=>⟨[(1,.sc (.ptr 64 0)),(127,.sc (.c (.sl []))),(128,intV 0),(129,intV i)],[(64,some (.box (wc e.row)))]⟩) 0 (by simp) (fun i hi=>by omega) ?_;unfold CR;simp(maxSteps:=9^7) (disch:=try exact zd) [hc,hch,-getElem?_pos]
 .have hkl:e.kids.length=2:=by have:=hs.2.2;rw [h] at this;exact this
  have ha:e.arms=[]:=hs.1.2.1 (by omega);obtain⟨x,y,hk⟩:∃x y,e.kids=[x,y]:=by
   match hkk:e.kids,hkl with
   |[x,y],_=>exact⟨x,y,rfl⟩
  have hlo:=HE (A:=A) e.name (g1 (by unfold lowK;omega));have htr:=ht9 (by omega);have hnum:=f3 (by omega);have hc:=B7 (A:=A) e (by simp[hk]) hl;unfold v47;simp(maxSteps:=9^7) (disch:=try exact zd) [h,hpos,hk,ha,hlo,hz,htr,hnum,hc,hch,-getElem?_pos]
  refine Ap (fun i=>⟨[(1,.sc (.ptr 64 0)),(127,.sc (.c (.sl []))),(128,intV 0),(129,intV i)],[(64,some (.box (wc e.row)))]⟩) 0 (by simp) (fun i hi=>by omega) ?_;unfold CR;simp(maxSteps:=9^7) (disch:=try exact zd) [hc,hch,-getElem?_pos]
 .have hkl:e.kids.length=2:=by have:=hs.2.2;rw [h] at this;exact this
  have ha:e.arms=[]:=hs.1.2.1 (by omega);obtain⟨x,y,hk⟩:∃x y,e.kids=[x,y]:=by
   match hkk:e.kids,hkl with
   |[x,y],_=>exact⟨x,y,rfl⟩
  have hlo:=HE (A:=A) e.name (g1 (by unfold lowK;omega));have htr:=ht9 (by omega);have hnum:=f3 (by omega);have hc:=B7 (A:=A) e (by simp[hk]) hl;unfold v47;simp(maxSteps:=9^7) (disch:=try exact zd) [h,hpos,hk,ha,hlo,hz,htr,hnum,hc,hch,-getElem?_pos]
  refine Ap (fun i=>⟨[(1,.sc (.ptr 64 0)),(127,.sc (.c (.sl []))),(128,intV 0),(129,intV i)],[(64,some (.box (wc e.row)))]⟩) 0 (by simp) (fun i hi=>by omega) ?_;unfold CR;simp(maxSteps:=9^7) (disch:=try exact zd) [hc,hch,-getElem?_pos]
 .have hkl:e.kids.length=1:=by have:=hs.2.2;rw [h] at this;exact this
  obtain⟨x,hk⟩:∃x,e.kids=[x]:=by
   match hkk:e.kids,hkl with
   |[x],_=>exact⟨x,rfl⟩
  have hn:e.name=[]:=g3 (by unfold lowK;omega) (by omega);have htr:=ht9 (by omega);have hnum:=f3 (by omega);have hc:=B7 (A:=A) e (by simp[hk]) hl;have hne:e.arms≠[]:=f9 h;have hpa0:0<e.arms.length:=qZ.2 hne;unfold v47;simp(maxSteps:=9^7) (disch:=try exact zd) [h,hpos,hk,hn,hz,htr,hnum,hpa0,-getElem?_pos]
  refine Ap (fun i=>⟨[(1,.sc (.ptr 64 0)),(127,.sc (.c (.sl (Exp.armRows e.arms)))),(128,intV e.arms.length),(129,intV i)],[(64,some (.box (wc e.row)))]⟩) e.arms.length (by simp) (fun i hi=>?_) ?_
  .obtain ⟨p,hp⟩:=Ae hi
   have hpm:=qc hp;have q1:=hpa p hpm;obtain⟨q2,q3⟩:=f10 p hpm;have hu:=Tz (A:=A) p.1.con q2;have hav:=W0 (A:=A) p.1.vars (by omega) (g4 p hpm);have q3':¬(4:Int)<p.1.vars.length:=(by omega);have q3'':¬4<p.1.vars.length:=(by omega);unfold CR;simp(maxSteps:=9^7) (disch:=try exact zd) [hi,hp,q1,q3',q3'',hu,hav,-getElem?_pos]
  .unfold CR
   simp(maxSteps:=9^7) (disch:=try exact zd) [hc,hch,-getElem?_pos]
 .have hkl:e.kids.length=1:=by have:=hs.2.2;rw [h] at this;exact this
  have ha:e.arms=[]:=hs.1.2.1 (by omega);obtain⟨x,hk⟩:∃x,e.kids=[x]:=by
   match hkk:e.kids,hkl with
   |[x],_=>exact⟨x,rfl⟩
  have hn:e.name=[]:=g3 (by unfold lowK;omega) (by omega);have hw:=f8 h;have hv1:=Xt (A:=A) e.ty hw f6;have hv2:=Zb1 (A:=A) e.ty hw f6;have hnum:=f3 (by omega);have hc:=B7 (A:=A) e (by simp[hk]) hl;unfold v47;simp(maxSteps:=9^7) (disch:=try exact zd) [h,hpos,hk,ha,hn,hv1,hv2,hnum,hc,hch,-getElem?_pos]
  refine Ap (fun i=>⟨[(1,.sc (.ptr 64 0)),(127,.sc (.c (.sl []))),(128,intV 0),(129,intV i)],[(64,some (.box (wc e.row)))]⟩) 0 (by simp) (fun i hi=>by omega) ?_;unfold CR;simp(maxSteps:=9^7) (disch:=try exact zd) [hc,hch,-getElem?_pos]
 .have hkl:e.kids.length=0:=by have:=hs.2.2;rw [h] at this;exact this
  have ha:e.arms=[]:=hs.1.2.1 (by omega);have hk:e.kids=[]:=qN.1 hkl;have hn:e.name=[]:=g3 (by unfold lowK;omega) (by omega);have htr:=ht9 (by omega);have hnum:=f3 (by omega);have hc:=Dz (A:=A) e hk ha;rw[show e.children=[] by simp[Exp.children,hk,ha]]at hch;simp only[Di,rows0]at hch;unfold v47;simp(maxSteps:=9^7) (disch:=try exact zd) [h,hpos,hk,ha,hn,hz,htr,hnum,hc,hch,-getElem?_pos]
  refine Ap (fun i=>⟨[(1,.sc (.ptr 64 0)),(127,.sc (.c (.sl []))),(128,intV 0),(129,intV i)],[(64,some (.box (wc e.row)))]⟩) 0 (by simp) (fun i hi=>by omega) ?_;unfold CR;simp(maxSteps:=9^7) (disch:=try exact zd) [hc,hch,-getElem?_pos]
 .have hkl:e.kids.length=1:=by have:=hs.2.2;rw [h] at this;exact this
  have ha:e.arms=[]:=hs.1.2.1 (by omega);obtain⟨x,hk⟩:∃x,e.kids=[x]:=by
   match hkk:e.kids,hkl with
   |[x],_=>exact⟨x,rfl⟩
  have hn:e.name=[]:=g3 (by unfold lowK;omega) (by omega);have htr:=ht9 (by omega);have hnum:=f3 (by omega);have hc:=B7 (A:=A) e (by simp[hk]) hl;unfold v47;simp(maxSteps:=9^7) (disch:=try exact zd) [h,hpos,hk,ha,hn,hz,htr,hnum,hc,hch,-getElem?_pos]
  refine Ap (fun i=>⟨[(1,.sc (.ptr 64 0)),(127,.sc (.c (.sl []))),(128,intV 0),(129,intV i)],[(64,some (.box (wc e.row)))]⟩) 0 (by simp) (fun i hi=>by omega) ?_;unfold CR;simp(maxSteps:=9^7) (disch:=try exact zd) [hc,hch,-getElem?_pos]
end Go.Vs.Tryz
namespace Go.Vs
end Go.Vs
namespace Go.Vs.Tryz
open Go Go.Vs
variable {A:Af}
def allA (e:Exp)(out:List Str)(i:Nat):List Str:=out++(if e.name=[] then [] else [e.name])++((e.arms.take i).map fun a=>a.1.vars).flatten
def allC (e:Exp)(out:List Str)(i:Nat):List Str:=allA e out e.arms.length++((e.children.take i).map D6).flatten
variable {A:Af}
def ZfR (A:Af)(n:Nat):Prop:=∀(e:Exp) (x:Str) (b:Exp),e.weight<=n->e.weight<=100000000000->shp e->b.wf->b.weight<=100000000000->(K A).call 103 [expV e,strV x,expV b] []=some (expV (refS n e x b),[])
theorem ZaQ (s:Str):(varX s).wf/\(varX s).weight=1:=by
 refine⟨?_,?_⟩
 .rw [Exp.wf_eq]
  refine⟨⟨fun h=>?_,fun _=>rfl,fun _=>rfl⟩,fun x hx=>?_⟩
  .exact absurd (show(1:Int)=8 from h) (by decide)
  .simp[varX,Exp.children,Exp.kids,Exp.arms]at hx
 .rw [Exp.weight_eq]
  simp[varX,Exp.children,Exp.kids,Exp.arms]
theorem Zah (s:Str):expV (varX s)=.ag [.c (.int .i64 1),.c (.int .i64 0),.c (.str s),.c (.int .i64 0),.c (.sl []),.c (.sl []),.c (.int .i64 0),.c (.str []),.c (.int .i64 0),.c (.int .i64 0),.c (.sl [])]:=by
 rw[expV,Exp.row_eq];simp[varX,Exp.kind,Exp.pos,Exp.name,Exp.num,Exp.kids,Exp.arms,Exp.ty,Exp.rows,Exp.armRows,tz,Ty.kind,Ty.name,Ty.id,Ty.home,Ty.args,Ty.rows,wc]
def Zf1 (n:Nat)(x:Str)(b:Exp)(a:ArmH×Exp):ArmH×Exp:=if x∈a.1.vars then a else ((Ek (refS n) x b a).1,refS n (Ek (refS n) x b a).2 x b)
variable {A:Af}
variable {A:Af}
variable {A:Af}
theorem rawE.conV {ds:List DataD}(hc:Em ds){e:Exp}:rawE ds e->conV e:=by
 induction e using Exp.ind with
 |h e ih=>
  intro h;rw[DB];refine⟨fun a ha k hk=>?_,fun x hx=>ih x hx (h.child hx)⟩;rcases (h.one.2.1 a ha).2.1 with hG|⟨d,hd,c,hcc,hG⟩
  .rw [hG] at hk
   simp[AJ]at hk
  .obtain ⟨_,⟨ch,h1,h2,h3⟩,_⟩:=hc d hd c hcc
   rw[<-hG,hk]at h1;simp[AJ]at h1;subst h1;exact absurd h3 (by decide)
theorem Zdz (s:Str)(hs:s.length<=1000):shp (varX s)/\nmL (varX s)/\tyBd (varX s):=by
 have hc:(varX s).children=[]:=rfl;refine⟨?_,fun u hu=>?_,?_⟩
 .rw [DD,hc]
  exact⟨⟨⟨fun h=>absurd (show(1:Int)=8 from h) (by decide),fun _=>rfl,fun _=>rfl⟩,fun _=>⟨rfl,rfl⟩,rfl⟩,fun x hx=>by simp at hx⟩
 .rcases A3.1 hu with h|⟨i,x,hx,_⟩
  .rw [h]
   exact hs
  .rw [hc] at hx
   simp at hx
 .rw [Ed,hc]
  exact⟨show tz.size<=687194767360 by decide,fun x hx=>by simp at hx⟩
theorem ZS (e:Exp)(x to:Str)(hxl:x.length<=1000)(htl:to.length<=1000)(hl:e.weight<=100000000000)(hs:shp e)(hp:properP e)(hn:nmL e):(K A).call 206 [expV e,strV x,strV to] []=some (expV (subP e x (varX to)),[]):=by
 refine fnO v206 ?_;obtain⟨v1,v2,_⟩:=Zdz to htl;have h:=OU (A:=A) e x (varX to) v1 (by rw[(ZaQ to).2];omega) v2 hxl hl hs hp hn;have hrow:=DA (subP e x (varX to));generalize subP e x (varX to)=r at *
 rw[Zah]at h;unfold v206;simp(maxSteps:=9^7) (disch:=try exact zd) [h,hrow,-getElem?_pos]
variable {A:Af}
theorem GB {α:Type}(x:α):[x][0]?=some x:=rfl
theorem Lr {α:Type}(x y:α):[x,y][0]?=some x:=rfl
def AR (k6 k7 k9 k11:Nat):List (List W):=[[.c (.fn 153 [] []),.c (.fn 154 [] [])],[.clo 151 [true] [[.ptr k6 0]],.c (.fn 156 [] [])],[.clo 151 [true] [[.ptr k7 0]],.c (.fn 157 [] [])],
 [.c (.fn 158 [] []),.c (.fn 159 [] [])],[.clo 151 [true] [[.ptr k9 0]],.c (.fn 152 [] [])],[.clo 151 [true] [[.ptr k11 0]],.c (.fn 152 [] [])]]
theorem Ns:(K A).call 101 [] []=some (.sc (.arr 0 6),[.arr 2 (AR 1 2 3 4) 0,.box [.c (.int .i64 6)],.box [.c (.int .i64 7)],.box [.c (.int .i64 9)],.box [.c (.int .i64 11)]]):=D7 (n:=40) (by kernel_rfl)
theorem R5 (k:Int)(e:Exp):(K A).call 151 [expV e,.sc (.ptr 0 0)] [.box [.c (.int .i64 k)]]=some (Ac (decide (e.kind=k)),[.box [.c (.int .i64 k)]]):=by
 refine fnO v151 ?_;unfold v151;simp(disch:=try exact zd) [-getElem?_pos]
theorem RT (e x:Exp)(h:e.kids[0]?=some x):(K A).call 152 [expV e] []=some (.tu [expV x,Ac true],[]):=by
 have hl:=(qf.1 h).1;refine fnO v152 ?_;unfold v152;simp(disch:=try exact zd) [h,hl,-getElem?_pos]
theorem OT (e:Exp)(hs:shp e):(K A).call 153 [expV e] []=some (Ac (decide (e.kind=5/\∃f,e.kids[0]?=some f/\f.kind=4)),[]):=by
 refine fnO v153 ?_;unfold v153;by_cases h5:e.kind=5
 .obtain ⟨f,x,hk,_⟩:=hs.app h5
  by_cases h4:f.kind=4
  .simp(disch:=try exact zd) [h5,hk,h4,qQ,-getElem?_pos]
  .simp(disch:=try exact zd) [h5,hk,h4,qQ,-getElem?_pos]
 .simp(disch:=try exact zd) [h5,-getElem?_pos]
theorem So (e:Exp)(hs:shp e)(hl:e.weight<=687194767360):(K A).call 158 [expV e] []=some (Ac (decide (e.kind=8/\∃k,e.kids[0]?=some k/\(Al k).1.kind=2)),[]):=by
 refine fnO v158 ?_;unfold v158;by_cases h8:e.kind=8
 .obtain⟨k,hk⟩:∃k,e.kids=[k]:=by
   have hkl:e.kids.length=1:=by have:=hs.one.2.2;rw[h8]at this;exact this
   match hkk:e.kids,hkl with
   |[x],_=>exact⟨x,rfl⟩
  have hm:k∈e.children:=AO (by rw[hk];simp);have h1:=Qu (A:=A) k (hs.child hm) (by have:=Exp.child_lt hm;omega);by_cases h2:(Al k).1.kind=2
  .simp(disch:=try exact zd) [h8,hk,h1,h2,qQ,-getElem?_pos]
  .simp(disch:=try exact zd) [h8,hk,h1,h2,qQ,-getElem?_pos]
 .simp(disch:=try exact zd) [h8,-getElem?_pos]
theorem Kr (e:Exp)(x:Str)(b:Exp)(he:okE e)(hb:okE b)(hen:nmL e)(hbn:nmL b)(hel:e.weight<=100000000000)(hbl:b.weight<=100000000000)(hx:x.length<=1000):(K A).call 155 [expV e,strV x,expV b] []=some (expV (subP e x b),[]):=
 OU e x b hb.1 hbl hbn hx hel he.1 he.2.1 hen
theorem Jg {e:Exp}(h:lowE e):e.name.length<=1000:=DQ h _ (A3.2 (.inl rfl))
theorem Zdi {B:Nat}(e f a k:Exp)(hk:e.kids=[f,a])(hf:f.kids=[k])(he:okE e)(hl:lfE e)(hw:Lim B e):(K A).call 154 [expV e] []=some (.tu [expV (subP k f.name a),Ac true],[]):=by
 have hfm:f∈e.children:=AO (by rw[hk];simp);have ham:a∈e.children:=AO (by rw[hk];simp);have hkm:k∈f.children:=AO (by rw[hf];simp);have h1:=Exp.child_lt hfm;have h2:=Exp.child_lt ham;have h3:=Exp.child_lt hkm;have hsm:=hw.sm;have hs:=Kr (A:=A) k f.name a ((he.child hfm).child hkm) (he.child ham) (DQ ((hl.child hfm).child hkm).1) (DQ (hl.child ham).1) (by omega) (by omega) (Jg (hl.child hfm).1)
 have e0:([f,a]:List Exp)[0]?=some f:=rfl;have e1:([f,a]:List Exp)[1]?=some a:=rfl;have e2:([k]:List Exp)[0]?=some k:=rfl;refine fnO v154 ?_;unfold v154;simp(disch:=try exact zd) [hk,hf,hs,e0,e1,e2,GB,Lr,-getElem?_pos]
theorem ZA {B:Nat}(e f a:Exp)(hk:e.kids=[f,a])(he:okE e)(hl:lfE e)(hw:Lim B e):(K A).call 156 [expV e] []=some (.tu [expV (subP a e.name f),Ac true],[]):=by
 have hfm:f∈e.children:=AO (by rw[hk];simp);have ham:a∈e.children:=AO (by rw[hk];simp);have h1:=Exp.child_lt hfm;have h2:=Exp.child_lt ham;have hsm:=hw.sm;have hs:=Kr (A:=A) a e.name f (he.child ham) (he.child hfm) (DQ (hl.child ham).1) (DQ (hl.child hfm).1) (by omega) (by omega) (Jg hl.1);have e0:([f,a]:List Exp)[0]?=some f:=rfl;have e1:([f,a]:List Exp)[1]?=some a:=rfl;refine fnO v156 ?_
 unfold v156;simp(disch:=try exact zd) [hk,hs,e0,e1,GB,Lr,-getElem?_pos]
theorem ZfG {B:Nat}(e f a:Exp)(h7:e.kind=7)(hk:e.kids=[f,a])(he:okE e)(hl:lfE e)(hw:Lim B e):(K A).call 157 [expV e] []=some (.tu [expV (subP a e.name (AG e f)),Ac true],[]):=by
 have hfm:f∈e.children:=AO (by rw[hk];simp);have ham:a∈e.children:=AO (by rw[hk];simp);have h1:=Exp.child_lt hfm;have h2:=Exp.child_lt ham;have hag:=Rb (f:=f) he h7;have hsm:=hw.sm;have hs:=Kr (A:=A) a e.name (AG e f) (he.child ham) (H7 he h7 hfm) (DQ (hl.child ham).1) (DQ (TP he h7 hl hfm).1) (by omega) (by omega) (Jg hl.1);have e0:([f,a]:List Exp)[0]?=some f:=rfl
 have e1:([f,a]:List Exp)[1]?=some a:=rfl;have hrow:wc (AG e f).row=[.c (.int .i64 e.kind),.c (.int .i64 e.pos),.c (.str e.name),.c (.int .i64 e.num),.c (.sl [f.row,f.row]),.c (.sl (Exp.armRows e.arms)),.c (.int .i64 e.ty.kind),.c (.str e.ty.name),.c (.int .i64 e.ty.id),.c (.int .i64 e.ty.home),.c (.sl (Ty.rows e.ty.args))]:=by
  unfold AG;simp[Exp.row,Ty.row_eq,wc,Exp.rows_map]
 have her:wc e.row=[.c (.int .i64 e.kind),.c (.int .i64 e.pos),.c (.str e.name),.c (.int .i64 e.num),.c (.sl [f.row,a.row]),.c (.sl (Exp.armRows e.arms)),.c (.int .i64 e.ty.kind),.c (.str e.ty.name),.c (.int .i64 e.ty.id),.c (.int .i64 e.ty.home),.c (.sl (Ty.rows e.ty.args))]:=by
  rw[Exp.row_eq,hk];simp[wc,Exp.rows_map]
 generalize hG:subP a e.name (AG e f)=G at *
 have hs':(K A).call 155 [expV a,strV e.name,.ag [.c (.int .i64 e.kind),.c (.int .i64 e.pos),.c (.str e.name),.c (.int .i64 e.num),.c (.sl [f.row,f.row]),.c (.sl (Exp.armRows e.arms)),.c (.int .i64 e.ty.kind),.c (.str e.ty.name),.c (.int .i64 e.ty.id),.c (.int .i64 e.ty.home),.c (.sl (Ty.rows e.ty.args))]] []=some (expV G,[]):=by rw[<-hrow];exact hs
 refine fnO v157 ?_;unfold v157;simp(disch:=try exact zd) [her,hs',e0,e1,GB,Lr,-getElem?_pos]
variable {A:Af}
def C3 (e:Exp)(i:Nat):List Str:=e.name::((e.arms.take i).map fun a=>a.1.vars).flatten
def Dr (e:Exp)(i:Nat):List Str:=C3 e e.arms.length++((e.children.take i).map Aj).flatten
theorem Z5 {e:Exp}{i:Nat}{a:ArmH×Exp}(h:e.arms[i]?=some a):C3 e (i+1)=C3 e i++a.1.vars:=by
 unfold C3;rw[Bh h];simp
theorem Zem {e x:Exp}{i:Nat}(h:e.children[i]?=some x):Dr e (i+1)=Dr e i++Aj x:=by
 unfold Dr;rw[Bh h];simp
theorem V2 (e:Exp):Dr e (e.kids.length+e.arms.length)=Aj e:=by
 unfold Dr C3;rw[GP,qj (qg _),qj (by rw[e.children_len];exact qg _)];simp
theorem ZcT (e:Exp)(i:Nat):(C3 e i).length<=e.weight:=by
 have h1:(((e.arms.take i).map fun a=>a.1.vars).flatten).length<=(e.arms.map fun a=>a.1.vars.length).sum:=by
  rw[qa3,qao,qaE];exact DS
 have h2:=e.weight_eq;unfold C3;rw[qG];omega
theorem Zes (e:Exp)(i:Nat):(Dr e i).length<=e.weight:=by
 have h1:=Hz e;have h3:(((e.children.take i).map Aj).flatten).length<=((e.children.map Aj).flatten).length:=by
  rw[qa3,qa3,qao,qao,qaE];exact DS
 have h4:C3 e e.arms.length=e.name::(e.arms.map fun a=>a.1.vars).flatten:=by unfold C3;rw[qj (qg _)]
 rw[GP,qG,qP]at h1;unfold Dr;rw[qP,h4,qG];omega
theorem Zd8 (e:Exp):e.wf->e.weight<=687194767360->(K A).call 205 [expV e] []=some (AM (Aj e),[]):=by
 induction e using Exp.ind with
 |h e ih=>
 intro hwf hl;refine fnO v205 ?_;have hle:=e.children_le;rw[e.children_len]at hle;have h0:C3 e 0=[e.name]:=rfl;have hr:wr (Aq [e.name])=[[W.c (.str e.name)]]:=rfl;have hkt:Dr e 0=C3 e e.arms.length:=by simp[Dr]
 have hend:=V2 e;unfold v205;simp(maxSteps:=9^7) (disch:=try exact zd) [-getElem?_pos];refine Ap (fun i=>⟨[(1,.sc (.ptr 64 0)),(3,.sc (.arr 320 (C3 e i).length)),(12,.sc (.c (.sl (Exp.armRows e.arms)))),(13,intV e.arms.length),(14,intV i)],[(64,some (.box (wc e.row))),(320,some (.arr 1 (wr (Aq (C3 e i))) 0))]⟩) e.arms.length ?_ ?_ ?_
 .simp[h0,hr]
 .intro i hi
  obtain⟨a,ha⟩:=Ae hi;have hs:=Z5 ha;have hlen:=ZcT e (i+1);rw[hs,qP]at hlen;rw[hs];generalize C3 e i=ai at *
  unfold HH;simp(maxSteps:=9^7) (disch:=try exact zd) [hi,ha,-getElem?_pos]
 .rw [<-hkt]
  by_cases hkids:e.kids=[]
  .have harms:e.arms=[]:=qM fun h=>by
    have h8:e.kind=8:=qM fun h8=>h (hwf.one.2.1 h8);have:=hwf.one.1 h8;rw[hkids]at this;simp at this
   have hc:=Dz (A:=A) e hkids harms;rw[hkids,harms]at hend;simp only[qV,qbi]at hend;rw[hend];unfold HH;simp(maxSteps:=9^7) (disch:=try exact zd) [hc,-getElem?_pos];refine Ap (fun i=>⟨[(3,.sc (.arr 320 (Aj e).length)),(24,.sc (.full [])),(25,intV 0),(26,intV i)],[(64,some (.box (wc e.row))),(320,some (.arr 1 (wr (Aq (Aj e))) 0))]⟩) 0 ?_ (fun i hi=>by omega) ?_
   .simp
   .unfold JA
    simp(maxSteps:=9^7) (disch:=try exact zd) [-getElem?_pos]
  .have hc:=B7 (A:=A) e hkids hl
   rw[e.children_len]at hc;unfold HH;simp(maxSteps:=9^7) (disch:=try exact zd) [hc,-getElem?_pos]
   refine Ap (fun i=>⟨[(3,.sc (.arr 320 (Dr e i).length)),(24,.sc (.arr 1568 (e.kids.length+e.arms.length))),(25,intV ((e.kids.length:Int)+e.arms.length)),(26,intV i)],[(64,some (.box (wc e.row))),(320,some (.arr 1 (wr (Aq (Dr e i))) 0)),(1568,some (.arr 11 (wr (Exp.rows e.children)) 0))]⟩) (e.kids.length+e.arms.length) ?_ ?_ ?_
   .simp
   .intro i hi
    have hi2:(i:Int)<(e.kids.length:Int)+e.arms.length:=(by omega);obtain⟨x,hx⟩:=Ae (l:=e.children) (i:=i) (by rw[e.children_len];exact hi);have hm:=qc hx;have hrec:=ih x hm (hwf.child hm) (by have:=Exp.child_lt hm;omega);have hs:=Zem hx;have hlen:=Zes e (i+1);rw[hs,qP]at hlen;rw[hs];generalize Dr e i=ai at *
    generalize Aj x=ux at *
    unfold JA;simp(maxSteps:=9^7) (disch:=try exact zd) [hi,hi2,hx,hrec,-getElem?_pos]
   .rw [hend]
    unfold JA;simp(maxSteps:=9^7) (disch:=try exact zd) [-getElem?_pos]
theorem ZfI (a:ArmH×Exp)(h:Exp):(K A).call 204 [.ag (wc (AH a)),.sc (.ptr 0 0)] [.box (wc h.row)]=some (Ac (decide (a.1.con=h.name)),[.box (wc h.row)]):=by
 refine fnO v204 ?_;unfold v204;simp(disch:=try exact zd) [-getElem?_pos]
def Fb (l:List (ArmH×Exp))(s:Str):Int:=match l.findIdx? (fun a=>a.1.con==s)with
 |some i=>i
 |none=>-1
theorem ZfH {l:List (ArmH×Exp)}{s:Str}{i:Nat}{a:ArmH×Exp}(h:l[i]?=some a)(ha:a.1.con=s)(hn:∀(j:Nat) b,j<i->l[j]?=some b->b.1.con≠s):Fb l s=i:=by
 unfold Fb;have:l.findIdx? (fun x=>x.1.con==s)=some i:=by
  rw[qaD];obtain⟨hi,he⟩:=qf.1 h;refine⟨hi,by rw[he];simpa using ha,fun j hj=>?_⟩;have:=hn j _ hj (qi (by omega));simpa using this
 rw[this]
theorem Za9 {l:List (ArmH×Exp)}{s:Str}(hn:∀(j:Nat) b,j<l.length->l[j]?=some b->b.1.con≠s):Fb l s=-1:=by
 unfold Fb;have:l.findIdx? (fun x=>x.1.con==s)=none:=by
  rw[List.findIdx?_eq_none_iff];intro x hx;obtain⟨j,hj,rfl⟩:=qO hx;have:=hn j _ hj (qi hj);simpa using this
 rw[this]
theorem WO (l:List (ArmH×Exp))(h:Exp)(hl:l.length<=687194767360):(K A).call 203 [.sc (.c (.sl (Exp.armRows l))),.sc (.clo 204 [true] [[.ptr 0 0]])] [.box (wc h.row)]=some (intV (Fb l h.name),[.box (wc h.row)]):=by
 refine fnO v203 ?_;unfold v203;simp(disch:=try exact zd) [-getElem?_pos];refine Ak (fun i s=>(∀(j:Nat) b,j<i->l[j]?=some b->b.1.con≠h.name)/\s=⟨[(0,.sc (.c (.sl (Exp.armRows l)))),(1,.sc (.clo 204 [true] [[.ptr 0 0]])),(7,intV l.length),(8,intV i)],[(0,some (.box (wc h.row)))]⟩) l.length ⟨by omega,by simp⟩ ?_ ?_
 .rintro i s hi ⟨hn,rfl⟩
  obtain⟨a,ha⟩:=Ae hi;have hc:=ZfI (A:=A) a h;unfold Mg;by_cases hca:a.1.con=h.name
  .have hx:=ZfH ha hca hn
   simp(disch:=try exact zd) [hi,ha,hc,hca,hx,-getElem?_pos]
  .simp (disch:=try exact zd) [hi,ha,hc,hca,-getElem?_pos]
   intro j b x hj hb;by_cases hji:j<i
   .exact hn j (b,x) hji hb
   .obtain rfl:j=i:=by omega
    rw[ha]at hb;cases hb;exact hca
 .rintro s ⟨hn,rfl⟩
  have hx:=Za9 hn;unfold Mg;simp(disch:=try exact zd) [hx,-getElem?_pos]
theorem ZaO {l:List (ArmH×Exp)}{s:Str}:(Fb l s=-1/\l.find? (fun a=>a.1.con==s)=none)\/∃(i:Nat) (a:ArmH×Exp),Fb l s=i/\l[i]?=some a/\l.find? (fun a=>a.1.con==s)=some a:=by
 unfold Fb;cases h:l.findIdx? (fun x=>x.1.con==s)with
 |none=>
  refine .inl ⟨rfl,?_⟩;rw[List.findIdx?_eq_none_iff]at h;rw[List.find?_eq_none];intro x hx;simp[h x hx]
 |some i=>
  obtain⟨hi,h1,h2⟩:=qaD.1 h;refine .inr ⟨i,l[i],rfl,qi hi,?_⟩;rw[List.find?_eq_some_iff_getElem];exact⟨h1,i,hi,rfl,fun j hj=>by simpa using h2 j hj⟩
def Jt (e:Exp)(o:Option (Exp×Nat)):V:=match o with
 |some p=>.tu [expV p.1,Ac true]
 |none=>.tu [expV e,Ac false]
def chB (T:List Str)(vars:List Str)(b:Exp)(i:Nat):Exp:=Az ((renL T vars).take i) b
def chS (T:List Str)(args:List Exp)(b:Exp)(i:Nat):Exp:=Az ((argL T args).take i) b
theorem S7 (l:List (Str×Exp))(p:Str×Exp)(b:Exp):Az (l++[p]) b=subP (Az l b) p.1 p.2:=by rw[KK];rfl
theorem XX {T vars:List Str}{b:Exp}{i:Nat}{v:Str}(h:vars[i]?=some v):chB T vars b (i+1)=subP (chB T vars b i) v (varX (AI i T)):=by
 have h2:(renL T vars)[i]?=some (v,varX (AI i T)):=by unfold renL;simp[h]
 unfold chB;rw[Bh h2,S7]
theorem ZaI {T:List Str}{args:List Exp}{b:Exp}{i:Nat}{x:Exp}(h:args[i]?=some x):chS T args b (i+1)=subP (chS T args b i) (AI i T) x:=by
 have h2:(argL T args)[i]?=some (AI i T,x):=by unfold argL;simp[h]
 unfold chS;rw[Bh h2,S7]
theorem U2 (e:Exp):lowE e->∀s∈Aj e,s.length<=1000:=by
 induction e using Exp.ind with
 |h e ih=>
  intro h s hs;rw[GP]at hs;rcases qD.1 hs with rfl|hs
  .exact Jg h
  .rcases qp.1 hs with hs|hs
   .obtain ⟨l,hl,hs⟩:=List.mem_flatten.1 hs
    obtain⟨a,ha,rfl⟩:=qH.1 hl;exact qt (h.one.2.2.2 a ha s hs).1 (by decide)
   .obtain ⟨l,hl,hs⟩:=List.mem_flatten.1 hs
    obtain⟨x,hx,rfl⟩:=qH.1 hl;exact ih x hx (h.child hx) s hs
theorem ZcS {B:Nat}(e k:Exp)(hk:e.kids=[k])(he:okE e)(hl:lfE e)(hw:Lim B e):(K A).call 159 [expV e] []=some (Jt e (Dn subP Aj e (Al k).1.name (Al k).2),[]):=by
 have hsm:=hw.sm;have hwt:=hw.wt;have hkm:k∈e.children:=AO (by rw[hk];simp);have hkl:=Exp.child_lt hkm;have hsk:=(he.child hkm).1;have hsp:=Pa (A:=A) k hsk (by omega);have hal:=e.children_le;rw[e.children_len]at hal;have hix:=WO (A:=A) e.arms (Al k).1 (by omega);have hsl:=Un k hsk;have hus:=Zd8 (A:=A) e he.1.wf (by omega);have hul:=Hz e;refine fnO v159 ?_;unfold v159 Dn
 rcases ZaO (l:=e.arms) (s:=(Al k).1.name)with ⟨h1,h2⟩|⟨i,a,h1,hai,h2⟩
 .rw [h1] at hix
  rw[h2];simp(maxSteps:=9^7) (disch:=try exact zd) [hk,GB,hsp,hix,Jt,-getElem?_pos]
 .rw [h1] at hix
  rw[h2];have hi0:=(qf.1 hai).1;have hin:¬(i:Int)<0:=by omega
  simp only;by_cases hv:a.1.vars.length=(Al k).2.length
  .rw [if_pos hv]
   have hC:CaseOk B e k a:=⟨he,hl,hw,hk,qc hai⟩;have hsum:=hC.sum;have hch:Of subP (GC (Aj e) a.1.vars (Al k).2) a.2=chS (Aj e) (Al k).2 (chB (Aj e) a.1.vars a.2 a.1.vars.length) (Al k).2.length:=by
    unfold chS chB;rw[qj (show(renL (Aj e) a.1.vars).length<=_ by simp[renL]),qj (show(argL (Aj e) (Al k).2).length<=_ by simp[argL]),<-KK];rfl
   have hnmT:∀s∈Aj e,s.length<=281474976710656:=fun s hs=>qt (U2 e hl.1 s hs) (by decide);rw[hch];simp(maxSteps:=9^7) (disch:=try exact zd) [hk,GB,hsp,hix,hin,hai,hi0,hv,hus,Jt,-getElem?_pos];have hfr:∀i:Nat,i<=100000000->(K A).call 207 [intV i,AM (Aj e)] []=some (strV (AI i (Aj e)),[]):=fun i hi=>Su (A:=A) i i (by omega) (by omega) (Aj e) (by omega) (by omega) hnmT
   have hfl:∀i:Nat,i<=100000000->(AI i (Aj e)).length<=1000:=fun i hi=>F7 i (Aj e) (by omega);refine Ap (fun i=>⟨[(2,.sc (.ptr 128 0)),(5,Di (Al k).2),(7,.sc (.ptr 2880 0)),(8,AM (Aj e)),(53,AM a.1.vars),(54,intV (Al k).2.length),(55,intV i)],
    [(64,some (.box (wc e.row))),(128,some (.box [zi,zi,zs,zi,.nil,.nil,zi,zs,zi,zi,.nil])),(768,some (.box (wc (Al k).1.row))),(2880,some (.box (wc (chB (Aj e) a.1.vars a.2 i).row)))]⟩) (Al k).2.length ?_ ?_ ?_
   .simp[chB,Az]
   .intro i hi
    obtain⟨v,hvi⟩:=Ae (l:=a.1.vars) (i:=i) (by omega);obtain⟨r1,r2,r3⟩:=hC.ren i;have hvl:v.length<=1000:=qt (hl.1.one.2.2.2 a hC.am v (qc hvi)).1 (by decide);have hren:=ZS (A:=A) (chB (Aj e) a.1.vars a.2 i) v (AI i (Aj e)) hvl (hfl i (by omega)) (show _<=_ from qt r3 (by omega)) r1.1 r1.2.1 r2;rw[<-XX hvi]at hren;have hf:=hfr i (by omega);have hi2:i<a.1.vars.length:=(by omega);unfold ID
    simp(maxSteps:=9^7) (disch:=try exact zd) [hi,hi2,hvi,hf,hren,-getElem?_pos]
   .have hB:chB (Aj e) a.1.vars a.2 (Al k).2.length=Az (renL (Aj e) a.1.vars) a.2:=by
     unfold chB;rw[qj (by simp[renL];omega)]
    rw[hB];unfold ID;simp(maxSteps:=9^7) (disch:=try exact zd) [-getElem?_pos];refine Ap (fun i=>⟨[(2,.sc (.ptr 128 0)),(7,.sc (.ptr 2880 0)),(8,AM (Aj e)),(67,Di (Al k).2),(68,intV (Al k).2.length),(69,intV i)],
     [(64,some (.box (wc e.row))),(128,some (.box [zi,zi,zs,zi,.nil,.nil,zi,zs,zi,zi,.nil])),(768,some (.box (wc (Al k).1.row))),(2880,some (.box (wc (chS (Aj e) (Al k).2 (Az (renL (Aj e) a.1.vars) a.2) i).row)))]⟩) (Al k).2.length ?_ ?_ ?_
    .simp[chS,Az]
    .intro i hi
     obtain⟨x,hx⟩:=Ae (l:=(Al k).2) (i:=i) hi;obtain⟨s1,s2,s3⟩:=hC.sub i;obtain⟨x1,x2,x3,_⟩:=hC.args x (qc hx);have hsu:=Kr (A:=A) (chS (Aj e) (Al k).2 (Az (renL (Aj e) a.1.vars) a.2) i) (AI i (Aj e)) x s1 x1 s2 (DQ x2.1) (qt s3 hwt) (by omega) (hfl i (by omega));rw[<-ZaI hx]at hsu;have hf:=hfr i (by omega);unfold M0;simp(maxSteps:=9^7) (disch:=try exact zd) [hi,hx,hf,hsu,-getElem?_pos]
    .unfold M0
     simp(maxSteps:=9^7) (disch:=try exact zd) [-getElem?_pos]
  .rw [if_neg hv]
   have hv':¬(a.1.vars.length:Int)=(Al k).2.length:=(by omega);simp(maxSteps:=9^7) (disch:=try exact zd) [hk,GB,hsp,hix,hin,hai,hi0,hv,hv',Jt,-getElem?_pos]
variable {A:Af}
def Zgl (o:Option (Exp×Nat))(r:V×List Obj):Prop:=match o with
 |some p=>r=(.tu [expV p.1,intV p.2,Ac true],[])
 |none=>∃(x:Exp) (m:Int),r=(.tu [expV x,intV m,Ac false],[])
def BD (e:Exp)(i:Nat):St:=⟨[(1,.sc (.ptr 64 0)),(2,.sc (.ptr 128 0)),(13,.sc (.arr 352 6)),(14,intV 6),(15,intV i)],
 [(64,some (.box (wc e.row))),(128,some (.box [zi,zi,zs,zi,.nil,.nil,zi,zs,zi,zi,.nil])),(352,some (.arr 2 (AR 353 354 355 356) 0)),(353,some (.box [.c (.int .i64 6)])),(354,some (.box [.c (.int .i64 7)])),(355,some (.box [.c (.int .i64 9)])),(356,some (.box [.c (.int .i64 11)]))]⟩
def Cc (e:Exp)(i:Nat):Prop:=(i=0/\e.kind=5/\∃f,e.kids[0]?=some f/\f.kind=4)\/(i=1/\e.kind=6)\/(i=2/\e.kind=7)\/(i=3/\e.kind=8/\∃k,e.kids[0]?=some k/\(Al k).1.kind=2)\/(i=4/\e.kind=9)\/(i=5/\e.kind=11)
theorem Od (e:Exp)(hs:shp e)(hl:e.weight<=687194767360)(i:Nat)(hi:i<6)(hno:¬Cc e i):wp (K A) Cz (fun x s'=>x=.normal/\s'=BD e (i+1)) (BD e i):=by
 have h0:=OT (A:=A) e hs;have h3:=So (A:=A) e hs hl;have h1:=fun k=>R5 (A:=A) k e;have hi6:(i:Int)<6:=by omega
 unfold Cc at hno;have:i=0\/i=1\/i=2\/i=3\/i=4\/i=5:=by omega
 have g0:(AR 353 354 355 356)[0]?=some [.c (.fn 153 [] []),.c (.fn 154 [] [])]:=rfl;have g1:(AR 353 354 355 356)[1]?=some [.clo 151 [true] [[.ptr 353 0]],.c (.fn 156 [] [])]:=rfl;have g2:(AR 353 354 355 356)[2]?=some [.clo 151 [true] [[.ptr 354 0]],.c (.fn 157 [] [])]:=rfl;have g3:(AR 353 354 355 356)[3]?=some [.c (.fn 158 [] []),.c (.fn 159 [] [])]:=rfl
 have g4:(AR 353 354 355 356)[4]?=some [.clo 151 [true] [[.ptr 355 0]],.c (.fn 152 [] [])]:=rfl;have g5:(AR 353 354 355 356)[5]?=some [.clo 151 [true] [[.ptr 356 0]],.c (.fn 152 [] [])]:=rfl;have gl:(AR 353 354 355 356).length=6:=rfl;have gren:(AR 353 354 355 356).map (fun x=>x.map (W.ren (BE [768,1184,1185,1186,1440,1441,1442,1664]) 4))=AR 353 354 355 356:=rfl;have m2:Ax (intV 2) 6=some 2:=rfl
 have m3:Ax (intV 3) 6=some 3:=rfl;have m4:Ax (intV 4) 6=some 4:=rfl;have m5:Ax (intV 5) 6=some 5:=rfl;rcases this with rfl|rfl|rfl|rfl|rfl|rfl
 .have hd:decide (e.kind=5/\∃ f,e.kids[0]?=some f/\f.kind=4)=false:=by simpa using hno
  rw[hd]at h0;unfold Cz BD;generalize AR 353 354 355 356=RR at *
  simp(maxSteps:=9^7) (disch:=try exact zd) [h0,g0,gl,gren,m2,m3,m4,m5,-getElem?_pos]
 .have hd:¬e.kind=6:=by simpa using hno
  have hc:=h1 6;unfold Cz BD;generalize AR 353 354 355 356=RR at *
  simp(maxSteps:=9^7) (disch:=try exact zd) [hc,hd,g1,gl,gren,m2,m3,m4,m5,-getElem?_pos]
 .have hd:¬e.kind=7:=by simpa using hno
  have hc:=h1 7;unfold Cz BD;generalize AR 353 354 355 356=RR at *
  simp(maxSteps:=9^7) (disch:=try exact zd) [hc,hd,g2,gl,gren,m2,m3,m4,m5,-getElem?_pos]
 .have hd:decide (e.kind=8/\∃ k,e.kids[0]?=some k/\(Al k).1.kind=2)=false:=by simpa using hno
  rw[hd]at h3;unfold Cz BD;generalize AR 353 354 355 356=RR at *
  simp(maxSteps:=9^7) (disch:=try exact zd) [h3,g3,gl,gren,m2,m3,m4,m5,-getElem?_pos]
 .have hd:¬e.kind=9:=by simpa using hno
  have hc:=h1 9;unfold Cz BD;generalize AR 353 354 355 356=RR at *
  simp(maxSteps:=9^7) (disch:=try exact zd) [hc,hd,g4,gl,gren,m2,m3,m4,m5,-getElem?_pos]
 .have hd:¬e.kind=11:=by simpa using hno
  have hc:=h1 11;unfold Cz BD;generalize AR 353 354 355 356=RR at *
  simp(maxSteps:=9^7) (disch:=try exact zd) [hc,hd,g5,gl,gren,m2,m3,m4,m5,-getElem?_pos]
def aidN (i:Nat):Nat:=if i=0 then 154 else if i=1 then 156 else if i=2 then 157 else if i=3 then 159 else 152
theorem FR (e:Exp)(hs:shp e)(hl:e.weight<=687194767360)(i:Nat)(hi:i<6)(hno:∀j,j<i->¬Cc e j)(ha:Cc e i)(x:Exp)(b:Bool)(hc:(K A).call (aidN i) [expV e] []=some (.tu [expV x,Ac b],[])):
 (K A).call 48 [expV e] []=some (.tu [expV x,intV (i+1),Ac b],[]):=by
 have hrl:=Ns (A:=A);have h0:=OT (A:=A) e hs;have h3:=So (A:=A) e hs hl;have h1:=fun k=>R5 (A:=A) k e;have g0:(AR 353 354 355 356)[0]?=some [.c (.fn 153 [] []),.c (.fn 154 [] [])]:=rfl;have g1:(AR 353 354 355 356)[1]?=some [.clo 151 [true] [[.ptr 353 0]],.c (.fn 156 [] [])]:=rfl;have g2:(AR 353 354 355 356)[2]?=some [.clo 151 [true] [[.ptr 354 0]],.c (.fn 157 [] [])]:=rfl
 have g3:(AR 353 354 355 356)[3]?=some [.c (.fn 158 [] []),.c (.fn 159 [] [])]:=rfl;have g4:(AR 353 354 355 356)[4]?=some [.clo 151 [true] [[.ptr 355 0]],.c (.fn 152 [] [])]:=rfl;have g5:(AR 353 354 355 356)[5]?=some [.clo 151 [true] [[.ptr 356 0]],.c (.fn 152 [] [])]:=rfl;have gl:(AR 353 354 355 356).length=6:=rfl
 have gr:(AR 1 2 3 4).map (fun x=>x.map (W.ren (nthN [352,353,354,355,356]) 4))=AR 353 354 355 356:=rfl;have m2:Ax (intV 2) 6=some 2:=rfl;have m3:Ax (intV 3) 6=some 3:=rfl;have m4:Ax (intV 4) 6=some 4:=rfl;have m5:Ax (intV 5) 6=some 5:=rfl;refine fnO v48 ?_;unfold v48;simp(maxSteps:=9^7) (disch:=try exact zd) [hrl,gl,gr,-getElem?_pos]
 refine Ap (BD e) i (by simp[BD]) (fun j hj=>Od e hs hl j (by omega) (hno j hj)) ?_;clear hrl gr;have hi6:i=0\/i=1\/i=2\/i=3\/i=4\/i=5:=by omega
 unfold Cc at ha;rcases hi6 with rfl|rfl|rfl|rfl|rfl|rfl
 .replace hc:(K A).call 154 [expV e] []=some (.tu [expV x,Ac b],[]):=hc
  have hd:decide (e.kind=5/\∃f,e.kids[0]?=some f/\f.kind=4)=true:=by simpa using ha
  rw[hd]at h0;unfold Cz BD;generalize AR 353 354 355 356=RR at *
  simp(maxSteps:=9^7) (disch:=try exact zd) [h0,hc,g0,gl,m2,m3,m4,m5,-getElem?_pos]
 .replace hc:(K A).call 156 [expV e] []=some (.tu [expV x,Ac b],[]):=hc
  have hd:e.kind=6:=by simpa using ha
  have hk:=h1 6;unfold Cz BD;generalize AR 353 354 355 356=RR at *
  simp(maxSteps:=9^7) (disch:=try exact zd) [hk,hd,hc,g1,gl,m2,m3,m4,m5,-getElem?_pos]
 .replace hc:(K A).call 157 [expV e] []=some (.tu [expV x,Ac b],[]):=hc
  have hd:e.kind=7:=by simpa using ha
  have hk:=h1 7;unfold Cz BD;generalize AR 353 354 355 356=RR at *
  simp(maxSteps:=9^7) (disch:=try exact zd) [hk,hd,hc,g2,gl,m2,m3,m4,m5,-getElem?_pos]
 .replace hc:(K A).call 159 [expV e] []=some (.tu [expV x,Ac b],[]):=hc
  have hd:decide (e.kind=8/\∃k,e.kids[0]?=some k/\(Al k).1.kind=2)=true:=by simpa using ha
  rw[hd]at h3;unfold Cz BD;generalize AR 353 354 355 356=RR at *
  simp(maxSteps:=9^7) (disch:=try exact zd) [h3,hc,g3,gl,m2,m3,m4,m5,-getElem?_pos]
 .replace hc:(K A).call 152 [expV e] []=some (.tu [expV x,Ac b],[]):=hc
  have hd:e.kind=9:=by simpa using ha
  have hk:=h1 9;unfold Cz BD;generalize AR 353 354 355 356=RR at *
  simp(maxSteps:=9^7) (disch:=try exact zd) [hk,hd,hc,g4,gl,m2,m3,m4,m5,-getElem?_pos]
 .replace hc:(K A).call 152 [expV e] []=some (.tu [expV x,Ac b],[]):=hc
  have hd:e.kind=11:=by simpa using ha
  have hk:=h1 11;unfold Cz BD;generalize AR 353 354 355 356=RR at *
  simp(maxSteps:=9^7) (disch:=try exact zd) [hk,hd,hc,g5,gl,m2,m3,m4,m5,-getElem?_pos]
theorem R7 (e:Exp)(hs:shp e)(hl:e.weight<=687194767360)(hno:∀j,j<6->¬Cc e j)(h5:e.kind≠5)(h8:e.kind≠8):(K A).call 48 [expV e] []=some (.tu [expV e,intV 0,Ac false],[]):=by
 have hrl:=Ns (A:=A);have gl:(AR 353 354 355 356).length=6:=rfl;have gr:(AR 1 2 3 4).map (fun x=>x.map (W.ren (nthN [352,353,354,355,356]) 4))=AR 353 354 355 356:=rfl;refine fnO v48 ?_;unfold v48;simp(maxSteps:=9^7) (disch:=try exact zd) [hrl,gl,gr,-getElem?_pos];refine Ap (BD e) 6 (by simp[BD]) (fun j hj=>Od e hs hl j (by omega) (hno j hj)) ?_;clear hrl gr;unfold Cz BD
 generalize AR 353 354 355 356=RR at *
 simp(maxSteps:=9^7) (disch:=try exact zd) [h5,h8,gl,-getElem?_pos]
theorem Yt (e f x:Exp)(m:Int)(b:Bool)(hs:shp e)(hl:e.weight<=687194767360)(hno:∀j,j<6->¬Cc e j)(h58:e.kind=5\/e.kind=8)(hf:e.kids[0]?=some f)(hc:(K A).call 48 [expV f] []=some (.tu [expV x,intV m,Ac b],[])):
 (K A).call 48 [expV e] []=some (.tu [expV (AN e (x::e.children.tail)),intV m,Ac b],[]):=by
 have hrl:=Ns (A:=A);have gl:(AR 353 354 355 356).length=6:=rfl;have gr:(AR 1 2 3 4).map (fun x=>x.map (W.ren (nthN [352,353,354,355,356]) 4))=AR 353 354 355 356:=rfl;have hkl:0<e.kids.length:=by
  cases hh:e.kids with
  |nil=>rw[hh]at hf;simp at hf
  |cons a l=>simp
 have hne:e.kids≠[]:=fun h=>by rw[h]at hkl;simp at hkl
 have hle:=e.children_le;rw[e.children_len]at hle;have hch:=B7 (A:=A) e hne hl;have hcl:=e.children_len;have hset:e.children.set 0 x=x::e.children.tail:=by
  cases hh:e.children with
  |nil=>rw[hh]at hcl;simp at hcl;omega
  |cons a l=>rfl
 have hrs:setRow (wr (Exp.rows e.children)) 0 (wc x.row)=wr (Exp.rows (x::e.children.tail)):=by rw[Eh,hset]
 have hCl:(x::e.children.tail).length=e.kids.length+e.arms.length:=by rw[<-hset,List.length_set,hcl]
 have hw:=FM (A:=A) e (x::e.children.tail) hCl hl;have hg0:∃c,e.children[0]?=some c:=Ae (by omega);obtain⟨c0,hg0⟩:=hg0;rw[hcl]at hch;have hrow':=DA e
 have hrowW:wc (AN e (x::e.children.tail)).row=[.c (.int .i64 e.kind),.c (.int .i64 e.pos),.c (.str e.name),.c (.int .i64 e.num),.c (.sl (Exp.rows ((x::e.children.tail).take e.kids.length))),.c (.sl (Exp.armRows (AE e.arms ((x::e.children.tail).drop e.kids.length)))),.c (.int .i64 e.ty.kind),.c (.str e.ty.name),.c (.int .i64 e.ty.id),.c (.int .i64 e.ty.home),.c (.sl (Ty.rows e.ty.args))]:=by rw[Exp.row_eq];rfl
 have hkW:((x::e.children.tail).take e.kids.length).length=e.kids.length:=by rw[qX,hCl];omega
 have haW:(AE e.arms ((x::e.children.tail).drop e.kids.length)).length=e.arms.length:=by rw[armsW_len,qae,hCl];omega
 refine fnO v48 ?_;unfold v48;simp(maxSteps:=9^7) (disch:=try exact zd) [hrl,gl,gr,-getElem?_pos];refine Ap (BD e) 6 (by simp[BD]) (fun j hj=>Od e hs hl j (by omega) (hno j hj)) ?_;clear hrl gr;unfold Cz BD;generalize AR 353 354 355 356=RR at *
 generalize x::e.children.tail=cs at *
 simp only[expV,hrow']at hch hw;rcases h58 with h5|h5
 .simp only [h5] at hch hw hrowW
  simp(maxSteps:=9^7) (disch:=try exact zd) [h5,gl,hf,hc,hch,hrs,hg0,hw,hrowW,hCl,hkW,haW,hrow',-getElem?_pos]
 .simp only [h5] at hch hw hrowW
  simp(maxSteps:=9^7) (disch:=try exact zd) [h5,gl,hf,hc,hch,hrs,hg0,hw,hrowW,hCl,hkW,haW,hrow',-getElem?_pos]
theorem Zdk {e:Exp}(hs:shp e)(h:e.kind=5\/e.kind=6\/e.kind=7):∃f a,e.kids=[f,a]:=by
 have h1:=hs.one.2.2;unfold DN at h1;rw[if_pos h]at h1
 match hk:e.kids with
 |[f,a]=>exact⟨f,a,rfl⟩
 |[]=>rw[hk]at h1;simp at h1
 |[_]=>rw[hk]at h1;simp at h1
 |_::_::_::_=>rw[hk]at h1;simp at h1
theorem PK {e:Exp}(hs:shp e)(h:e.kind=4\/e.kind=8\/e.kind=9\/e.kind=11):∃k,e.kids=[k]:=by
 have h1:=hs.one.2.2;unfold DN at h1;rw[if_neg (by omega),if_pos h]at h1
 match hk:e.kids with
 |[f]=>exact⟨f,rfl⟩
 |[]=>rw[hk]at h1;simp at h1
 |_::_::_=>rw[hk]at h1;simp at h1
theorem Zdb {e:Exp}(hs:shp e)(h:¬(e.kind=5\/e.kind=6\/e.kind=7))(h2:¬(e.kind=4\/e.kind=8\/e.kind=9\/e.kind=11)):e.kids=[]:=by
 have h1:=hs.one.2.2;unfold DN at h1;rw[if_neg h,if_neg h2]at h1;exact qN.1 h1
def Rh (A:Af)(n:Nat)(e:Exp):Prop:=∃(x:Exp) (m:Int) (b:Bool),(K A).call 48 [expV e] []=some (.tu [expV x,intV m,Ac b],[])/\
 ((b=true/\∃m':Nat,m=m'/\AV subP Aj AG n e=some (x,m'))\/(b=false/\AV subP Aj AG n e=none))
theorem Tw {B:Nat}:∀(n:Nat) (e:Exp),e.weight<=n->okE e->lfE e->Lim B e->Rh A n e
 |0,e,h,_,_,_=>by have:=e.weight_pos;omega
 |n+1,e,hn,he,hl,hw=>by
  have hs:=he.1;have hsm:=hw.sm;have hwl:e.weight<=687194767360:=by omega
  have down:∀f,e.kids[0]?=some f->(e.kind=5\/e.kind=8)->(∀j,j<6->¬Cc e j)->(AV subP Aj AG (n+1) e=(AV subP Aj AG n f).map fun p=>(AN e (p.1::e.children.tail),p.2))->Rh A (n+1) e:=by
   intro f hf h58 hno hg;have hm:f∈e.children:=AO (qc hf);have hlt:=Exp.child_lt hm;obtain⟨x,m,b,hc,hb⟩:=Tw n f (by omega) (he.child hm) (hl.child hm) (hw.child hm);refine⟨_,m,b,Yt e f x m b hs hwl hno h58 hf hc,?_⟩;rw[hg];rcases hb with ⟨hb,m',hm',h1⟩|⟨hb,h1⟩
   .exact .inl ⟨hb,m',hm',by rw[h1];rfl⟩
   .exact .inr ⟨hb,by rw[h1];rfl⟩
  by_cases h2:e.kind=5\/e.kind=6\/e.kind=7
  .obtain ⟨f,a,hk⟩:=Zdk hs h2
   have hf:e.kids[0]?=some f:=(by rw[hk];rfl);have hfm:f∈e.children:=AO (qc hf);rcases h2 with h5|h6|h7
   .by_cases h4:f.kind=4
    .obtain ⟨k,hfk⟩:=PK (hs.child hfm) (.inl h4)
     refine⟨_,_,true,FR e hs hwl 0 (by omega) (fun j hj=>by omega) (.inl ⟨rfl,h5,f,hf,h4⟩) _ true (Zdi e f a k hk hfk he hl hw),.inl ⟨rfl,1,rfl,?_⟩⟩;unfold AV;rw[hk];simp[h5,h4,hfk]
    .refine down f hf (.inl h5) (fun j _ ha => ?_) ?_
     .unfold Cc at ha
      rcases ha with ⟨_,_,g,hg,h⟩|⟨_,h⟩|⟨_,h⟩|⟨_,h,_⟩|⟨_,h⟩|⟨_,h⟩
      .rw[hf]at hg;obtain rfl:=qaN hg;exact h4 h
      all_goals omega
     .conv=>lhs;unfold AV
      rw[hk];simp[h5,h4]
   .refine ⟨_,_,true,FR e hs hwl 1 (by omega) (fun j hj ha => ?_) (.inr (.inl ⟨rfl,h6⟩)) _ true (ZA e f a hk he hl hw),.inl ⟨rfl,2,rfl,?_⟩⟩
    .unfold Cc at ha;omega
    .unfold AV
     rw[hk];simp[h6]
   .refine ⟨_,_,true,FR e hs hwl 2 (by omega) (fun j hj ha => ?_) (.inr (.inr (.inl ⟨rfl,h7⟩))) _ true (ZfG e f a h7 hk he hl hw),.inl ⟨rfl,3,rfl,?_⟩⟩
    .unfold Cc at ha;omega
    .unfold AV
     rw[hk];simp[h7]
  .by_cases h1:e.kind=4\/e.kind=8\/e.kind=9\/e.kind=11
   .obtain ⟨k,hk⟩:=PK hs h1
    have hf:e.kids[0]?=some k:=(by rw[hk];rfl);rcases h1 with h4|h8|h9|h11
    .refine ⟨_,_,false,R7 e hs hwl (fun j hj ha => ?_) (by omega) (by omega),.inr ⟨rfl,?_⟩⟩
     .unfold Cc at ha;omega
     .unfold AV
      rw[hk];simp[h4]
    .by_cases hm:(Al k).1.kind=2
     .have hc:=ZcS (A:=A) e k hk he hl hw
      have hg:AV subP Aj AG (n+1) e=Dn subP Aj e (Al k).1.name (Al k).2:=by
       conv=>lhs;unfold AV
       rw[hk];have hsp:=Jd k.weight k [] (qg _) (hs.child (AO (qc hf)));simp[h8,hsp,hm]
      cases ho:Dn subP Aj e (Al k).1.name (Al k).2 with
      |none=>
       rw[ho]at hc;exact⟨_,_,false,FR e hs hwl 3 (by omega) (fun j hj ha=>by unfold Cc at ha;omega) (.inr (.inr (.inr (.inl ⟨rfl,h8,k,hf,hm⟩)))) _ false hc,.inr ⟨rfl,by rw[hg,ho]⟩⟩
      |some p=>
       rw[ho]at hc;refine⟨_,_,true,FR e hs hwl 3 (by omega) (fun j hj ha=>by unfold Cc at ha;omega) (.inr (.inr (.inr (.inl ⟨rfl,h8,k,hf,hm⟩)))) _ true hc,.inl ⟨rfl,4,rfl,?_⟩⟩;rw[hg,ho];have h4:p.2=4:=by
        unfold Dn at ho;split at ho
        .cases ho
        .split at ho
         .exact(congrArg Prod.snd (qaN ho)).symm
         .cases ho
       rw[<-h4]
     .refine down k hf (.inr h8) (fun j _ ha => ?_) ?_
      .unfold Cc at ha
       rcases ha with ⟨_,h,_⟩|⟨_,h⟩|⟨_,h⟩|⟨_,_,g,hg,h⟩|⟨_,h⟩|⟨_,h⟩
       .omega
       .omega
       .omega
       .rw[hf]at hg;obtain rfl:=qaN hg;exact hm h
       .omega
       .omega
      .conv=>lhs;unfold AV
       rw[hk];have hsp:=Jd k.weight k [] (qg _) (hs.child (AO (qc hf)));simp[h8,hsp,hm]
    .refine ⟨_,_,true,FR e hs hwl 4 (by omega) (fun j hj ha => ?_) (.inr (.inr (.inr (.inr (.inl ⟨rfl,h9⟩))))) _ true (RT e k hf),.inl ⟨rfl,5,rfl,?_⟩⟩
     .unfold Cc at ha;omega
     .unfold AV
      rw[hk];simp[h9]
    .refine ⟨_,_,true,FR e hs hwl 5 (by omega) (fun j hj ha => ?_) (.inr (.inr (.inr (.inr (.inr ⟨rfl,h11⟩))))) _ true (RT e k hf),.inl ⟨rfl,6,rfl,?_⟩⟩
     .unfold Cc at ha;omega
     .unfold AV
      rw[hk];simp[h11]
   .refine ⟨_,_,false,R7 e hs hwl (fun j hj ha => ?_) (by omega) (by omega),.inr ⟨rfl,?_⟩⟩
    .unfold Cc at ha;omega
    .unfold AV
     rw[Zdb hs h2 h1]
variable {A:Af}
def Gg (e:Exp)(o:Option (Exp×Nat)):V×List Obj:=match o with
 |some p=>(.tu [expV (Ai p.1),intV p.2,Ac true],[])
 |none=>(.tu [expV e,intV 0,Ac false],[])
theorem Qr {B:Nat}(u:List (List Cell))(e:Exp)(h:StE e)(hw:Lim B e):(K A).call 16 [.sc (.c (.sl u)),expV e] []=some (Gg e (AV subP Aj AG e.weight e)):=by
 have hsm:=hw.sm;have hv:=XJ (A:=A) e h (by omega);obtain⟨x,m,b,hc,hb⟩:=Tw (A:=A) e.weight e (qg _) h.ok h.lf hw;refine fnO v16 ?_;rcases hb with ⟨rfl,m',rfl,hs⟩|⟨rfl,hs⟩
 .have hx:=Hp _ e _ (qg _) h.ok h.lf hw hs
  have hst:=Qq (A:=A) x (Jc (fun e f he hk hf=>H7 he hk hf) _ e _ h.ok hs).1.wf (by
   have h1:=hx.1;have h2:=hw.wt;simp only at h1;omega)
  rw[hs];unfold v16 Gg;simp(maxSteps:=9^7) (disch:=try exact zd) [hv,hc,hst,-getElem?_pos]
 .rw [hs]
  unfold v16 Gg;simp(maxSteps:=9^7) (disch:=try exact zd) [hv,hc,-getElem?_pos]
def Zge (cur:Exp)(acc:List Exp):St:=if acc=[] then ⟨[(1,.sc (.ptr 64 0)),(2,.sc (.ptr 128 0)),(4,.sc .nil)],[(64,some (.box (wc cur.row))),(128,some (.box [zi,zi,zs,zi,.nil,.nil,zi,zs,zi,zi,.nil]))]⟩
 else ⟨[(1,.sc (.ptr 64 0)),(2,.sc (.ptr 128 0)),(4,Di acc)],[(64,some (.box (wc cur.row))),(128,some (.box [zi,zi,zs,zi,.nil,.nil,zi,zs,zi,zi,.nil])),(768,some (.arr 11 (wr (Exp.rows acc)) acc.length))]⟩
variable {A:Af}
def runP:Nat->Exp->Exp×Nat
 |0,e=>(e,0)
 |k+1,e=>match AV subP Aj AG e.weight e with
  |none=>(e,0)
  |some p=>if 2000<AP e then (e,0) else ((runP k (Ai p.1)).1,(runP k (Ai p.1)).2+1)
theorem FE {k:Nat}{e:Exp}(h:AV subP Aj AG e.weight e=none):runP k e=(e,0):=by
 cases k with
 |zero=>rfl
 |succ k=>simp only[runP,h]
theorem FS {k:Nat}{e:Exp}(h:2000<AP e):runP k e=(e,0):=by
 cases k with
 |zero=>rfl
 |succ k=>
  simp only[runP];split
  .rfl
  .rw[if_pos h]
theorem FW {k:Nat}{e:Exp}{p:Exp×Nat}(h:AV subP Aj AG e.weight e=some p)(hn:¬2000<AP e):runP (k+1) e=((runP k (Ai p.1)).1,(runP k (Ai p.1)).2+1):=by
 simp only[runP,h,if_neg hn]
theorem Jy:∀(k:Nat)(e:Exp),(runP k e).2<=k
 |0,_=>qg _
 |k+1,e=>by
  cases h:AV subP Aj AG e.weight e with
  |none=>rw[FE h];exact qac _
  |some p=>
   by_cases hn:2000<AP e
   .rw[FS hn];exact qac _
   .rw [FW h hn]
    have:=Jy k (Ai p.1);simp only;omega
theorem ZdC {k:Nat}{e:Exp}(h:(runP k e).2=0):runP k e=(e,0):=by
 cases k with
 |zero=>rfl
 |succ k=>
  cases hp:AV subP Aj AG e.weight e with
  |none=>exact FE hp
  |some p=>
   by_cases hn:2000<AP e
   .exact FS hn
   .rw [FW hp hn] at h
    simp only at h;omega
theorem Ql:∀(i k:Nat)(e:Exp),runP (i+k) e=((runP k (runP i e).1).1,(runP i e).2+(runP k (runP i e).1).2)
 |0,k,e=>by simp[runP]
 |i+1,k,e=>by
  cases h:AV subP Aj AG e.weight e with
  |none=>rw[FE h,FE h,FE h];rfl
  |some p=>
   by_cases hn:2000<AP e
   .rw[FS hn,FS hn,FS hn];rfl
   .rw [show i+1+k=i+k+1 by omega,FW h hn,FW h hn,Ql i k]
    simp only;rw[Nat.add_right_comm]
theorem Ze1 (a:Exp):∀b,sameP a b->∀ρ,cV b ρ<=cV a ρ:=by
 induction a using Exp.ind with
 |h a ih=>
  intro b h ρ;have hs:=BT.1 h;have hk:a.kind=b.kind:=hs.1.1;by_cases h1:a.kind=1
  .rw [Dl h1,Dl (hk▸h1),hs.1.2.1]
   exact qg _
  .rw [Dm h1,Dm (hk▸h1)]
   refine Ff _ _ 0 h.kids_len.symm fun i y x hy hx=>?_;obtain⟨y',hy',hxy⟩:=h.kid hx;rw[hy]at hy';cases hy';simp only;rw[<-Gn h];exact ih x (qc hx) y hxy _
theorem XE {B:Nat}(a:Exp):∀b,sameP a b->occB B a->occB B b:=by
 induction a using Exp.ind with
 |h a ih=>
  intro b h hb;have get:∀(i:Nat) y,b.children[i]?=some y->∃x,a.children[i]?=some x/\sameP x y:=fun i y hy=>by
   obtain⟨x,hx⟩:=Ae (l:=a.children) (i:=i) (by have:=h.kids_len;have:=(qf.1 hy).1;omega);obtain⟨y',hy',hxy⟩:=h.kid hx;rw[hy]at hy';cases hy';exact⟨x,hx,hxy⟩
  rw[Fg];refine⟨fun i y hy u hu=>?_,fun y hy=>?_⟩
  .obtain ⟨x,hx,hxy⟩:=get i y hy
   exact qt (Ze1 x y hxy _) (hb.one i x hx u (Gn h i▸hu))
  .obtain ⟨i,hi⟩:=qn.1 hy
   obtain⟨x,hx,hxy⟩:=get i y hi;exact ih x (qc hx) y hxy (hb.child (qc hx))
theorem IU (e:Exp):posE e->Ai e=e:=by
 induction e using Exp.ind with
 |h e ih=>
  intro h;have hm:e.children.map Ai=e.children:=by
   rw[qK (g:=id) fun x hx=>ih x hx (h.child hx)];simp
  have ha:List.zipWith (fun(a:ArmH×Exp) c=>((⟨0,a.1.con,a.1.vars⟩:ArmH),c)) e.arms (e.arms.map (·.2))=e.arms:=by
   have h2:=h.one.2;generalize e.arms=l at h2
   induction l with
   |nil=>rfl
   |cons a l il=>
    obtain⟨⟨p,c,v⟩,x⟩:=a;have h3:p=0:=h2 (⟨p,c,v⟩,x) (by simp);simp only[qu,List.zipWith_cons_cons,il fun a ha=>h2 a (by simp[ha]),h3]
  rw[E8,hm];unfold DC Exp.children;rw[List.take_left,List.drop_left,ha,<-h.one.1];cases e;rfl
def OkR (e:Exp):Prop:=StE e/\∃B,Lim B e
theorem OkR.next {e:Exp}(h:OkR e){p:Exp×Nat}(hp:AV subP Aj AG e.weight e=some p)(hn:¬2000<AP e):OkR (Ai p.1):=by
 have hw:=YZ e h.1.lf.2;have hl:Lim 2000 e:=⟨M7 e (by omega),by omega,by omega⟩;obtain⟨h1,h2,_⟩:=Hp e.weight e p (qg _) h.1.ok h.1.lf hl hp;have hs:=VF p.1;exact⟨h.1.step hl (by omega) hp,2000,XE _ _ (Ir p.1) h2,by omega,by omega⟩
theorem OkR.run:∀(k:Nat){e:Exp},OkR e->OkR (runP k e).1
 |0,_,h=>h
 |k+1,e,h=>by
  cases hp:AV subP Aj AG e.weight e with
  |none=>rw[FE hp];exact h
  |some p=>
   by_cases hn:2000<AP e
   .rw[FS hn];exact h
   .rw [FW hp hn]
    exact OkR.run k (h.next hp hn)
theorem Np:∀(n:Nat)(e:Exp)(p:Exp×Nat),AV subP Aj AG n e=some p->p.2≠0
 |0,_,_,h=>by cases h
 |n+1,e,p,h=>by
  have ih:=Np n;unfold AV Dn at h;grind[qr]
abbrev Zeu:List W:=[zi,zi,zs,zi,.nil,.nil,zi,zs,zi,zi,.nil]
def RunS (u:List (List Cell))(k:Nat)(e:Exp)(i:Nat)(t:List (Nat×Option Obj)):St:=⟨[(0,.sc (.c (.sl u))),(2,intV k),(4,.sc (.ptr 64 0)),(6,.sc (.ptr 128 0)),(9,intV i)],(64,some (.box (wc e.row)))::(128,some (.box Zeu))::t⟩
def RunT (t:List (Nat×Option Obj)):Prop:=t=[]\/∃c,t=[(1280,some (.box c))]
def kP (k:Int):Nat:=(min (max k 0) 300).toNat
theorem Li (u:List (List Cell))(e:Exp)(k:Int)(h:OkR e):(K A).call 33 [.sc (.c (.sl u)),expV e,intV k] []=some (.tu [expV (Ai (runP (kP k) e).1),intV ((runP (kP k) e).2:Nat),Ac (decide (valP (runP (kP k) e).1))],[]):=by
 refine fnO v33 ?_;have hk:(if (300:Int)<(if (0:Int)>k then 0 else k) then (300:Int) else (if (0:Int)>k then 0 else k))=(kP k:Int):=by
  unfold kP;split<;>split at *<;>omega
 have hk3:kP k<=300:=by unfold kP;omega
 generalize kP k=n at *
 unfold v33;simp(maxSteps:=9^7) (disch:=try exact zd) [hk,-getElem?_pos];refine Ak (fun i s=>∃cur t,OkR cur/\RunT t/\i<=n/\runP n e=((runP (n-i) cur).1,(runP (n-i) cur).2+i)/\s=RunS u n cur i t) (runP n e).2 ⟨e,[],h,.inl rfl,qac _,rfl,by simp[RunS]⟩ ?_ ?_
 .rintro i s hi ⟨cur,t,hok,ht,hin,hr,rfl⟩
  have h2:=congrArg Prod.snd hr;simp only at h2;obtain⟨j,hj⟩:∃j,n-i=j+1:=⟨n-i-1,by have:=Jy (n-i) cur;omega⟩;obtain⟨hst,B,hB⟩:=hok;have h16:=Qr (A:=A) u cur hst hB;have h71:=Rm (A:=A) cur hst.ok.1.wf (by have:=hB.sm;omega);rw[hj]at hr h2;cases hp:AV subP Aj AG cur.weight cur with
  |none=>
   rw[FE hp]at h2;simp only at h2;omega
  |some p=>
   by_cases hn:2000<AP cur
   .rw [FS hn] at h2
    simp only at h2;omega
   .rw [FW hp hn] at hr
    rw[hp]at h16;unfold Gg at h16;have hnx:=OkR.next ⟨hst,B,hB⟩ hp hn;have h0:=Np _ _ _ hp;have hiI:(i:Int)<n:=(by omega);have hnI:¬(2000:Int)<AP cur:=(by omega);obtain⟨x,r⟩:=p;simp only at *
    generalize Ai x=y at *
    refine wp_mono (Q:=fun e' s'=>e'=.normal/\s'=RunS u n y (i+1) [(1280,some (.box (wc y.row)))]) ?_ ?_
    .unfold H2 RunS
     rcases ht with rfl|⟨c,rfl⟩ <;>
     simp(maxSteps:=9^7) (disch:=try exact zd) [hiI,hnI,h16,h71,h0,-getElem?_pos]
    .rintro e' s' ⟨rfl,rfl⟩
     exact .inl ⟨rfl,y,_,hnx,.inr ⟨_,rfl⟩,by omega,by rw[hr,show n-(i+1)=j by omega,qbc,Nat.add_comm 1 i],rfl⟩
 .rintro s ⟨cur,t,hok,ht,hin,hr,rfl⟩
  have h2:=congrArg Prod.snd hr;simp only at h2;have hz:=ZdC (k:=n-(runP n e).2) (e:=cur) (by omega);have h1:(runP n e).1=cur:=by rw[hr,hz]
  rw[h1];generalize (runP n e).2=m at *
  obtain⟨hst,B,hB⟩:=hok;have hsm:=hB.sm;have h16:=Qr (A:=A) u cur hst hB;have h71:=Rm (A:=A) cur hst.ok.1.wf (by omega);have h49:=Qq (A:=A) cur hst.ok.1.wf (by omega);have h19:=Z3 (A:=A) cur hst.ok.1 (by omega);by_cases hm:m=n
  .have hmI:¬(m:Int)<n:=by omega
   unfold H2 RunS;rcases ht with rfl|⟨c,rfl⟩ <;>
   simp(maxSteps:=9^7) (disch:=try exact zd) [hmI,h49,h19,-getElem?_pos]
  .have hmI:(m:Int)<n:=by omega
   obtain⟨j,hj⟩:∃j,n-m=j+1:=⟨n-m-1,by omega⟩;rw[hj]at h2 hz;cases hp:AV subP Aj AG cur.weight cur with
   |none=>
    rw[hp]at h16;unfold Gg at h16;unfold H2 RunS;rcases ht with rfl|⟨c,rfl⟩ <;>
    simp(maxSteps:=9^7) (disch:=try exact zd) [hmI,h16,h49,h19,-getElem?_pos]
   |some p=>
    by_cases hn:2000<AP cur
    .rw [hp] at h16
     unfold Gg at h16;have h0:=Np _ _ _ hp;have hnI:(2000:Int)<AP cur:=(by omega);obtain⟨x,r⟩:=p;simp only at *
     generalize Ai x=y at *
     unfold H2 RunS;rcases ht with rfl|⟨c,rfl⟩ <;>
     simp(maxSteps:=9^7) (disch:=try exact zd) [hmI,hnI,h16,h71,h0,h49,h19,-getElem?_pos]
    .rw [FW hp hn] at h2
     simp only at h2;omega
end Go.Vs.Tryz
namespace Go.Vs
open Go
structure SlotD where
 bound:Bool
 ty:Ty
 home:Int
 base:Bool
structure ChgD where
 id:Int
 old:SlotD
 isNew:Bool
def Bl (s:SlotD):List Cell:=[.bool s.bound,.int .i64 s.ty.kind,.str s.ty.name,.int .i64 s.ty.id,.int .i64 s.ty.home,.sl (Ty.rows s.ty.args),.int .i64 s.home,.bool s.base]
def JF (c:ChgD):List Cell:=[.int .i64 c.id,.bool c.old.bound,.int .i64 c.old.ty.kind,.str c.old.ty.name,.int .i64 c.old.ty.id,.int .i64 c.old.ty.home,.sl (Ty.rows c.old.ty.args),.int .i64 c.old.home,.bool c.old.base,.bool c.isNew]
def Bb (l:List SlotD):List (List Cell):=l.map Bl
def Bi (l:List ChgD):List (List Cell):=l.map JF
@[simp] theorem slRow_len (s:SlotD):(Bl s).length=8:=rfl
@[simp] theorem chRow_len (s:ChgD):(JF s).length=10:=rfl
@[simp] theorem slRows_len (l:List SlotD):(Bb l).length=l.length:=by simp[Bb]
@[simp] theorem chRows_len (l:List ChgD):(Bi l).length=l.length:=by simp[Bi]
@[simp] theorem slRows_get (l:List SlotD) (i:Nat):(Bb l)[i]?=(l[i]?).map Bl:=by simp[Bb]
@[simp] theorem okRows_sl (l:List SlotD):AW 8 (wr (Bb l))=true:=CV l slRow_len
@[simp] theorem okRows_ch (l:List ChgD):AW 10 (wr (Bi l))=true:=CV l chRow_len
@[simp] theorem slRows0:Bb []=[]:=rfl
@[simp] theorem chRows0:Bi []=[]:=rfl
section
variable (s:SlotD)
@[simp] theorem cut_sl0:cut (Bl s) 0 1=some [.bool s.bound]:=rfl
@[simp] theorem cut_sl1:cut (Bl s) 1 5=some s.ty.row:=by rw[Ty.row_eq];rfl
@[simp] theorem cut_sl6:cut (Bl s) 6 1=some [.int .i64 s.home]:=rfl
@[simp] theorem cut_sl7:cut (Bl s) 7 1=some [.bool s.base]:=rfl
@[simp] theorem cut_sl:cut (Bl s) 0 8=some (Bl s):=rfl
@[simp] theorem cutw_sl0:cut (wc (Bl s)) 0 1=some [.c (.bool s.bound)]:=rfl
@[simp] theorem cutw_sl1:cut (wc (Bl s)) 1 5=some (wc s.ty.row):=by rw[Ty.row_eq];rfl
@[simp] theorem cutw_sl6:cut (wc (Bl s)) 6 1=some [.c (.int .i64 s.home)]:=rfl
@[simp] theorem cutw_sl7:cut (wc (Bl s)) 7 1=some [.c (.bool s.base)]:=rfl
@[simp] theorem cutw_sl:cut (wc (Bl s)) 0 8=some (wc (Bl s)):=rfl
end
structure StoD where
 slots:List SlotD
 trail:List ChgD
end Go.Vs
namespace Go.Vs.Tryz
open Go Go.Vs
variable {A:Af}
abbrev stoV (s:StoD):V:=.ag [.c (.sl (Bb s.slots)),.c (.sl (Bi s.trail))]
def stoOk (n:Nat)(s:StoD):Prop:=s.slots.length=n/\n<=1000/\s.trail.length<=1000000/\∀x∈s.slots,x.bound=true->tyS n x.ty/\x.ty.size<=687194767360/\x.ty.kind≠1
def AZ (s:StoD)(t:Ty):Ty:=if t.kind=1 then (match s.slots[t.id.toNat]? with
 |some x=>if x.bound then x.ty else t
 |none=>t) else t
def ext (s s':StoD):Prop:=∀(i:Nat) x,s.slots[i]?=some x->x.bound=true->∃y,s'.slots[i]?=some y/\y.bound=true/\y.ty=x.ty
theorem ext.refl (s:StoD):ext s s:=fun _ x h hb=>⟨x,h,hb,rfl⟩
theorem ext.trans {a b c:StoD}(h1:ext a b)(h2:ext b c):ext a c:=fun i x hx hb=>by
 obtain⟨y,hy,hyb,hyt⟩:=h1 i x hx hb;obtain⟨z,hz,hzb,hzt⟩:=h2 i y hy hyb;exact⟨z,hz,hzb,hzt.trans hyt⟩
theorem ext.set {s:StoD}{i:Nat}{x:SlotD}{T:List ChgD}(h:∀y,s.slots[i]?=some y->y.bound=true->x.bound=true/\x.ty=y.ty):ext s ⟨s.slots.set i x,T⟩:=fun j y hy hb=>by
 have hj:=(qf.1 hy).1;by_cases hji:i=j
 .subst hji
  obtain⟨h1,h2⟩:=h y hy hb;exact⟨x,by rw[qa6 hj],h1,h2⟩
 .exact⟨y,by rw[qaC hji];exact hy,hb,rfl⟩
theorem ext.app {s:StoD}{l:List SlotD}{T:List ChgD}:ext s ⟨s.slots++l,T⟩:=fun j y hy hb=>
 ⟨y,by rw[qF (qf.1 hy).1];exact hy,hb,rfl⟩
theorem Hy {s:StoD}{t:Ty}(h:t.kind≠1):AZ s t=t:=by unfold AZ;rw[if_neg h]
theorem G8 {s:StoD}{t:Ty}{i:Nat}{x:SlotD}(hk:t.kind=1)(hi:t.id=i)(hx:s.slots[i]?=some x)(hb:x.bound=true):AZ s t=x.ty:=by
 unfold AZ;rw[if_pos hk,hi,qai,hx];simp only[hb,if_true]
theorem Nb {s:StoD}{t:Ty}{i:Nat}{x:SlotD}(hi:t.id=i)(hx:s.slots[i]?=some x)(hb:x.bound=false):AZ s t=t:=by
 unfold AZ;split
 .rw [hi,qai,hx]
  simp[hb]
 .rfl
theorem JR {n:Nat}{s:StoD}(hs:stoOk n s){t:Ty}(ht:tyS n t)(hk:(AZ s t).kind=1):AZ s t=t/\t.kind=1/\∃(i:Nat) (x:SlotD),t.id=i/\i<n/\s.slots[i]?=some x/\x.bound=false:=by
 obtain⟨h1,h2,h3,h4⟩:=hs;by_cases ht1:t.kind=1
 .obtain ⟨g1,g2,_⟩:=ht.one.1 ht1
  obtain⟨i,hi⟩:∃i:Nat,t.id=i:=⟨t.id.toNat,by omega⟩;obtain⟨x,hx⟩:=Ae (l:=s.slots) (i:=i) (by omega);cases hb:x.bound with
  |true=>
   rw[G8 ht1 hi hx hb]at hk;exact absurd hk (h4 x (qc hx) hb).2.2
  |false=>exact⟨Nb hi hx hb,ht1,i,x,hi,by omega,hx,hb⟩
 .rw [Hy ht1] at hk
  exact absurd hk ht1
theorem Zfr {n:Nat}{s s':StoD}(hs:stoOk n s)(he:ext s s'){t:Ty}(ht:tyS n t)(hk:(AZ s t).kind≠1):AZ s' t=AZ s t:=by
 by_cases ht1:t.kind=1
 .obtain ⟨g1,g2,_⟩:=ht.one.1 ht1
  have h1:=hs.1;obtain⟨i,hi⟩:∃i:Nat,t.id=i:=⟨t.id.toNat,by omega⟩;obtain⟨x,hx⟩:=Ae (l:=s.slots) (i:=i) (by omega);cases hb:x.bound with
  |true=>
   obtain⟨y,hy,hyb,hyt⟩:=he i x hx hb;rw[G8 ht1 hi hx hb,G8 ht1 hi hy hyb,hyt]
  |false=>
   rw[Nb hi hx hb]at hk;exact absurd ht1 hk
 .rw[Hy ht1,Hy ht1]
theorem Jk {n:Nat}{s:StoD}(hs:stoOk n s){t:Ty}(ht:tyS n t)(hl:t.size<=687194767360):tyS n (AZ s t)/\(AZ s t).size<=687194767360:=by
 unfold AZ;split
 .split
  .rename_i x hx
   split
   .rename_i hb
    obtain⟨g1,g2,_⟩:=hs.2.2.2 x (qc hx) hb;exact⟨g1,g2⟩
   .exact⟨ht,hl⟩
  .exact⟨ht,hl⟩
 .exact⟨ht,hl⟩
inductive Res (s:StoD):Ty->Ty->Prop
 |mk (t:Ty) (us:List Ty) (hl:us.length=(AZ s t).args.length) (h:∀(j:Nat) x y,(AZ s t).args[j]?=some x->us[j]?=some y->Res s x y):Res s t (.mk (AZ s t).kind (AZ s t).name (AZ s t).id (AZ s t).home us)
theorem Res.two {s:StoD}{t v a b:Ty}(h:Res s t v)(hab:(AZ s t).args=[a,b]):∃v1 v2,Res s a v1/\Res s b v2/\v1.size<=v.size/\v2.size<=v.size:=by
 cases h with
 |mk _ us hl h=>
  rw[hab]at hl h;obtain⟨v1,v2,rfl⟩:∃v1 v2,us=[v1,v2]:=by
   match us,hl with
   |[v1,v2],_=>exact⟨v1,v2,rfl⟩
  have hz:(Ty.mk (AZ s t).kind (AZ s t).name (AZ s t).id (AZ s t).home [v1,v2]).size=1+(v1.size+(v2.size+0)):=by rw[Ty.size_eq];simp[Ty.args]
  exact⟨v1,v2,h 0 a v1 rfl rfl,h 1 b v2 rfl rfl,by omega,by omega⟩
theorem Wy:(K A).call 213 [] []=some (stoV ⟨[],[]⟩,[]):=by
 refine fnO v213 ?_;unfold v213;simp(disch:=try exact zd)
def bndB (s:StoD)(t:Ty):Prop:=t.kind=1/\∃(i:Nat) (x:SlotD),t.id=i/\s.slots[i]?=some x/\x.bound=true
theorem Zea (s:StoD)(hs:s.slots.length<=1000)(t:Ty):∃r,IffB (bndB s t) r/\(K A).call 251 [stoV s,tyV t] []=some r:=by
 refine fnE v251 ?_;unfold v251;by_cases h1:t.kind=1
 .by_cases h2:0<=t.id
  .obtain ⟨i,hi⟩:∃ i:Nat,t.id=i:=⟨t.id.toNat,by omega⟩
   by_cases h3:i<s.slots.length
   .obtain ⟨x,hx⟩:=Ae h3
    cases hb:x.bound with
    |true=>
     simp(disch:=try exact zd) [h1,hi,h3,hx,hb,-getElem?_pos];exact IffB.yes ⟨h1,i,x,hi,hx,hb⟩
    |false=>
     simp(disch:=try exact zd) [h1,hi,h3,hx,hb,-getElem?_pos];refine IffB.no ?_;rintro⟨_,j,y,hj,hy,hb2⟩;obtain rfl:j=i:=(by omega);rw[hx]at hy;cases hy;rw[hb]at hb2;cases hb2
   .simp (disch:=try exact zd) [h1,hi,h3,-getElem?_pos]
    refine IffB.no ?_;rintro⟨_,j,y,hj,hy,hb2⟩;have:=(qf.1 hy).1;omega
  .simp (disch:=try exact zd) [h1,h2,-getElem?_pos]
   refine IffB.no ?_;rintro⟨_,j,y,hj,hy,hb2⟩;omega
 .simp (disch:=try exact zd) [h1,-getElem?_pos]
  exact IffB.no fun h=>h1 h.1
end Go.Vs.Tryz
namespace Go.Vs
open Go
theorem Sq {α β:Type}{f:α->Option β}:∀{a b:List α}{x:List β},Ab f a=some x->Ab f (a++b)=(Ab f b).map (x++·)
 |[],b,x,h=>by
  cases h;cases hb:Ab f b<;>simp[hb]
 |y::a,b,x,h=>by
  simp only[Ab]at h;cases hy:f y with
  |none=>rw[hy]at h;cases h
  |some z=>
   rw[hy]at h;cases ha:Ab f a with
   |none=>rw[ha]at h;cases h
   |some w=>
    rw[ha]at h;cases h;have ih:=Sq (b:=b) ha;simp only[qbh,Ab,hy,ih];cases Ab f b<;>rfl
@[simp] theorem listM_wr_app (L:Nat->Option Obj) (d:Nat) (r:List (List Cell)) (m:List (List W)):Ab (Ab (W.toC L d)) (wr r++m)=(Ab (Ab (W.toC L d)) m).map (r++·):=Sq (wr_toC L d r)
end Go.Vs
namespace Go.Vs.Tryz
open Go Go.Vs
variable {A:Af}
def AL (h:Int)(b:Bool):SlotD:=⟨false,.mk 0 [] 0 0 [],h,b⟩
theorem MS (s:StoD)(hs:s.slots.length<=1000)(ht:s.trail.length<=1000000)(h:Int)(b:Bool):(K A).call 214 [stoV s,intV h,Ac b] []=some (.tu [stoV ⟨s.slots++[AL h b],s.trail++[⟨s.slots.length,AL 0 false,true⟩]⟩,tyV (.mk 1 [] s.slots.length 0 [])],[]):=by
 have hv:=LY (A:=A) s.slots.length;refine fnO v214 ?_;unfold v214;obtain⟨sl,tr⟩:=s;have close1:Bb (sl++[AL h b])=Bb sl++[[.bool false,.int .i64 0,.str [],.int .i64 0,.int .i64 0,.sl [],.int .i64 h,.bool b]]:=by
  simp[Bb,Bl,AL,Ty.kind,Ty.name,Ty.id,Ty.home,Ty.args]
 have close2:Bi (tr++[⟨sl.length,AL 0 false,true⟩])=Bi tr++[[.int .i64 sl.length,.bool false,.int .i64 0,.str [],.int .i64 0,.int .i64 0,.sl [],.int .i64 0,.bool false,.bool true]]:=by
  simp[Bi,JF,AL,Ty.kind,Ty.name,Ty.id,Ty.home,Ty.args]
 have okA:=okRows_sl sl;have okB:=okRows_ch tr;have lenA:=slRows_len sl;have lenB:=chRows_len tr;simp only[stoV]at hs ht hv |-;rw[close1,close2];generalize Bb sl=sr at *
 generalize Bi tr=cr at *
 cases sr with
 |nil=>
  simp only[qV]at lenA;rw[<-lenA]at hv |-;replace hv:(K A).call 212 [intV 0] []=some (tyV (Ty.mk 1 [] 0 0 []),[]):=hv;cases cr with
  |nil=>simp(disch:=try exact zd) [hv,-getElem?_pos]
  |cons c r=>
   rw[wr_cons]at okB;simp only[qG]at lenB;simp(disch:=try exact zd) [hv,okB,-getElem?_pos]
 |cons x l=>
  rw[wr_cons]at okA;simp only[qG]at lenA;rw[<-lenA]at hv |-;replace hv:(K A).call 212 [intV ((l.length:Int)+1)] []=some (tyV (Ty.mk 1 [] ((l.length:Int)+1) 0 []),[]):=hv;cases cr with
  |nil=>simp(disch:=try exact zd) [hv,okA,-getElem?_pos]
  |cons c r=>
   rw[wr_cons]at okB;simp only[qG]at lenB;simp(disch:=try exact zd) [hv,okA,okB,-getElem?_pos]
theorem Zct (rows:List (List Cell))(i:Nat)(c:List Cell):setRow (wr rows) i (wc c)=wr (rows.set i c):=by
 rw[Iw];simp[wr,qaZ]
theorem TR (c d:List Cell)(hc:c.length=8)(hd:d.length=8):splice (wc c) 0 (wc d)=some (wc d):=by
 unfold splice;simp[hc,hd]
theorem Rx (a b c d e f g h k:W)(s:SlotD):splice [a,b,c,d,e,f,g,h,k] 0 (wc (Bl s))=some (wc (Bl s++[])++[k]):=by
 unfold splice;simp
theorem EA (s:SlotD):wc (Bl s)=[.c (.bool s.bound),.c (.int .i64 s.ty.kind),.c (.str s.ty.name),.c (.int .i64 s.ty.id),.c (.int .i64 s.ty.home),.c (.sl (Ty.rows s.ty.args)),.c (.int .i64 s.home),.c (.bool s.base)]:=rfl
theorem LW (s:StoD)(hs:s.slots.length<=1000)(ht:s.trail.length<=1000000)(i:Nat)(y:SlotD)(hy:s.slots[i]?=some y)(x:SlotD):(K A).call 231 [stoV s,intV i,.ag (wc (Bl x))] []=some (.tu [stoV ⟨s.slots.set i x,s.trail++[⟨i,y,false⟩]⟩,Ac true],[]):=by
 refine fnO v231 ?_;unfold v231;obtain⟨sl,tr⟩:=s;have close1:Bb (sl.set i x)=(Bb sl).set i (Bl x):=by simp[Bb,qaZ]
 have close2:Bi (tr++[⟨i,y,false⟩])=Bi tr++[[.int .i64 i,.bool y.bound,.int .i64 y.ty.kind,.str y.ty.name,.int .i64 y.ty.id,.int .i64 y.ty.home,.sl (Ty.rows y.ty.args),.int .i64 y.home,.bool y.base,.bool false]]:=by
  simp[Bi,JF]
 have hin:=(qf.1 hy).1;simp only at hin hs ht hy;have hrow:(Bb sl)[i]?=some (Bl y):=by rw[slRows_get,hy];rfl
 have okA:=okRows_sl sl;have okB:=okRows_ch tr;have lenA:=slRows_len sl;have lenB:=chRows_len tr;simp only[stoV];rw[close1,close2];generalize Bb sl=sr at *
 generalize Bi tr=cr at *
 cases sr with
 |nil=>simp at hrow
 |cons a l=>
  rw[wr_cons]at okA;simp only[qG]at lenA;have hi0:¬(i:Int)<0:=by omega
  have hi2:¬(l.length:Int)+1<=(i:Int):=by omega
  have hi1:i<l.length+1:=by omega
  have hrw:(wc a::wr l)[i]?=some (wc (Bl y)):=by rw[<-wr_cons,wr_get,hrow];rfl
  have hsr:∀c,setRow (wc a::wr l) i (wc c)=wr ((a::l).set i c):=fun c=>by rw[<-wr_cons];exact Zct _ _ _
  cases cr with
  |nil=>
   simp(disch:=try exact zd) [okA,hi0,hi2,hi1,hrow,hrw,hsr,elOk,TR,Rx,EA y,-getElem?_pos,-List.set_cons_zero,-List.set_cons_succ]
  |cons c r=>
   rw[wr_cons]at okB;simp only[qG]at lenB;simp(disch:=try exact zd) [okA,okB,hi0,hi2,hi1,hrow,hrw,hsr,elOk,TR,Rx,EA y,-getElem?_pos]
variable {A:Af}
theorem Jz {n:Nat}(s:StoD)(hs:stoOk n s)(t:Ty)(ht:tyS n t):(K A).call 230 [stoV s,tyV t] []=some (tyV (AZ s t),[]):=by
 have hs0:=hs;obtain⟨h1,h2,h3,h4⟩:=hs0;refine fnO v230 ?_;unfold v230;simp(disch:=try exact zd);refine Ak (fun i st=>∃u:Ty,((i=0/\u=t)\/u=AZ s t)/\st=⟨[(2,.sc (.ptr 64 0)),(3,.sc (.ptr 128 0)),(4,.sc (.ptr 192 0)),(5,intV i)],
  [(64,some (.box [.c (.sl (Bb s.slots)),.c (.sl (Bi s.trail))])),(128,some (.box (wc u.row))),(192,some (.box [zi,zs,zi,zi,.nil]))]⟩) (n+1) ⟨t,.inl ⟨rfl,rfl⟩,by simp⟩ ?_ ?_
 .rintro i st hi ⟨u,hu,rfl⟩
  obtain⟨_,⟨b,hb,rfl⟩,hc⟩:=Zea (A:=A) s (by omega) u;have hi2:(i:Int)<=s.slots.length:=by omega
  unfold N2;cases b with
  |true=>
   obtain⟨hk,j,x,hj,hx,hxb⟩:=hb.1 rfl;have hjl:=(qf.1 hx).1;have hut:u=t:=by
    rcases hu with ⟨_,h⟩|h
    .exact h
    .obtain ⟨e1,e2,i',x',e3,e4,e5,e6⟩:=JR hs ht (by rw [<-h];exact hk)
     rw[h,e1]at hj;have:i'=j:=(by omega);subst this;rw[hx]at e5;cases e5;rw[hxb]at e6;cases e6
   simp(disch:=try exact zd) [hi2,hc,hj,hx,hjl,-getElem?_pos];rw[hut]at hk hj;rw[G8 hk hj hx hxb]
  |false=>
   have hu2:u=AZ s t:=by
    rcases hu with ⟨_,rfl⟩|h
    .by_cases hk:u.kind=1
     .obtain ⟨g1,g2,_⟩:=ht.one.1 hk
      obtain⟨j,hj⟩:∃j:Nat,u.id=j:=⟨u.id.toNat,by omega⟩;obtain⟨x,hx⟩:=Ae (l:=s.slots) (i:=j) (by omega);cases hxb:x.bound with
      |true=>exact absurd (hb.2 ⟨hk,j,x,hj,hx,hxb⟩) (by simp)
      |false=>exact(Nb hj hx hxb).symm
     .exact(Hy hk).symm
    .exact h
   simp(disch:=try exact zd) [hi2,hc,<-hu2,-getElem?_pos]
 .rintro st ⟨u,hu,rfl⟩
  have hu2:u=AZ s t:=by
   rcases hu with ⟨h,_⟩|h
   .omega
   .exact h
  have hi2:¬(n:Int)+1<=s.slots.length:=by omega
  unfold N2;simp(disch:=try exact zd) [hi2,<-hu2,-getElem?_pos]
def Vl (n:Nat)(t:Ty)(r:V×List Obj):Prop:=∃u:Ty,tyS n u/\u.size<=687194767360/\(t.kind≠1->u=t)/\r=(tyV u,[])
theorem MC {n:Nat}(s:StoD)(hs:stoOk n s)(t:Ty)(ht:tyS n t)(hl:t.size<=687194767360):∃r,Vl n t r/\(K A).call 230 [stoV s,tyV t] []=some r:=by
 obtain⟨h1,h2⟩:=Jk hs ht hl;exact⟨_,⟨AZ s t,h1,h2,Hy,rfl⟩,Jz s hs t ht⟩
def SzOk (A:Af)(n:Nat)(s:StoD)(t:Ty)(k:Nat):Prop:=∃u:Ty,tyS n u/\Res s t u/\u.size<=k/\(K A).call 254 [stoV s,tyV t] []=some (tyV u,[])
theorem Zdd {n k:Nat}(s:StoD)(t w:Ty)(hwp:w=AZ s t)(hwa:w.args.length<=687194767360)(hw:tyS n w)(hc:(K A).call 230 [stoV s,tyV t] []=some (tyV w,[]))(us:List Ty)(hl:us.length=w.args.length)
 (hus:∀(j:Nat) x,w.args[j]?=some x->∃u,us[j]?=some u/\tyS n u/\Res s x u/\(K A).call 254 [stoV s,tyV x] []=some (tyV u,[])) (hk:(us.map Ty.size).sum+1<=k):SzOk A n s t k:=by
 refine⟨.mk w.kind w.name w.id w.home us,?_,?_,?_,?_⟩
 .refine Gi.2 ⟨?_,?_⟩
  .exact hw.one.len hl
  .intro x hx
   obtain⟨j,hj,he⟩:=qO (show x∈us from hx);obtain⟨y,hy⟩:=Ae (l:=w.args) (i:=j) (by omega);obtain⟨u,hu,hs,_,_⟩:=hus j y hy;rw[qi hj,he]at hu;cases hu;exact hs
 .subst hwp
  refine .mk t us hl fun j x y hx hy=>?_;obtain⟨u,hu,_,hr,_⟩:=hus j x hx;rw[hu]at hy;cases hy;exact hr
 .rw [Ty.size_eq]
  show 1+(us.map Ty.size).sum<=k;omega
 .refine fnO v254 ?_
  unfold v254;simp(disch:=try exact zd) [hc];simp(disch:=try exact zd) [Ty.row_eq w];refine Ak (fun i st=>st=⟨[(2,.sc (.ptr 64 0)),(3,.sc (.ptr 128 0)),(4,.sc (.ptr 192 0)),(5,.sc (.ptr 576 0)),(6,intV i)],
   [(64,some (.box [.c (.sl (Bb s.slots)),.c (.sl (Bi s.trail))])),(128,some (.box [.c (.int .i64 w.kind),.c (.str w.name),.c (.int .i64 w.id),.c (.int .i64 w.home),.c (.sl (Ty.rows w.args))])),(192,some (.box [zi,zs,zi,zi,.nil])),
     (576,some (.box [.c (.int .i64 w.kind),.c (.str w.name),.c (.int .i64 w.id),.c (.int .i64 w.home),.arr 769 i])),(769,some (.arr 5 (wr (Ty.rows (us.take i))) 0))]⟩) w.args.length (by simp) ?_ ?_
  .rintro i st hi rfl
   obtain⟨x,hx⟩:=Ae hi;obtain⟨u,hu,hs,_,hcu⟩:=hus i x hx;have hlen:(us.take i).length=i:=(by simp;omega);unfold Lf;simp(disch:=try exact zd) [hi,hx,hcu,hlen,Bh hu,-getElem?_pos]
  .rintro st rfl
   have htk:us.take w.args.length=us:=qj (by omega);unfold Lf;simp(disch:=try exact zd) [htk,hl,Ic,-getElem?_pos]
def Vq (A:Af)(n:Nat)(s:StoD)(most:Nat)(t:Ty):Prop:=∃k:Nat,1<=k/\k<=most+1/\(K A).call 253 [stoV s,tyV t,intV most] []=some (intV k,[])/\(k<=most->SzOk A n s t k)/\∀u,Res s t u->u.size<=most->k=u.size
theorem ZaW {n:Nat}(s:StoD)(hs:stoOk n s):∀(most:Nat),most<=1000000->∀t:Ty,tyS n t->t.size<=687194767360->Vq A n s most t:=by
 intro most
 induction most using Nat.strongRecOn with
 |ind most ih=>
 intro hm t ht hl;obtain⟨hw1,hw2⟩:=Jk hs ht hl;have hcw:=Jz (A:=A) s hs t ht;obtain⟨w,hw⟩:∃w,w=AZ s t:=⟨_,rfl⟩;rw[<-hw]at hw1 hw2 hcw;have hwl:=w.args_lt;have main:∃r,(∃k:Nat,1<=k/\k<=most+1/\(k<=most->SzOk A n s t k)/\(∀u,Res s t u->u.size<=most->k=u.size)/\r=(intV k,[]))/\(K A).call 253 [stoV s,tyV t,intV most] []=some r:=by
  refine fnE v253 ?_;unfold v253;simp(disch:=try exact zd) [hcw];refine Ak (fun i st=>∃(k:Nat) (us:List Ty),1<=k/\k<=most+1/\(k<=most->us.length=i/\(us.map Ty.size).sum+1<=k/\∀(j:Nat) x,j<i->w.args[j]?=some x->∃u,us[j]?=some u/\tyS n u/\Res s x u/\(K A).call 254 [stoV s,tyV x] []=some (tyV u,[]))/\
   (∀vs:List Ty,vs.length=w.args.length->(∀(j:Nat) x y,w.args[j]?=some x->vs[j]?=some y->Res s x y)->1+((vs.map Ty.size).take i).sum<=most->k=1+((vs.map Ty.size).take i).sum)/\
   st=⟨[(2,intV most),(3,.sc (.ptr 64 0)),(4,.sc (.ptr 128 0)),(7,intV k),(8,intV i)],[(64,some (.box [.c (.sl (Bb s.slots)),.c (.sl (Bi s.trail))])),(128,some (.box (wc w.row)))]⟩) w.args.length
   ⟨1,[],by omega,by omega,fun _=>⟨rfl,by simp,by omega⟩,fun _ _ _ _=>by simp,by simp⟩ ?_ ?_
  .rintro i st hi ⟨k,us,hk1,hk2,hk3,hkv,rfl⟩
   obtain⟨x,hx⟩:=Ae hi;have hxm:=qc hx;have hxs:=Ty.arg_lt hxm;have nx:∀vs:List Ty,vs.length=w.args.length->∃y,vs[i]?=some y/\((vs.map Ty.size).take (i+1)).sum=((vs.map Ty.size).take i).sum+y.size:=fun vs hv=>by
    obtain⟨y,hy⟩:=Ae (l:=vs) (i:=i) (by omega);have hym:(vs.map Ty.size)[i]?=some y.size:=(by rw[qq,hy];rfl);exact⟨y,hy,by rw[Bh hym];simp⟩
   unfold M1;by_cases hkm:k<=most
   .obtain ⟨q1,q2,q3⟩:=hk3 hkm
    obtain⟨k2,h1,h2,hc,h3,h4⟩:=ih (most-k) (by omega) (by omega) x (hw1.arg hxm) (by omega);have e1:(most:Int)-k=((most-k:Nat):Int):=(by omega);have hnext:∀vs:List Ty,vs.length=w.args.length->(∀(j:Nat) x y,w.args[j]?=some x->vs[j]?=some y->Res s x y)->1+((vs.map Ty.size).take (i+1)).sum<=most->k+k2=1+((vs.map Ty.size).take (i+1)).sum:=fun vs hv hr hle=>by
     obtain⟨y,hy,hsum⟩:=nx vs hv;have g1:=hkv vs hv hr (by omega);have g2:=h4 y (hr i x y hx hy) (by omega);omega
    simp(disch:=try exact zd) [hi,hkm,hx,e1,hc,-getElem?_pos];by_cases hle:k+k2<=most
    .obtain ⟨u,hu1,hur,hu2,hu3⟩:=h3 (by omega)
     refine⟨k+k2,by omega,by omega,⟨us++[u],fun _=>⟨by simp[q1],?_,?_⟩⟩,hnext,by omega⟩
     .simp only [qay,qu,qaj,qba,qaa,qbn]
      omega
     .intro j y hj hy
      by_cases hji:j<i
      .obtain ⟨v,hv,hv2⟩:=q3 j y hji hy
       exact⟨v,by rw[qF (by omega)];exact hv,hv2⟩
      .obtain rfl:j=i:=by omega
       rw[hx]at hy;cases hy;exact⟨u,by rw[qS (by omega),q1];simp,hu1,hur,hu3⟩
    .exact⟨k+k2,by omega,by omega,⟨us,fun h=>absurd h hle⟩,hnext,by omega⟩
   .simp (disch:=try exact zd) [hi,hkm,-getElem?_pos]
    refine⟨k,hk1,hk2,fun h=>absurd h hkm,fun u hu hle=>?_,by split<;>omega⟩;cases hu with
    |mk _ vs hl hr=>
     rw[<-hw]at hl hr;rw[Ty.size_eq]at hle;have hle':1+(vs.map Ty.size).sum<=most:=hle;have hst:((vs.map Ty.size).take i).sum<=(vs.map Ty.size).sum:=DS;have:=hkv vs hl hr (by omega);omega
  .rintro st ⟨k,us,hk1,hk2,hk3,hkv,rfl⟩
   unfold M1;simp(disch:=try exact zd) [-getElem?_pos];refine⟨k,hk1,hk2,fun h=>?_,fun u hu hle=>?_,by split<;>omega⟩
   .obtain ⟨q1,q2,q3⟩:=hk3 h
    exact Zdd s t w hw (by omega) hw1 hcw us q1 (fun j x hx=>q3 j x (qf.1 hx).1 hx) q2
   .cases hu with
    |mk _ vs hl hr=>
     rw[<-hw]at hl hr;rw[Ty.size_eq]at hle |-;have hle':1+(vs.map Ty.size).sum<=most:=hle;have:=hkv vs hl hr (by rw[qj (by simp;omega)];exact hle');rw[qj (by simp;omega)]at this;exact this
 obtain⟨_,⟨k,h1,h2,h3,h4,rfl⟩,hc⟩:=main;exact⟨k,h1,h2,hc,h3,h4⟩
variable {A:Af}
theorem HN {n:Nat}(s:StoD)(hs:stoOk n s)(most:Nat)(hm:most<=1000000)(t:Ty)(ht:tyS n t)(hl:t.size<=687194767360):∃k:Nat,1<=k/\k<=most+1/\(K A).call 234 [stoV s,tyV t,intV most] []=some (intV k,[])/\(k<=most->SzOk A n s t k)/\∀u,Res s t u->u.size<=most->k=u.size:=by
 obtain⟨k,h1,h2,hc,h3,h4⟩:=ZaW (A:=A) s hs most hm t ht hl;refine⟨k,h1,h2,?_,h3,h4⟩;refine fnO v234 ?_;have h0:¬(most:Int)<0:=by omega
 unfold v234;simp(disch:=try exact zd) [h0,hc]
def ResR (r:V×List Obj):Prop:=∃(u:Ty) (b:Bool),u.size<=4000/\r=(.tu [tyV u,Ac b],[])
def ResS (n:Nat)(r:V×List Obj):Prop:=∃(u:Ty),tyS n u/\u.size<=4000/\r=(.tu [tyV u,Ac true],[])
theorem RP {n:Nat}(s:StoD)(hs:stoOk n s)(t:Ty)(ht:tyS n t)(hl:t.size<=687194767360)(v:Ty)(hv:Res s t v)(hvz:v.size<=4000):∃r,ResS n r/\(K A).call 235 [stoV s,tyV t] []=some r:=by
 obtain⟨k,h1,h2,hc,h3,h4⟩:=HN (A:=A) s hs 4000 (by omega) t ht hl;have hkv:=h4 v hv hvz;refine fnE v235 ?_;have hc':(K A).call 234 [stoV s,tyV t,intV 4000] []=some (intV k,[]):=hc;unfold v235;obtain⟨u,hu1,_,hu2,hu3⟩:=h3 (by omega);have hk2:¬(4000:Int)<k:=by omega
 have hk3:¬4000<k:=by omega
 simp(disch:=try exact zd) [hc',hk2,hk3,hu3];exact⟨u,hu1,by omega,rfl⟩
theorem Zcy {n:Nat}(s:StoD)(hs:stoOk n s)(t:Ty)(ht:tyS n t)(hl:t.size<=687194767360):∃r,ResR r/\(K A).call 235 [stoV s,tyV t] []=some r:=by
 obtain⟨k,h1,h2,hc,h3,_⟩:=HN (A:=A) s hs 4000 (by omega) t ht hl;refine fnE v235 ?_;have hc':(K A).call 234 [stoV s,tyV t,intV 4000] []=some (intV k,[]):=hc;unfold v235;by_cases hk:k<=4000
 .obtain ⟨u,hu1,_,hu2,hu3⟩:=h3 hk
  have hk2:¬(4000:Int)<k:=by omega
  have hk3:¬4000<k:=by omega
  simp(disch:=try exact zd) [hc',hk2,hk3,hu3];exact⟨u,true,by omega,rfl⟩
 .have hk2:(4000:Int)<k:=by omega
  have hk3:4000<k:=by omega
  simp(disch:=try exact zd) [hc',hk2,hk3];exact⟨.mk 0 [] 0 0 [],false,by rw[Ty.size_leaf];omega,by simp[Ty.row]⟩
abbrev NS (s:StoD)(ks:List Bool):List Obj:=[.box [.c (.sl (Bb s.slots)),.c (.sl (Bi s.trail)),.nil,.arr 1 ks.length],.arr 1 (boOs ks) 0]
theorem ZP (s:StoD)(ks:List Bool)(t:Ty):tyS 0 t->t.size<=687194767360->(K A).call 302 [.sc (.ptr 0 0),tyV t] (NS s ks)=some (.tu [],NS s ks):=by
 induction t using Ty.ind with
 |h t ih=>
 intro ht hl;have hk:¬t.kind=1:=fun hk=>by
  have:=ht.one.1 hk;omega
 have hal:=t.args_lt;refine fnO v302 ?_;unfold v302;simp(disch:=try exact zd) [hk];refine Ak (fun i st=>st=⟨[(0,.sc (.ptr 0 0)),(3,.sc (.ptr 64 0)),(4,intV i)],[(0,some (.box [.c (.sl (Bb s.slots)),.c (.sl (Bi s.trail)),.nil,.arr 1 ks.length])),(1,some (.arr 1 (boOs ks) 0)),(64,some (.box (wc t.row)))]⟩) t.args.length (by simp) ?_ ?_
 .rintro i st hi rfl
  obtain⟨x,hx⟩:=Ae hi;have hxs:=Ty.arg_lt (qc hx);have hc:=ih x (qc hx) (ht.arg (qc hx)) (by omega);unfold KH;simp(disch:=try exact zd) [hi,hx,hc,-getElem?_pos]
 .rintro st rfl
  unfold KH;simp(disch:=try exact zd) [-getElem?_pos]
theorem Zbq (s:StoD)(hs:s.slots.length<=1000)(t:Ty)(ht:tyS 0 t)(hl:t.size<=687194767360):(K A).call 297 [stoV s,tysV [t]] []=some (Cl [],[]):=by
 have hv:=ZP (A:=A) s (List.replicate s.slots.length false) t ht hl;have hr2:(List.replicate s.slots.length false).length=s.slots.length:=by simp
 generalize hK0:List.replicate s.slots.length false=K0 at *
 have hg:([t]:List Ty)[0]?=some t:=rfl;refine fnO v297 ?_;unfold v297;simp(disch:=try exact zd) [NL,hK0,-List.map_replicate];refine Ap (fun i=>⟨[(1,tysV [t]),(5,.sc (.ptr 576 0)),(6,intV i)],[(448,some (.arr 1 (boOs K0) 0)),(576,some (.box [.c (.sl (Bb s.slots)),.c (.sl (Bi s.trail)),.nil,.arr 448 s.slots.length]))]⟩) 1 ?_ ?_ ?_
 .simp
 .intro i hi
  obtain rfl:i=0:=by omega
  rw[NS,hr2]at hv;unfold MO;simp(disch:=try exact zd) [hv,hg,hr2,-getElem?_pos]
 .unfold MO
  simp(disch:=try exact zd) [Bn,-getElem?_pos]
def StoR (n T:Nat)(s0:StoD)(r:V×List Obj):Prop:=∃(s:StoD) (e:Int),stoOk n s/\s.trail.length<=T/\ext s0 s/\r=(.tu [stoV s,intV e],[])
theorem stoOk.set {n:Nat}{s:StoD}(hs:stoOk n s){i:Nat}{x:SlotD}(hx:x.bound=true->tyS n x.ty/\x.ty.size<=687194767360/\x.ty.kind≠1){c:ChgD}(ht:s.trail.length<1000000):stoOk n ⟨s.slots.set i x,s.trail++[c]⟩:=by
 obtain⟨h1,h2,h3,h4⟩:=hs;refine⟨by simp[h1],h2,by simp;omega,?_⟩;intro y hy;rcases List.mem_or_eq_of_mem_set hy with hy|hy
 .exact h4 y hy
 .exact hy▸hx
theorem OC (a b c d e f g:W)(t:Ty):splice [a,b,c,d,e,f,g] 0 (wc t.row)=some [.c (.int .i64 t.kind),.c (.str t.name),.c (.int .i64 t.id),.c (.int .i64 t.home),.c (.sl (Ty.rows t.args)),f,g]:=by
 unfold splice;rw[Ty.row_eq];simp
theorem Vd {n:Nat}(s:StoD)(hs:stoOk n s)(ht:s.trail.length<1000000)(i:Nat)(hi:i<n)(hub:∀y,s.slots[i]?=some y->y.bound=false)(t:Ty)(hg:tyS 0 t)(hl:t.size<=687194767360):∃r,StoR n (s.trail.length+1) s r/\(K A).call 283 [stoV s,intV i,tyV t] []=some r:=by
 have hs0:=hs;obtain⟨h1,h2,h3,h4⟩:=hs0;obtain⟨y,hy⟩:=Ae (l:=s.slots) (i:=i) (by omega);have hin:i<s.slots.length:=by omega
 have hv:=Zbq (A:=A) s (by omega) t hg hl;have hn:Ty.rows [t]=[t.row]:=by simp[Ty.rows]
 have hv:(K A).call 297 [stoV s,.sc (.c (.sl [t.row]))] []=some (Cl [],[]):=by rw[<-hn];exact hv
 have hh:=Ls (A:=A) [] (i:Int) (by simp);obtain⟨_,⟨u,b,hu2,rfl⟩,hr⟩:=Zcy (A:=A) s hs t (hg.mono (qac _)) hl;obtain⟨_,⟨o2,⟨q1,q2,q3,q4⟩,rfl⟩,hq⟩:=S8 (A:=A) [u] (by simp;omega);have hn2:Ty.rows [u]=[u.row]:=by simp[Ty.rows]
 have hq:(K A).call 186 [.sc (.c (.sl [u.row]))] []=some (tysV o2,[]):=by rw[<-hn2];exact hq
 have q1':o2.length<=4000:=by simp at q1;omega
 have hset:=LW (A:=A) s (by omega) h3 i y hy ⟨true,t,y.home,y.base⟩;rw[EA]at hset;simp only at hset;have hk1:t.kind≠1:=fun hk=>by have:=hg.one.1 hk;omega
 have same:∀e:Int,StoR n (s.trail.length+1) s (.tu [stoV s,intV e],[]):=fun e=>⟨s,e,hs,by omega,ext.refl s,rfl⟩;have fin:StoR n (s.trail.length+1) s (.tu [stoV ⟨s.slots.set i ⟨true,t,y.home,y.base⟩,s.trail++[⟨i,y,false⟩]⟩,intV 0],[]):=⟨_,0,hs.set (fun _=>⟨hg.mono (qac _),hl,hk1⟩) ht,by simp,ext.set (fun z hz hb=>by rw[hub z hz]at hb;cases hb),rfl⟩;refine fnE v283 ?_;unfold v283;simp[Bn]at hv hh
 rcases Gk (A:=A) t with ⟨a,c,_,har⟩|har
 .cases hb:y.base with
  |true=>
   simp(disch:=try exact zd) [hin,hy,hv,hh,har,hb,-getElem?_pos];exact same 14
  |false=>
   simp(disch:=try exact zd) [hin,hy,hv,hh,har,hb,hr,hq,-getElem?_pos];refine Ak (fun j st=>st=⟨[(1,intV i),(3,.sc (.ptr 64 0)),(5,.sc (.ptr 128 0)),(6,.sc (.ptr 192 0)),(8,.sc (.ptr 640 0)),(9,.sc (.c (.sl []))),(15,tysV o2),(16,intV j)],
    [(64,some (.box [.c (.sl (Bb s.slots)),.c (.sl (Bi s.trail))])),(128,some (.box (wc t.row))),(192,some (.box [.nil,.nil])),(640,some (.box (wc (Bl y))))]⟩) o2.length (by simp[Bn]) ?_ ?_
   .rintro j st hj rfl
    obtain⟨x,hx⟩:=Ae hj;unfold FL;by_cases hxh:x.home>y.home
    .have hxh':y.home<x.home:=hxh
     simp(disch:=try exact zd) [hj,hx,hxh,hxh',-getElem?_pos];exact same 13
    .have hxh':¬y.home<x.home:=hxh
     simp(disch:=try exact zd) [hj,hx,hxh,hxh',-getElem?_pos]
   .rintro st rfl
    unfold FL;simp(disch:=try exact zd) [-getElem?_pos];refine Ap (fun _=>⟨[(1,intV i),(3,.sc (.ptr 64 0)),(5,.sc (.ptr 128 0)),(6,.sc (.ptr 192 0)),(8,.sc (.ptr 640 0)),(9,.sc (.c (.sl []))),(17,intV 0)],
     [(64,some (.box [.c (.sl (Bb s.slots)),.c (.sl (Bi s.trail))])),(128,some (.box (wc t.row))),(192,some (.box [.nil,.nil])),(640,some (.box (wc (Bl y))))]⟩) 0 (by simp) (fun i hi=>by omega) ?_
    unfold Kf;simp(disch:=try exact zd) [-getElem?_pos];refine Ap (fun _=>⟨[(1,intV i),(3,.sc (.ptr 64 0)),(5,.sc (.ptr 128 0)),(6,.sc (.ptr 192 0)),(8,.sc (.ptr 640 0)),(9,.sc (.c (.sl []))),(18,intV 0)],
     [(64,some (.box [.c (.sl (Bb s.slots)),.c (.sl (Bi s.trail))])),(128,some (.box (wc t.row))),(192,some (.box [.nil,.nil])),(640,some (.box (wc (Bl y))))]⟩) 0 (by simp) (fun i hi=>by omega) ?_
    unfold Lx;rw[EA y];simp(disch:=try exact zd) [OC,hset,-getElem?_pos];exact fin
 .simp (disch:=try exact zd) [hin,hy,hv,hh,har,hr,hq,-getElem?_pos]
  refine Ak (fun j st=>st=⟨[(1,intV i),(3,.sc (.ptr 64 0)),(5,.sc (.ptr 128 0)),(6,.sc (.ptr 192 0)),(8,.sc (.ptr 640 0)),(9,.sc (.c (.sl []))),(15,tysV o2),(16,intV j)],
   [(64,some (.box [.c (.sl (Bb s.slots)),.c (.sl (Bi s.trail))])),(128,some (.box (wc t.row))),(192,some (.box [.nil,.nil])),(640,some (.box (wc (Bl y))))]⟩) o2.length (by simp[Bn]) ?_ ?_
  .rintro j st hj rfl
   obtain⟨x,hx⟩:=Ae hj;unfold FL;by_cases hxh:x.home>y.home
   .have hxh':y.home<x.home:=hxh
    simp(disch:=try exact zd) [hj,hx,hxh,hxh',-getElem?_pos];exact same 13
   .have hxh':¬y.home<x.home:=hxh
    simp(disch:=try exact zd) [hj,hx,hxh,hxh',-getElem?_pos]
  .rintro st rfl
   unfold FL;simp(disch:=try exact zd) [-getElem?_pos];refine Ap (fun _=>⟨[(1,intV i),(3,.sc (.ptr 64 0)),(5,.sc (.ptr 128 0)),(6,.sc (.ptr 192 0)),(8,.sc (.ptr 640 0)),(9,.sc (.c (.sl []))),(17,intV 0)],
    [(64,some (.box [.c (.sl (Bb s.slots)),.c (.sl (Bi s.trail))])),(128,some (.box (wc t.row))),(192,some (.box [.nil,.nil])),(640,some (.box (wc (Bl y))))]⟩) 0 (by simp) (fun i hi=>by omega) ?_
   unfold Kf;simp(disch:=try exact zd) [-getElem?_pos];refine Ap (fun _=>⟨[(1,intV i),(3,.sc (.ptr 64 0)),(5,.sc (.ptr 128 0)),(6,.sc (.ptr 192 0)),(8,.sc (.ptr 640 0)),(9,.sc (.c (.sl []))),(18,intV 0)],
    [(64,some (.box [.c (.sl (Bb s.slots)),.c (.sl (Bi s.trail))])),(128,some (.box (wc t.row))),(192,some (.box [.nil,.nil])),(640,some (.box (wc (Bl y))))]⟩) 0 (by simp) (fun i hi=>by omega) ?_
   unfold Lx;rw[EA y];simp(disch:=try exact zd) [OC,hset,-getElem?_pos];exact fin
variable {A:Af}
theorem UO (s:StoD)(t:Ty):∃r,IffB (t.kind=1/\0<=t.id/\t.id<s.slots.length) r/\(K A).call 281 [stoV s,tyV t] []=some r:=by
 refine fnE v281 ?_;unfold v281;by_cases h1:t.kind=1
 .by_cases h2:0<=t.id
  .by_cases h3:t.id<s.slots.length
   .simp (disch:=try exact zd) [h1,h2,h3]
    exact IffB.yes trivial
   .simp (disch:=try exact zd) [h1,h2,h3]
    exact IffB.no id
  .simp (disch:=try exact zd) [h1,h2]
   exact IffB.no id
 .simp (disch:=try exact zd) [h1]
  exact IffB.no id
theorem VE {n:Nat}(b:Ty):∀(s:StoD) (a:Ty),stoOk n s->tyS n a->a.size<=687194767360->tyS 0 b->b.size<=687194767360->s.trail.length+b.size<1000000->
 ∃r,StoR n (s.trail.length+b.size) s r/\(K A).call 252 [stoV s,tyV a,tyV b] []=some r:=by
 induction b using Ty.ind with
 |h b ih=>
 intro s a hs ha hal hb hbl htr;have hbn:=hb.mono (qac n);have hk1:b.kind≠1:=fun hk=>by
  have:=hb.one.1 hk;omega
 obtain⟨k1,_,_,hc1,_,_⟩:=HN (A:=A) s hs 200 (by omega) a ha hal;obtain⟨k2,_,_,hc2,_,_⟩:=HN (A:=A) s hs 200 (by omega) b hbn hbl;obtain⟨hx1,hx2⟩:=Jk hs ha hal;have hcx:=Jz (A:=A) s hs a ha;obtain⟨x,hxw⟩:∃x,x=AZ s a:=⟨_,rfl⟩;rw[<-hxw]at hx1 hx2 hcx;obtain⟨_,⟨y,_,_,hy3,rfl⟩,hcy⟩:=MC (A:=A) s hs b hbn hbl;obtain rfl:=hy3 hk1;obtain⟨_,⟨p,hp,rfl⟩,hsx⟩:=UO (A:=A) s x;obtain⟨_,⟨q,hq,rfl⟩,hsy⟩:=UO (A:=A) s y
 have hq0:q=false:=by
  cases q with
  |false=>rfl
  |true=>exact absurd (hq.1 rfl).1 hk1
 subst hq0;have hc1':(K A).call 234 [stoV s,tyV a,intV 200] []=some (intV k1,[]):=hc1;have hc2':(K A).call 234 [stoV s,tyV y,intV 200] []=some (intV k2,[]):=hc2;have hbp:=y.size_pos;have same:∀e:Int,StoR n (s.trail.length+y.size) s (.tu [stoV s,intV e],[]):=fun e=>⟨s,e,hs,by omega,ext.refl s,rfl⟩;refine fnE v252 ?_;unfold v252;by_cases hk1':200<k1
 .have hk1i:(200:Int)<k1:=by omega
  simp(disch:=try exact zd) [hc1',hk1',hk1i,-getElem?_pos];exact same 15
 .have hk1i:¬(200:Int)<k1:=by omega
  by_cases hk2':200<k2
  .have hk2i:(200:Int)<k2:=by omega
   simp(disch:=try exact zd) [hc1',hc2',hk1',hk1i,hk2',hk2i,-getElem?_pos];exact same 15
  .have hk2i:¬(200:Int)<k2:=by omega
   cases p with
   |true=>
    obtain⟨g1,g2,g3⟩:=hp.1 rfl;obtain⟨i,hi⟩:∃i:Nat,x.id=i:=⟨x.id.toNat,by omega⟩;have hsl:=hs.1;obtain⟨f1,_,i',z,f2,_,f3,f4⟩:=JR hs ha (by rw[<-hxw];exact g1);have hub:∀y,s.slots[i]?=some y->y.bound=false:=fun y hy=>by
     rw[<-hxw]at f1;rw[<-f1]at f2;have:i'=i:=(by omega);subst this;rw[f3]at hy;cases hy;exact f4
    obtain⟨_,⟨s2,e2,h1,h2,h2e,rfl⟩,hbd⟩:=Vd (A:=A) s hs (by omega) i (by omega) hub y hb hbl;simp(disch:=try exact zd) [hc1',hc2',hk1',hk1i,hk2',hk2i,hcx,hcy,hsx,hsy,hi,hbd,-getElem?_pos];exact⟨s2,e2,h1,by omega,h2e,rfl⟩
   |false=>
    by_cases a1:x.kind=y.kind
    .by_cases a2:x.name=y.name
     .by_cases a3:x.id=y.id
      .by_cases a4:x.home=y.home
       .by_cases a5:x.args.length=y.args.length
        .have hyl:=y.args_lt
         simp(disch:=try exact zd) [hc1',hc2',hk1',hk1i,hk2',hk2i,hcx,hcy,hsx,hsy,a1,a2,a3,a4,a5,-getElem?_pos];refine Ak (fun j st=>∃(s2:StoD) (e:Int),stoOk n s2/\s2.trail.length<=s.trail.length+((y.args.map Ty.size).take j).sum/\ext s s2/\st=⟨[(3,.sc (.ptr 64 0)),(6,.sc (.ptr 256 0)),(8,.sc (.ptr 1600 0)),(9,.sc (.ptr 1664 0)),(10,intV e),(11,intV j)],
          [(64,some (.box [.c (.sl (Bb s2.slots)),.c (.sl (Bi s2.trail))])),(256,some (.box [.nil,.nil])),(1600,some (.box (wc x.row))),(1664,some (.box (wc y.row)))]⟩) y.args.length ⟨s,0,hs,by simp,ext.refl s,by simp⟩ ?_ ?_
         .rintro j st hj ⟨s2,e,hs2,ht2,he2,rfl⟩
          obtain⟨u,hu⟩:=Ae (l:=x.args) (i:=j) (by omega);obtain⟨v,hv⟩:=Ae (l:=y.args) (i:=j) (by omega);have hum:=qc hu;have hvm:=qc hv;have hus:=Ty.arg_lt hum;have hvs:=Ty.arg_lt hvm;have hxm:(y.args.map Ty.size)[j]?=some v.size:=(by rw[qq,hv];rfl);have hsum:((y.args.map Ty.size).take (j+1)).sum=((y.args.map Ty.size).take j).sum+v.size:=(by rw[Bh hxm];simp)
          have hle:((y.args.map Ty.size).take (j+1)).sum<=(y.args.map Ty.size).sum:=DS;have hys:=y.size_eq;obtain⟨_,⟨s3,e3,g1,g2,g3,rfl⟩,hc⟩:=ih v hvm s2 u hs2 (hx1.arg hum) (by omega) (hb.arg hvm) (by omega) (by omega);unfold MG;by_cases he:e=0
          .simp (disch:=try exact zd) [hj,a5,he,hu,hv,hc,-getElem?_pos]
           exact⟨s3,g1,by omega,he2.trans g3,by simp⟩
          .simp (disch:=try exact zd) [hj,a5,he,-getElem?_pos]
           exact⟨s2,e,hs2,by omega,he2,rfl⟩
         .rintro st ⟨s2,e,hs2,ht2,he2,rfl⟩
          have hys:=y.size_eq;rw[qj (by simp)]at ht2;unfold MG;simp(disch:=try exact zd) [a5,-getElem?_pos];exact⟨s2,e,hs2,by omega,he2,rfl⟩
        .have a5':¬(x.args.length:Int)=y.args.length:=by omega
         simp(disch:=try exact zd) [hc1',hc2',hk1',hk1i,hk2',hk2i,hcx,hcy,hsx,hsy,a1,a2,a3,a4,a5,a5',-getElem?_pos];exact same 11
       .simp (disch:=try exact zd) [hc1',hc2',hk1',hk1i,hk2',hk2i,hcx,hcy,hsx,hsy,a1,a2,a3,a4,-getElem?_pos]
        exact same 11
      .simp (disch:=try exact zd) [hc1',hc2',hk1',hk1i,hk2',hk2i,hcx,hcy,hsx,hsy,a1,a2,a3,-getElem?_pos]
       exact same 11
     .simp (disch:=try exact zd) [hc1',hc2',hk1',hk1i,hk2',hk2i,hcx,hcy,hsx,hsy,a1,a2,-getElem?_pos]
      exact same 11
    .simp (disch:=try exact zd) [hc1',hc2',hk1',hk1i,hk2',hk2i,hcx,hcy,hsx,hsy,a1,-getElem?_pos]
     exact same 11
variable {A:Af}
theorem ZdF {n:Nat}(s:StoD)(a b:Ty)(hs:stoOk n s)(ha:tyS n a)(hal:a.size<=687194767360)(hb:tyS 0 b)(hbl:b.size<=687194767360)(ht:s.trail.length+b.size<1000000):
 ∃r,StoR n (s.trail.length+b.size) s r/\(K A).call 233 [stoV s,tyV a,tyV b] []=some r:=by
 obtain⟨_,⟨s2,e,h1,h2,h3,rfl⟩,hc⟩:=VE (A:=A) b s a hs ha hal hb hbl ht;refine fnE v233 ?_;unfold v233;by_cases he:e=0
 .simp (disch:=try exact zd) [hc,he,-getElem?_pos]
  exact⟨s2,0,h1,h2,h3,rfl⟩
 .simp (disch:=try exact zd) [hc,he,-getElem?_pos]
  exact⟨s,e,hs,by omega,ext.refl s,rfl⟩
def Zev (n T:Nat)(s0:StoD)(r:V×List Obj):Prop:=∃s:StoD,stoOk n s/\s.trail.length<=T/\ext s0 s/\r=(stoV s,[])
theorem TO {n:Nat}(s:StoD)(t:Ty)(hs:stoOk n s)(ht:tyS n t)(hl:t.size<=687194767360)(htr:s.trail.length<1000000):∃r,Zev n (s.trail.length+1) s r/\(K A).call 232 [stoV s,tyV t] []=some r:=by
 have hs0:=hs;obtain⟨h1,h2,h3,h4⟩:=hs0;obtain⟨_,⟨u,hu1,hu2,_,rfl⟩,hc⟩:=MC (A:=A) s hs t ht hl;refine fnE v232 ?_;unfold v232;by_cases hk:u.kind=1
 .obtain ⟨g1,g2,_⟩:=hu1.one.1 hk
  obtain⟨i,hi⟩:∃i:Nat,u.id=i:=⟨u.id.toNat,by omega⟩;obtain⟨y,hy⟩:=Ae (l:=s.slots) (i:=i) (by omega);have hin:i<s.slots.length:=by omega
  have hset:=LW (A:=A) s (by omega) h3 i y hy ⟨y.bound,y.ty,y.home,true⟩;rw[EA]at hset;simp only at hset;simp(disch:=try exact zd) [hc,hk,hi,hy,hin,-getElem?_pos];rw[EA y];simp(disch:=try exact zd) [hi,hset,-getElem?_pos];exact⟨_,hs.set (i:=i) (x:=⟨y.bound,y.ty,y.home,true⟩) (h4 y (qc hy)) (c:=⟨i,y,false⟩) htr,by simp,ext.set (fun z hz hb=>by rw[hy]at hz;cases hz;exact⟨hb,rfl⟩),rfl⟩
 .simp (disch:=try exact zd) [hc,hk,-getElem?_pos]
  exact⟨s,hs,by omega,ext.refl s,rfl⟩
def WD (l:List Ty)(r:V×List Obj):Prop:=∃(M:Nat) (l2:List Ty),l2.length=l.length/\(∀(i:Nat) x y,l[i]?=some x->l2[i]?=some y->tyS M y/\y.size<=x.size)/\r=(tysV l2,[])
theorem QW {n:Nat}(l:List Ty)(h:(l.map Ty.size).sum<=687194767360)(hS:∀t∈l,tyS n t):∃r,WD l r/\(K A).call 236 [tysV l] []=some r:=by
 have hlen:=Ty.len_le l;obtain⟨_,⟨v,⟨g1,g2,g3⟩,rfl⟩,hv⟩:=IH (A:=A) (c:=0) l h hS;refine fnE v236 ?_;unfold v236;simp(disch:=try exact zd) [hv];refine Ak (fun i st=>∃s:List AssD,s.length=i/\(∀(j:Nat) x,j<i->v[j]?=some x->∃a∈s,a.id=x)/\(∀a∈s,tyS v.length a.ty/\a.ty.size<=1)/\
  st=⟨[(0,tysV l),(3,Cl v),(4,.sc (.arr 321 i)),(5,intV i)],[(321,some (.arr 6 (wr (CY s)) 0))]⟩) v.length ⟨[],rfl,by omega,by simp,by simp⟩ ?_ ?_
 .rintro i st hi ⟨s,hs,q1,q2,rfl⟩
  obtain⟨x,hx⟩:=Ae hi;have hb:=LY (A:=A) i;have he:(W.c (.int .i64 x)::wc (Ty.mk 1 [] i 0 []).row)=wc (Bw ⟨x,.mk 1 [] i 0 []⟩):=rfl;unfold Jo;simp(disch:=try exact zd) [hi,hx,hb,he,hs,-getElem?_pos];refine⟨s++[⟨x,.mk 1 [] i 0 []⟩],by simp[hs],?_,?_,by simp⟩
  .intro j y hj hy
   by_cases hji:j<i
   .obtain ⟨a,ha,hai⟩:=q1 j y hji hy
    exact⟨a,by simp[ha],hai⟩
   .obtain rfl:j=i:=by omega
    rw[hx]at hy;cases hy;exact⟨_,qp.2 (.inr (qk.2 rfl)),rfl⟩
  .intro a ha
   rcases qp.1 ha with ha|ha
   .exact q2 a ha
   .simp only [qk] at ha
    subst ha;exact⟨H9 hi,by simp[Ty.size_leaf]⟩
 .rintro st ⟨s,hs,q1,q2,rfl⟩
  unfold Jo;simp(disch:=try exact zd) [-getElem?_pos];refine Ak (fun i st=>∃p:Nat,st=⟨[(0,tysV l),(4,.sc (.arr 321 v.length)),(6,.sc (.arr 1601 i)),(7,intV i)],[(321,some (.arr 6 (wr (CY s)) p)),(1601,some (.arr 5 (wr (Ty.rows ((l.map (Bp s)).take i))) 0))]⟩) l.length ⟨0,by simp⟩ ?_ ?_
  .rintro i st hi ⟨p,rfl⟩
   obtain⟨x,hx⟩:=Ae hi;have hxm:=qc hx;have hxs:=GF (qat (f:=Ty.size) hxm);have hc:=HF (A:=A) s (by omega) x (by omega);have hmx:(l.map (Bp s))[i]?=some (Bp s x):=(by rw[qq,hx];rfl);have hlen2:((l.map (Bp s)).take i).length=i:=(by simp;omega);unfold Oe;simp(disch:=try exact zd) [hi,hx,hc,hs,hlen2,Bh hmx,-getElem?_pos]
  .rintro st ⟨p,rfl⟩
   have htk:(l.map (Bp s)).take l.length=l.map (Bp s):=qj (by simp);unfold Oe;simp(disch:=try exact zd) [htk,-getElem?_pos];refine⟨v.length,l.map (Bp s),by simp,?_,rfl⟩;intro i x y hx hy;rw[qq,hx]at hy;cases hy;have hxm:=qc hx;refine⟨K6 (c:=0) (l:=v) (fun i hi=>?_) (fun a ha=>(q2 a ha).1) (hS x hxm) (g2 x hxm),?_⟩
   .obtain ⟨j,hj,he⟩:=qO hi
    exact q1 j i hj (by rw[qi hj,he])
   .have:=LX (qg 1) (fun a ha=>(q2 a ha).2) x
    omega
variable {A:Af}
@[simp] theorem cut_n2 (e:EntD):cut (Br e) 2 5=some e.ty.row:=by rw[Br,Ty.row_eq];rfl
theorem ZY (s:List AssD)(hs:s.length<=687194767360)(t:Ty)(hl:t.size<=687194767360):(K A).call 215 [CM s,tyV t] []=some (tyV (Bp s t),[]):=by
 have hc:=HF (A:=A) s hs t hl;refine fnO v215 ?_;unfold v215;simp(disch:=try exact zd) [hc]
theorem Zw (s:List AssD)(hs:s.length<=687194767360)(c:Int)(t:Ty)(hl:t.size<=687194767360):(K A).call 192 [CM s,schV c t] []=some (schV c (Bp s t),[]):=by
 have hc:=ZY (A:=A) s hs t hl;refine fnO v192 ?_;unfold v192;simp(disch:=try exact zd) [AU,hc]
theorem NG {l:List Ty}{m:Nat}(h:∀x∈l,x.size<=m){k:Nat}(hl:l.length<=k):(l.map Ty.size).sum<=k*m:=
 qt (G3 h) (qE m hl)
theorem Zbp {n m:Nat}(hn:n<=1000000)(ctx:List EntD)(hctx:ctxOk n m ctx)(goal:Ty)(hg:tyS 0 goal)(hb:goal.size+n*m<=687194767360):
 (K A).call 190 [tyV goal,Bc ctx,.sc (.c (.sl []))] []=some (.tu [stoV ⟨[],[]⟩,CM []],[]):=by
 obtain⟨hc1,hc2⟩:=hctx;have hs:=NX (A:=A) ctx (by omega);have hsl:=Hw ctx ctx.length;have hsub:=Gz ctx ctx.length;generalize B1 ctx ctx.length=l at *
 have hnew:=Wy (A:=A);refine fnO v190 ?_;unfold v190;simp(disch:=try exact zd) [hs];refine Ap (fun i=>⟨[(2,.sc (.c (.sl []))),(3,.sc (.ptr 64 0)),(6,.sc (.ptr 128 0)),(8,.sc (.arr 257 i)),(9,Bc l),(10,intV i)],
  [(64,some (.box (wc goal.row))),(128,some (.box [.nil,.nil])),(257,some (.arr 5 (wr (Ty.rows ((l.map EntD.ty).take i))) 0))]⟩) l.length (by simp) ?_ ?_
 .intro i hi
  obtain⟨x,hx⟩:=Ae hi;have hmx:(l.map EntD.ty)[i]?=some x.ty:=by rw[qq,hx];rfl
  have hlen2:((l.map EntD.ty).take i).length=i:=by simp;omega
  unfold JU;simp(disch:=try exact zd) [hi,hx,hlen2,Bh hmx,-getElem?_pos]
 .have htk:(l.map EntD.ty).take l.length=l.map EntD.ty:=qj (by simp)
  have hty:∀x∈l.map EntD.ty,tyB 0 900 x/\x.size<=m:=by
   intro x hx;obtain⟨e,he,rfl⟩:=qH.1 hx;obtain⟨_,⟨c,hc,hcl⟩,x3,x4⟩:=hc2 e (hsub e he);exact⟨x3.mono (qg 0) (by omega),x4⟩
  have hsz:=NG (fun x hx=>(hty x hx).2) (show(l.map EntD.ty).length<=n by simp;omega);obtain⟨_,⟨v,⟨g1,g2,g3⟩,rfl⟩,hv⟩:=IH (A:=A) (n:=0) (c:=900) (goal::l.map EntD.ty) (by simp only[qu,qaa];omega) (by
   intro x hx;rcases qD.1 hx with rfl|hx
   .exact hg.up
   .exact(hty x hx).1)
  have hv0:v=[]:=by
   cases v with
   |nil=>rfl
   |cons a r=>have:=g3 a (by simp);omega
  subst hv0;have hrow:Ty.rows (goal::l.map EntD.ty)=goal.row::Ty.rows (l.map EntD.ty):=by rw[Ty.rows]
  rw[tysV,hrow]at hv;have hcomm:(l.length+1==1+l.length)=true:=by simp;omega
  simp only[Cl,Bn,qaj]at hv;unfold JU;simp(disch:=try exact zd) [htk,hv,hcomm,hnew,-getElem?_pos];refine Ap (fun _=>⟨[(2,.sc (.c (.sl []))),(6,.sc (.ptr 128 0)),(11,.sc (.c (.sl []))),(12,.sc (.ptr 2112 0)),(13,.sc (.arr 2241 0)),(14,intV 0)],
   [(128,some (.box [.nil,.nil])),(257,some (.arr 5 (wr (Ty.rows (l.map EntD.ty))) 0)),(1728,some (.arr 5 (wc goal.row::wr (Ty.rows (l.map EntD.ty))) (l.length+1))),(2112,some (.box [.c (.sl []),.c (.sl [])])),(2241,some (.arr 6 [] 0))]⟩) 0 rfl (fun i hi=>by omega) ?_
  unfold R0;simp(disch:=try exact zd) [-getElem?_pos]
end Go.Vs.Tryz
