/- Renaming and arms by the reference, walked. -/
import Derived.Test.YtccmnfpbcmccpaaGreatDoorRJs
set_option linter.unusedSimpArgs false
set_option linter.unusedVariables false
set_option linter.deprecated false
set_option maxRecDepth 9999
set_option maxHeartbeats 64000000
set_option maxRecDepth 10000
namespace Go.Vs.Tryz
open Go Go.Vs
variable {A:Zab}
theorem Zv4 {x con:Str}{b:Exp}{p:List Str×Exp}(hw:p.2.wf):newA x con b p∉allP p.2:=by
 intro h;have hf:=Zbn 0 (Zaf b++ZaB p.2++[x,con]++p.1);have h2:=(Zgj p.2 (s:=newA x con b p) (Zgf _) hw).2 h;exact hf (ql.2 (.inl (ql.2 (.inl (ql.2 (.inr h2))))))
theorem Zo1 {x:Str}{b e:Exp}(hw:e.wf):newR x b e∉allP e:=by
 intro h;have hf:=Zbn 0 (Zaf b++ZaB e++[x]);have h2:=(Zgj e (s:=newR x b e) (Zgf _) hw).2 h;exact hf (ql.2 (.inl (ql.2 (.inr h2))))
theorem Zyw (x:Str)(b e:Exp):newR x b e≠x:=fun h=>Zbn 0 (Zaf b++ZaB e++[x]) (by
 rw[show Zat 0 (Zaf b++ZaB e++[x])=x from h];simp)
theorem Zni {n:Nat}{e:Exp}{f to:Str}(hs:shp e)(hw:e.weight<=n)(ht:to∉allP e):shp (refS n e f (varX to))/\(refS n e f (varX to)).weight=e.weight:=by
 have h:=Zfb f to n e e (ZaN e) hw hs ht;exact⟨sameP.shp _ _ h (Zko f to e hs),(sameP.weight _ _ h).symm.trans (Zfv f to e)⟩
theorem Zh1 {n:Nat}{x con:Str}{b e:Exp}{vs:List Str}(hs:shp e)(hw:e.weight<=n)(hx:x∉vs):∀k,shp (Zb7 (refS n) x b con vs e k).2/\(Zb7 (refS n) x b con vs e k).2.weight=e.weight/\
 (Zb7 (refS n) x b con vs e k).1.length=vs.length/\x∉(Zb7 (refS n) x b con vs e k).1
 |0=>⟨hs,rfl,rfl,hx⟩
 |k+1=>by
  obtain⟨h1,h2,h3,h4⟩:=Zh1 (b:=b) (con:=con) hs hw hx k;rw[ZcN];generalize Zb7 (refS n) x b con vs e k=p at *
  unfold Zdb;cases p.1[k]? with
  |none=>exact⟨h1,h2,h3,h4⟩
  |some v=>
   simp only;split
   .obtain ⟨g1,g2⟩:=Zni (n:=n) (f:=v) h1 (by omega) (Zv4 (x:=x) (con:=con) (b:=b) h1.wf)
    refine⟨g1,g2.trans h2,by rw[List.length_set];exact h3,fun hm=>?_⟩;rcases ZkF hm with hm|hm
    .exact h4 hm
    .have hf:=Zbn 0 (Zaf b++ZaB p.2++[x,con]++p.1)
     apply hf;rw[show Zat 0 (Zaf b++ZaB p.2++[x,con]++p.1)=x from hm.symm];simp
   .exact⟨h1,h2,h3,h4⟩
def Zq1 (A:Zab)(n:Nat):Prop:=∀(e:Exp) (x:Str) (b:Exp),e.weight<=n->e.weight<=16777216->shp e->b.wf->b.weight<=16777216->(K A).call 103 [expV e,strV x,expV b] []=some (expV (refS n e x b),[])
theorem Zm0 (s:Str):(varX s).wf/\(varX s).weight=1:=by
 refine⟨?_,?_⟩
 .rw [Exp.wf_eq]
  refine⟨⟨fun h=>?_,fun _=>rfl,fun _=>rfl⟩,fun x hx=>?_⟩
  .exact absurd (show(1:Int)=8 from h) (by decide)
  .simp[varX,Exp.children,Exp.kids,Exp.arms]at hx
 .rw [Exp.weight_eq]
  simp[varX,Exp.children,Exp.kids,Exp.arms]
theorem Zof (s:Str):expV (varX s)=.ag [.c (.int .i64 1),.c (.int .i64 0),.c (.str s),.c (.int .i64 0),.c (.sl []),.c (.sl []),.c (.int .i64 0),.c (.str []),.c (.int .i64 0),.c (.int .i64 0),.c (.sl [])]:=by
 rw[expV,Exp.row_eq];simp[varX,Exp.kind,Exp.pos,Exp.name,Exp.num,Exp.kids,Exp.arms,Exp.ty,Exp.rows,Exp.armRows,tz,Ty.kind,Ty.name,Ty.id,Ty.home,Ty.args,Ty.rows,wc]
theorem Zuw (ks:List Exp):expV (.mk 5 0 [] 0 ks [] tz)=.ag [.c (.int .i64 5),.c (.int .i64 0),.c (.str []),.c (.int .i64 0),.c (.sl (Exp.rows ks)),.c (.sl []),.c (.int .i64 0),.c (.str []),.c (.int .i64 0),.c (.int .i64 0),.c (.sl [])]:=by
 rw[expV,Exp.row_eq];simp[Exp.kind,Exp.pos,Exp.name,Exp.num,Exp.kids,Exp.arms,Exp.ty,Exp.armRows,tz,Ty.kind,Ty.name,Ty.id,Ty.home,Ty.args,Ty.rows,wc]
theorem ZhR {n:Nat}(hI:Zq1 A n)(e:Exp)(f t:Str)(hn:e.weight<=n)(hl:e.weight<=16777216)(hs:shp e):(K A).call 163 [expV e,strV f,strV t] []=some (expV (refS n e f (varX t)),[]):=by
 refine fnO v163 ?_;have h:=hI e f (varX t) hn hl hs (Zm0 t).1 (by rw[(Zm0 t).2];omega);have hrow:=Za7 (refS n e f (varX t));generalize refS n e f (varX t)=r at *
 rw[Zof]at h;unfold v163;simp(maxSteps:=4000000) (disch:=first|exact zd|fail) [h,hrow,-getElem?_pos]
def Zcv (n:Nat)(x:Str)(b:Exp)(a:ArmH×Exp):ArmH×Exp:=if x∈a.1.vars then a else ((Zc3 (refS n) x b a).1,refS n (Zc3 (refS n) x b a).2 x b)
theorem arm91 {n:Nat}(hI:Zq1 A n)(x:Str)(b:Exp)(hb:b.wf)(hbw:b.weight<=16777216)(a:ArmH×Exp)(hs:shp a.2)(hn:a.2.weight<=n)(hl0:a.2.weight<=16777216)(hl:a.2.weight+a.1.vars.length<=33554432):
 (K A).call 164 [armV a,strV x,expV b] []=some (armV (Zcv n x b a),[]):=by
 refine fnO v164 ?_;have hc0:=ZmU (A:=A) a.1.vars x (by omega);unfold Zcv Zc3;unfold v164;by_cases hx:x∈a.1.vars
 .rw [if_pos hx]
  have hrow:wc (Zaw a)=[.c (.int .i64 a.1.pos),.c (.str a.1.con),.c (.sl (Zai a.1.vars)),.c (.int .i64 a.2.kind),.c (.int .i64 a.2.pos),.c (.str a.2.name),.c (.int .i64 a.2.num),.c (.sl (Exp.rows a.2.kids)),.c (.sl (Exp.armRows a.2.arms)),.c (.int .i64 a.2.ty.kind),.c (.str a.2.ty.name),.c (.int .i64 a.2.ty.id),.c (.int .i64 a.2.ty.home),.c (.sl (Ty.rows a.2.ty.args))]:=by rw[Zaw,Exp.row_eq];rfl
  simp(maxSteps:=4000000) (disch:=first|exact zd|fail) [hc0,hx,hrow,-getElem?_pos]
 .rw [if_neg hx,if_neg hx]
  have hok:=Zh1 (n:=n) (b:=b) (con:=a.1.con) hs hn hx;have hst:=ZcN (refS n) x b a.1.con a.1.vars a.2;have h0:Zb7 (refS n) x b a.1.con a.1.vars a.2 0=(a.1.vars,a.2):=rfl;have hfree:=Zmh (A:=A) b hb (by omega);rw[ZeS b hb]at hfree;have hfl:=Zb8 b;obtain⟨⟨ap,ac,vars⟩,ab⟩:=a;simp only at *
  have hsp0:splice (wc (Zaw ((⟨ap,ac,vars⟩:ArmH),ab))) 2 [W.arr 768 vars.length]=some (W.c (.int .i64 ap)::W.c (.str ac)::W.arr 768 vars.length::wc ab.row):=by
   rw[Zaw,Exp.row_eq ab];rfl
  have hcu1:∀y:Exp,cut (W.c (.int .i64 ap)::W.c (.str ac)::W.arr 768 vars.length::wc y.row) 1 1=some [W.c (.str ac)]:=by
   intro y;rw[Exp.row_eq y];rfl
  have hcu2:∀y:Exp,cut (W.c (.int .i64 ap)::W.c (.str ac)::W.arr 768 vars.length::wc y.row) 2 1=some [W.arr 768 vars.length]:=by
   intro y;rw[Exp.row_eq y];rfl
  have hcu3:∀y:Exp,cut (W.c (.int .i64 ap)::W.c (.str ac)::W.arr 768 vars.length::wc y.row) 3 11=some (wc y.row):=by
   intro y;rw[Exp.row_eq y];rfl
  have hsp3:∀y z:Exp,splice (W.c (.int .i64 ap)::W.c (.str ac)::W.arr 768 vars.length::wc y.row) 3 (wc z.row)=some (W.c (.int .i64 ap)::W.c (.str ac)::W.arr 768 vars.length::wc z.row):=by
   intro y z;rw[Exp.row_eq y,Exp.row_eq z];rfl
  simp(maxSteps:=4000000) (disch:=first|exact zd|fail) [hc0,hx,hsp0,-getElem?_pos];refine Zak (fun k=>⟨[(1,strV x),(3,.sc (.ptr 64 0)),(5,.sc (.ptr 128 0)),(6,.sc (.ptr 192 0)),(7,intV k)],
   [(64,some (.box (W.c (.int .i64 ap)::W.c (.str ac)::W.arr 768 vars.length::wc (Zb7 (refS n) x b ac vars ab k).2.row))),(128,some (.box (wc b.row))),(192,some (.box [zi,zs,.nil,zi,zi,zs,zi,.nil,.nil,zi,zs,zi,zi,.nil])),(768,some (.arr 1 (wr (Zai (Zb7 (refS n) x b ac vars ab k).1)) 0))]⟩) vars.length ?_ ?_ ?_
  .simp[h0]
  .intro k hk
   obtain⟨o1,o2,o3,o4⟩:=hok k;rw[hst k];generalize Zb7 (refS n) x b ac vars ab k=p at *
   obtain⟨vs,bk⟩:=p;simp only at *
   obtain⟨v,hvk⟩:=Zaa (l:=vs) (i:=k) (by omega);have hcl:=Znn (A:=A) v x b bk hb o1.wf (by omega) (by omega);have hall:=Zxz (A:=A) bk (by omega);have hal:=Zd6 bk;have hun:=ZkZ (A:=A) (Zaf b++ZaB bk++[x,ac]++vs) (by simp;omega);have hren:=fun to=>ZhR hI bk v to (by omega) (by omega) o1;have hkI:(k:Int)<vars.length:=(by omega);unfold Zdb newA;simp only[hvk];unfold Zrq;by_cases hh:v∈Zaf b/\x∈Zaf bk
   .rw [if_pos hh]
    generalize Zaf b=P at *
    generalize ZaB bk=R at *
    generalize Zat 0 (P++R++[x,ac]++vs)=to at *
    have hrv:=hren to;generalize refS n bk v (varX to)=bk2 at *
    simp only[qab,qa3,qac]at hun;have hset:=Zid vs k to;have hfold:wr (Zai (P++R))++[W.c (.str x)]::[W.c (.str ac)]::wr (Zai vs)=wr (Zai (P++(R++x::ac::vs))):=(by simp[Zai,ZeN,wr,wc]);have hcm:2+vars.length=vars.length+2:=(by omega);simp(maxSteps:=4000000) (disch:=first|exact zd|fail) [hk,hkI,hvk,o3,hcu1,hcu2,hcu3,hsp3,hcl,hh,hfree,hall,hun,hrv,hset,hfold,hcm,qaE,-getElem?_pos]
   .rw [if_neg hh]
    simp(maxSteps:=4000000) (disch:=first|exact zd|fail) [hk,hkI,hvk,o3,hcu1,hcu2,hcu3,hcl,hh,-getElem?_pos]
  .obtain ⟨o1,o2,o3,o4⟩:=hok vars.length
   generalize Zb7 (refS n) x b ac vars ab vars.length=p at *
   obtain⟨vs,bk⟩:=p;simp only at *
   have hr:=hI bk x b (by omega) (by omega) o1 hb hbw;generalize refS n bk x b=r at *
   have hrow:wc (Zaw ((⟨ap,ac,vs⟩:ArmH),r))=[.c (.int .i64 ap),.c (.str ac),.c (.sl (Zai vs)),.c (.int .i64 r.kind),.c (.int .i64 r.pos),.c (.str r.name),.c (.int .i64 r.num),.c (.sl (Exp.rows r.kids)),.c (.sl (Exp.armRows r.arms)),.c (.int .i64 r.ty.kind),.c (.str r.ty.name),.c (.int .i64 r.ty.id),.c (.int .i64 r.ty.home),.c (.sl (Ty.rows r.ty.args))]:=(by rw[Zaw,Exp.row_eq];rfl)
   have hrowb:wc r.row=[.c (.int .i64 r.kind),.c (.int .i64 r.pos),.c (.str r.name),.c (.int .i64 r.num),.c (.sl (Exp.rows r.kids)),.c (.sl (Exp.armRows r.arms)),.c (.int .i64 r.ty.kind),.c (.str r.ty.name),.c (.int .i64 r.ty.id),.c (.int .i64 r.ty.home),.c (.sl (Ty.rows r.ty.args))]:=(by rw[Exp.row_eq];rfl);unfold Zrq
   simp(maxSteps:=4000000) (disch:=first|exact zd|fail) [hr,hrow,hrowb,hcu2,hcu3,hsp3,o3,-getElem?_pos]
theorem Zvr {n:Nat}{e:Exp}{x:Str}{b:Exp}(hk:e.kind=4\/e.kind=7)(hs:shp1 e)(hx:e.name=x):refS (n+1) e x b=e:=by
 have hP:ZdI (refS n) x b e=e:=by
  unfold ZdI;rw[if_pos (by omega)];unfold Zd0;rw[if_pos (.inl hx)]
 have hc:refC n e x b=e.children:=by
  refine qC fun i=>?_;cases h:e.children[i]? with
  |none=>rw[qaN]at h |-;rw[refC_len,<-e.children_len];exact h
  |some k=>
   have hbd:e.bound i=[e.name]:=(by rw[ZaM,if_pos (by omega)]);rw[Zfk h,hbd,if_pos (by simp[hx])]
 rw[Zcz,if_neg (by omega),hP,hc,ZvT]
theorem Znz {n:Nat}{e:Exp}{x:Str}{b:Exp}(hk:e.kind=4\/e.kind=7)(hs:shp1 e)(hx:e.name≠x):
 refS (n+1) e x b=.mk e.kind e.pos (Zd0 (refS n) x b e).name e.num ((Zd0 (refS n) x b e).kids.map fun k=>refS n k x b) [] e.ty:=by
 have ha:e.arms=[]:=hs.1.2.1 (by omega);have hb:∀e':Exp,e'.kind=e.kind->e'.name≠x->e'.arms=[]->Za6 e' (refC n e' x b)=.mk e'.kind e'.pos e'.name e'.num (e'.kids.map fun k=>refS n k x b) [] e'.ty:=by
  intro e' h1 h2 h3;have hr:refC n e' x b=e'.kids.map fun k=>refS n k x b:=by
   unfold refC;have hc:e'.children=e'.kids:=(by simp[Exp.children,h3]);rw[hc];refine qC fun i=>?_;rw[qi,qi,qat];cases e'.kids[i]? with
   |none=>rfl
   |some k=>
    simp only[qp,qaP];have hbd:e'.bound i=[e'.name]:=(by rw[ZaM,if_pos (by omega)]);rw[hbd,if_neg (by rw[qj];exact fun q=>h2 q.symm)]
  rw[hr];unfold Za6;rw[h3,qf (by simp)];rfl
 have hP:ZdI (refS n) x b e=Zd0 (refS n) x b e:=by unfold ZdI;rw[if_pos (by omega)]
 rw[Zcz,if_neg (by omega),hP];unfold Zd0;split
 .rw[hb e rfl hx ha]
 .refine hb _ ?_ ?_ ?_
  .rfl
  .exact Zyw x b e
  .exact ha
theorem Zwe {n:Nat}{p nu:Int}{nm:Str}{k0 k1:Exp}{ty:Ty}{x:Str}{b:Exp}:
 refS (n+1) (.mk 6 p nm nu [k0,k1] [] ty) x b=if nm=x then .mk 6 p nm nu [refS n k0 x b,k1] [] ty else if nm∈Zaf b/\x∈Zaf k1 then
  .mk 6 p (newR x b (.mk 6 p nm nu [k0,k1] [] ty)) nu [refS n k0 x b,refS n (refS n k1 nm (varX (newR x b (.mk 6 p nm nu [k0,k1] [] ty)))) x b] [] ty else .mk 6 p nm nu [refS n k0 x b,refS n k1 x b] [] ty:=by
 have hnx:=Zyw x b (.mk 6 p nm nu [k0,k1] [] ty);have hb:∀nm' k1',Za6 (.mk 6 p nm' nu [k0,k1'] [] ty) (refC n (.mk 6 p nm' nu [k0,k1'] [] ty) x b)=.mk 6 p nm' nu [refS n k0 x b,if x=nm' then k1' else refS n k1' x b] [] ty:=by
  intro nm' k1';have h0:(Exp.mk 6 p nm' nu [k0,k1'] [] ty).bound 0=[]:=rfl;have h1:(Exp.mk 6 p nm' nu [k0,k1'] [] ty).bound 1=[nm']:=rfl;simp[refC,Za6,Exp.children,Exp.kids,Exp.arms,Exp.kind,Exp.pos,Exp.name,Exp.num,Exp.ty,h0,h1,ZaX]
 have hP:ZdI (refS n) x b (.mk 6 p nm nu [k0,k1] [] ty)=Zd0 (refS n) x b (.mk 6 p nm nu [k0,k1] [] ty):=rfl;rw[Zcz,Znd,if_neg (show ¬(6:Int)=1 by decide),hP];have hh:hitP x (Zaf b) nm [k1]↔nm∈Zaf b/\x∈Zaf k1:=by simp[hitP]
 by_cases h1:nm=x
 .rw [if_pos h1]
  have:Zd0 (refS n) x b (.mk 6 p nm nu [k0,k1] [] ty)=.mk 6 p nm nu [k0,k1] [] ty:=by unfold Zd0;exact if_pos (.inl h1)
  rw[this,hb,if_pos h1.symm]
 .rw [if_neg h1]
  by_cases h2:nm∈Zaf b/\x∈Zaf k1
  .rw [if_pos h2]
   have:Zd0 (refS n) x b (.mk 6 p nm nu [k0,k1] [] ty)=.mk 6 p (newR x b (.mk 6 p nm nu [k0,k1] [] ty)) nu [k0,refS n k1 nm (varX (newR x b (.mk 6 p nm nu [k0,k1] [] ty)))] [] ty:=by
    unfold Zd0;rw[if_neg (by
     rintro(q|q|q)
     .exact h1 q
     .exact absurd (show 2<=1 from q) (by decide)
     .exact q (hh.2 h2))]
    rfl
   rw[this,hb,if_neg (Ne.symm hnx)]
  .rw [if_neg h2]
   have:Zd0 (refS n) x b (.mk 6 p nm nu [k0,k1] [] ty)=.mk 6 p nm nu [k0,k1] [] ty:=(by unfold Zd0;exact if_pos (.inr (.inr fun q=>h2 (hh.1 q))));rw[this,hb,if_neg (Ne.symm h1)]
theorem Zvz {n:Nat}{e:Exp}{x:Str}{b:Exp}(k1:e.kind≠1)(k4:¬(e.kind=4\/e.kind=6\/e.kind=7))(hs:shp e)(hn:e.weight<=n+1):
 refS (n+1) e x b=.mk e.kind e.pos e.name e.num (e.kids.map fun k=>refS n k x b) (e.arms.map (Zcv n x b)) e.ty:=by
 have hP:ZdI (refS n) x b e=.mk e.kind e.pos e.name e.num e.kids (e.arms.map (Zc3 (refS n) x b)) e.ty:=by
  unfold ZdI;rw[if_neg k4];split
  .rfl
  .rename_i h8
   have ha:=hs.one.1.2.1 h8;rw[ha];cases e;cases ha;rfl
 rw[Zcz,if_neg k1,hP];have hr:refC n (.mk e.kind e.pos e.name e.num e.kids (e.arms.map (Zc3 (refS n) x b)) e.ty) x b=(e.kids.map fun k=>refS n k x b)++e.arms.map fun a=>(Zcv n x b a).2:=by
  refine qC fun i=>?_;by_cases hi:i<e.kids.length
  .obtain ⟨k,hk⟩:=Zaa hi
   have hc:(Exp.mk e.kind e.pos e.name e.num e.kids (e.arms.map (Zc3 (refS n) x b)) e.ty).children[i]?=some k:=by
    rw[ZaC,qx hi];exact hk
   have hbd:(Exp.mk e.kind e.pos e.name e.num e.kids (e.arms.map (Zc3 (refS n) x b)) e.ty).bound i=[]:=by
    rw[Zfj,if_neg (by omega),if_neg (by
     rintro⟨q,hp⟩;have:=hs.one.1.1 q;omega)]
   rw[Zfk hc,qx (by simpa using hi),qi,hk,hbd];simp
  .cases ha:e.arms[i-e.kids.length]? with
   |none=>
    rw[qaN]at ha;rw[qY (by rw[refC_len];simp only[Ze2,ZcL,qan];omega),qY (by simp only[qv,qan];omega)]
   |some a=>
    have h8:e.kind=8:=qP fun q=>by
     rw[hs.one.1.2.1 q]at ha;simp at ha
    have hk1:=hs.one.1.1 h8;have hc:(Exp.mk e.kind e.pos e.name e.num e.kids (e.arms.map (Zc3 (refS n) x b)) e.ty).children[i]?=some (Zc3 (refS n) x b a).2:=by
     rw[ZaC,qN (by omega),qi,qi,ha];rfl
    have hbd:(Exp.mk e.kind e.pos e.name e.num e.kids (e.arms.map (Zc3 (refS n) x b)) e.ty).bound i=(Zc3 (refS n) x b a).1.vars:=by
     rw[Zfj,if_neg (by omega),if_pos ⟨h8,by omega⟩,qi,show i-1=i-e.kids.length by omega,ha];rfl
    rw[Zfk hc,qN (by simp only[qan];omega),qi,qan,ha,hbd];simp only[qp,qb];unfold Zcv;have hm:=Zbt (qa ha);by_cases hx:x∈a.1.vars
    .have:Zc3 (refS n) x b a=a:=by unfold Zc3;exact if_pos hx
     rw[this,if_pos hx,if_pos hx]
    .have ho:=(Zh1 (n:=n) (b:=b) (con:=a.1.con) (hs.child hm) (by have:=Exp.child_lt hm;omega) hx a.1.vars.length).2.2.2
     have hv:x∉(Zc3 (refS n) x b a).1.vars:=by
      unfold Zc3;rw[if_neg hx];exact ho
     rw[if_neg hv,if_neg hx]
 rw[hr];unfold Za6;simp only[Ze2,ZcL,Znd,Zyy,ZnR,Zyp,ty_mk];have hz:ZaX (e.arms.map (Zc3 (refS n) x b)) (e.arms.map fun a=>(Zcv n x b a).2)=e.arms.map (Zcv n x b):=by
  unfold ZaX;rw[List.zipWith_map,List.zipWith_self];refine qJ fun a _=>?_;unfold Zcv Zc3;split<;>rfl
 congr 1
 .rw[List.take_append_of_le_length (by simp),qf (by simp)]
 .rw[List.drop_append_of_le_length (by simp),qaa (by simp),qac,hz]
variable {A:Zab}
theorem ZmT {n:Nat}(e:Exp)(x:Str)(b:Exp)(hk:e.kind=1):(K A).call 103 [expV e,strV x,expV b] []=some (expV (refS (n+1) e x b),[]):=by
 refine fnO v103 ?_;have hrow0:=Za7 e;have hrowb:=Za7 b;rw[Zcz,if_pos hk];unfold v103;by_cases hx:e.name=x
 .rw [if_pos hx]
  simp(maxSteps:=4000000) (disch:=first|exact zd|fail) [hk,hx,hrowb,-getElem?_pos]
 .rw [if_neg hx]
  simp(maxSteps:=4000000) (disch:=first|exact zd|fail) [hk,hx,hrow0,-getElem?_pos]
theorem Zqg {ks:List Exp}{x:Str}:x∈Zaf (.mk 5 0 [] 0 ks [] tz)↔∃k∈ks,x∈Zaf k:=by
 have hc:(Exp.mk 5 0 [] 0 ks [] tz).children=ks:=by rw[ZaC];simp
 have hb:∀i,(Exp.mk 5 0 [] 0 ks [] tz).bound i=[]:=fun i=>by rw[Zfj,if_neg (by omega),if_neg (by omega)]
 rw[Zbs (show(Exp.mk 5 0 [] 0 ks [] tz).kind≠1 from(by decide:¬(5:Int)=1)),hc];constructor
 .rintro ⟨i,k,hk,h,_⟩
  exact⟨k,qa hk,h⟩
 .rintro ⟨k,hk,h⟩
  obtain⟨i,hi⟩:=qk.1 hk;exact⟨i,k,hi,h,by rw[hb];simp⟩
theorem ZxW {e:Exp}(ha:e.arms=[])(hs:shp e):(Exp.mk 5 0 [] 0 e.kids [] tz).wf/\(Exp.mk 5 0 [] 0 e.kids [] tz).weight<=e.weight:=by
 have hc:(Exp.mk 5 0 [] 0 e.kids [] tz).children=e.kids:=by rw[ZaC];simp
 have hc2:e.children=e.kids:=by simp[Exp.children,ha]
 refine⟨?_,?_⟩
 .rw [Exp.wf_eq,hc]
  exact⟨⟨fun h=>absurd (show(5:Int)=8 from h) (by decide),fun _=>rfl,fun h=>absurd (show(5:Int)=1 from h) (by decide)⟩,fun k hk=>(hs.child (Zal hk)).wf⟩
 .rw [Exp.weight_eq,e.weight_eq,hc,hc2,ZcL,ha]
  exact qe _
theorem Zmy {e:Exp}{x:Str}{b:Exp}(hk:e.kind=4\/e.kind=7):hitP x (Zaf b) e.name (e.kids.drop (ZaA e))↔e.name∈Zaf b/\x∈Zaf (.mk 5 0 [] 0 e.kids [] tz):=by
 have h0:ZaA e=0:=by unfold ZaA;rw[if_neg (by omega)]
 rw[h0,Zqg];rfl
theorem ZxL {S:Exp->Str->Exp->Exp}{e:Exp}{x:Str}{b:Exp}(h:¬hitP x (Zaf b) e.name (e.kids.drop (ZaA e))):Zd0 S x b e=e:=by unfold Zd0;exact if_pos (.inr (.inr h))
theorem Zsf {S:Exp->Str->Exp->Exp}{e:Exp}{x:Str}{b:Exp}(hk:e.kind=4\/e.kind=7)(hs:shp1 e)(hx:e.name≠x)(h:hitP x (Zaf b) e.name (e.kids.drop (ZaA e))):
 Zd0 S x b e=.mk e.kind e.pos (newR x b e) e.num (e.kids.map fun k=>S k e.name (varX (newR x b e))) e.arms e.ty:=by
 have h0:ZaA e=0:=by unfold ZaA;rw[if_neg (by omega)]
 have hl:0<e.kids.length:=by
  have:=hs.2.2;unfold Zhv at this;rcases hk with k|k
  .rw[if_neg (by omega),if_pos (by omega)]at this;omega
  .rw[if_pos (by omega)]at this;omega
 unfold Zd0;rw[if_neg (by
  rintro(q|q|q)
  .exact hx q
  .omega
  .exact q h)]
 congr 1;refine qC fun i=>?_;rw[qi,qi,qat,h0];cases e.kids[i]?<;>simp
theorem Zjj {n:Nat}(hI:Zq1 A n)(e:Exp)(x:Str)(b:Exp)(hn:e.weight<=n+1)(hl:e.weight<=16777216)(hs:shp e)(hb:b.wf)(hbw:b.weight<=16777216)(hk:e.kind=4\/e.kind=7):
 (K A).call 103 [expV e,strV x,expV b] []=some (expV (refS (n+1) e x b),[]):=by
 refine fnO v103 ?_;have hrow0:=Za7 e;have hk1:¬e.kind=1:=by omega
 unfold v103;by_cases hx:e.name=x
 .rw [Zvr hk hs.one hx]
  rcases hk with hk|hk
  .simp(maxSteps:=4000000) (disch:=first|exact zd|fail) [hk,hx,hrow0,-getElem?_pos]
  .simp(maxSteps:=4000000) (disch:=first|exact zd|fail) [hk,hx,hrow0,-getElem?_pos]
 .rw [Znz hk hs.one hx]
  obtain⟨ha,hch⟩:=Za2 (e:=e) (by omega) hs.one;obtain⟨w1,w2⟩:=ZxW ha hs;have hcl:=Znn (A:=A) e.name x b (.mk 5 0 [] 0 e.kids [] tz) hb w1 (by omega) (by omega);rw[Zuw]at hcl;have hwk:∀k∈e.kids,k.weight<=n/\k.weight<=16777216/\shp k:=fun k hm=>⟨by have:=Exp.child_lt (Zal hm);omega,by have:=Exp.child_lt (Zal hm);omega,hs.child (Zal hm)⟩;have hkl:e.kids.length<=2:=by
   have:=hs.one.2.2;unfold Zhv at this;split at this
   .omega
   .split at this<;>omega
  have hkd:decide (e.kind=4\/e.kind=7)=true:=by simpa using hk
  by_cases hh:e.name∈Zaf b/\x∈Zaf (.mk 5 0 [] 0 e.kids [] tz)
  .rw [Zsf hk hs.one hx ((Zmy hk).2 hh)]
   have hfree:=Zmh (A:=A) b hb (by omega);rw[ZeS b hb]at hfree;have hfl:=Zb8 b;have hall:=Zxz (A:=A) e (by omega);have hal:=Zd6 e;have hun:=ZkZ (A:=A) (Zaf b++ZaB e++[x]) (by simp;omega);have hto:Zat 0 (Zaf b++ZaB e++[x])=newR x b e:=rfl;rw[hto]at hun;have hnot:=Zo1 (x:=x) (b:=b) hs.wf;simp only[qab]at hun;simp only[Ze2,ZnR];generalize newR x b e=to at *
   generalize Zaf b=P at *
   generalize ZaB e=R at *
   have hrk:∀k∈e.kids,shp (refS n k e.name (varX to))/\(refS n k e.name (varX to)).weight=k.weight:=fun k hm=>by
    obtain⟨i,hi⟩:=qk.1 hm;exact Zni (hwk k hm).2.2 (hwk k hm).1 fun q=>hnot (ZaH.2 (.inr ⟨i,k,by rw[hch];exact hi,.inr q⟩))
   have hfold:wr (Zai (P++R))++[[W.c (.str x)]]=wr (Zai (P++(R++[x]))):=(by simp[Zai,ZeN,wr,wc]);have hk2:∀(i:Nat) k,e.kids[i]?=some k->(e.kids.map fun k=>refS n k e.name (varX to))[i]?=some (refS n k e.name (varX to)):=fun i k h=>by rw[qi,h];rfl
   have hk2l:(e.kids.map fun k=>refS n k e.name (varX to)).length=e.kids.length:=(by simp);generalize (e.kids.map fun k=>refS n k e.name (varX to))=k2 at *
   rcases hk with hk|hk
   all_goals
    rw[hk]at hrow0;simp only[expV,hrow0]at hall;simp(maxSteps:=4000000) (disch:=first|exact zd|fail) [hk,hx,hrow0,hcl,hh,hfree,hall,hun,hfold,qaE,-getElem?_pos];refine Zak (fun i=>⟨[(1,strV x),(3,.sc (.ptr 64 0)),(5,.sc (.ptr 128 0)),(6,.sc (.ptr 192 0)),(8,strV to),(9,.sc (.ptr 3072 0)),(10,intV i)],
     [(64,some (.box [.c (.int .i64 e.kind),.c (.int .i64 e.pos),.c (.str e.name),.c (.int .i64 e.num),.c (.sl (Exp.rows e.kids)),.c (.sl (Exp.armRows e.arms)),.c (.int .i64 e.ty.kind),.c (.str e.ty.name),.c (.int .i64 e.ty.id),.c (.int .i64 e.ty.home),.c (.sl (Ty.rows e.ty.args))])),(128,some (.box (wc b.row))),(192,some (.box [zi,zi,zs,zi,.nil,.nil,zi,zs,zi,zi,.nil])),(2464,some (.arr 1 (wr (Zai (P++(R++[x])))) 0)),
       (3072,some (.box [.c (.int .i64 e.kind),.c (.int .i64 e.pos),.c (.str to),.c (.int .i64 e.num),.arr 3457 i,.c (.sl (Exp.armRows e.arms)),.c (.int .i64 e.ty.kind),.c (.str e.ty.name),.c (.int .i64 e.ty.id),.c (.int .i64 e.ty.home),.c (.sl (Ty.rows e.ty.args))])),(3457,some (.arr 11 (wr (Exp.rows (k2.take i))) 0))]⟩) e.kids.length ?_ ?_ ?_
    .simp[hk,Exp.rows]
    .intro i hi
     obtain⟨k,hkk⟩:=Zaa hi;obtain⟨g1,g2,g3⟩:=hwk k (qa hkk);have hr:=ZhR hI k e.name to g1 g2 g3;have hz:=hk2 i k hkk;have htl:(k2.take i).length=i:=(by rw[qK];omega);have hkI:(i:Int)<e.kids.length:=(by omega);unfold ZmJ;simp(maxSteps:=4000000) (disch:=first|exact zd|fail) [hi,hkI,hkk,hr,htl,Zam hz,-getElem?_pos]
    .have htk:k2.take e.kids.length=k2:=qf (by omega)
     have hlen0:k2.length=e.kids.length:=hk2l;unfold ZmJ;simp(maxSteps:=4000000) (disch:=first|exact zd|fail) [htk,hlen0,-getElem?_pos];have hz:(k2.map fun k=>refS n k x b).length=e.kids.length:=(by rw[qan];exact hk2l);have hrs:∀(i:Nat) k,k2[i]?=some k->(k2.map fun k=>refS n k x b)[i]?=some (refS n k x b):=fun i k h=>by rw[qi,h];rfl
     generalize (k2.map fun k=>refS n k x b)=rs at *
     refine Zak (fun i=>⟨[(1,strV x),(3,.sc (.ptr 64 0)),(5,.sc (.ptr 128 0)),(6,.sc (.ptr 192 0)),(11,.sc (.ptr 5248 0)),(12,intV i)],
      [(64,some (.box [.c (.int .i64 e.kind),.c (.int .i64 e.pos),.c (.str to),.c (.int .i64 e.num),.c (.sl (Exp.rows k2)),.c (.sl (Exp.armRows e.arms)),.c (.int .i64 e.ty.kind),.c (.str e.ty.name),.c (.int .i64 e.ty.id),.c (.int .i64 e.ty.home),.c (.sl (Ty.rows e.ty.args))])),(128,some (.box (wc b.row))),(192,some (.box [zi,zi,zs,zi,.nil,.nil,zi,zs,zi,zi,.nil])),(2464,some (.arr 1 (wr (Zai (P++(R++[x])))) 0)),
        (3457,some (.arr 11 (wr (Exp.rows k2)) e.kids.length)),(5248,some (.box [.c (.int .i64 e.kind),.c (.int .i64 e.pos),.c (.str to),.c (.int .i64 e.num),.arr 5441 i,.c (.sl (Exp.armRows e.arms)),.c (.int .i64 e.ty.kind),.c (.str e.ty.name),.c (.int .i64 e.ty.id),.c (.int .i64 e.ty.home),.c (.sl (Ty.rows e.ty.args))])),(5441,some (.arr 11 (wr (Exp.rows (rs.take i))) 0))]⟩) e.kids.length ?_ ?_ ?_
     .simp[hk,Exp.rows]
     .intro i hi
      obtain⟨k0,hk0⟩:=Zaa hi;obtain⟨g1,g2,g3⟩:=hwk k0 (qa hk0);obtain⟨v1,v2⟩:=hrk k0 (qa hk0);have hkk:=hk2 i k0 hk0;generalize refS n k0 e.name (varX to)=k at *
      have hr:=hI k x b (by omega) (by omega) v1 hb hbw;have hz1:=hrs i k hkk;have htl:(rs.take i).length=i:=(by rw[qK];omega);have hkI:(i:Int)<e.kids.length:=(by omega);unfold Zka;simp(maxSteps:=4000000) (disch:=first|exact zd|fail) [hi,hkI,hkk,hr,htl,hlen0,Zam hz1,-getElem?_pos]
     .have htr:rs.take e.kids.length=rs:=qf (by omega)
      have hrr:wc (Exp.mk e.kind e.pos to e.num rs [] e.ty).row=[.c (.int .i64 e.kind),.c (.int .i64 e.pos),.c (.str to),.c (.int .i64 e.num),.c (.sl (Exp.rows rs)),.c (.sl []),.c (.int .i64 e.ty.kind),.c (.str e.ty.name),.c (.int .i64 e.ty.id),.c (.int .i64 e.ty.home),.c (.sl (Ty.rows e.ty.args))]:=by
       rw[Exp.row_eq];simp[Exp.armRows,Exp.kind,Exp.pos,Exp.name,Exp.num,Exp.kids,Exp.arms,Exp.ty,wc]
      have har:Exp.armRows e.arms=[]:=(by rw[ha,Exp.armRows]);rw[hk]at hrr;unfold Zka;simp(maxSteps:=4000000) (disch:=first|exact zd|fail) [htr,hz,har,hk,hrr,hlen0,-getElem?_pos]
  .rw [ZxL (fun q=>hh ((Zmy hk).1 q))]
   have hz:(e.kids.map fun k=>refS n k x b).length=e.kids.length:=(by simp);have hrs:∀(i:Nat) k,e.kids[i]?=some k->(e.kids.map fun k=>refS n k x b)[i]?=some (refS n k x b):=fun i k h=>by rw[qi,h];rfl
   generalize (e.kids.map fun k=>refS n k x b)=rs at *
   rcases hk with hk|hk
   all_goals
    rw[hk]at hrow0;simp(maxSteps:=4000000) (disch:=first|exact zd|fail) [hk,hx,hrow0,hcl,hh,-getElem?_pos];refine Zak (fun i=>⟨[(1,strV x),(3,.sc (.ptr 64 0)),(5,.sc (.ptr 128 0)),(6,.sc (.ptr 192 0)),(11,.sc (.ptr 5248 0)),(12,intV i)],
     [(64,some (.box [.c (.int .i64 e.kind),.c (.int .i64 e.pos),.c (.str e.name),.c (.int .i64 e.num),.c (.sl (Exp.rows e.kids)),.c (.sl (Exp.armRows e.arms)),.c (.int .i64 e.ty.kind),.c (.str e.ty.name),.c (.int .i64 e.ty.id),.c (.int .i64 e.ty.home),.c (.sl (Ty.rows e.ty.args))])),
       (128,some (.box (wc b.row))),(192,some (.box [zi,zi,zs,zi,.nil,.nil,zi,zs,zi,zi,.nil])),
       (5248,some (.box [.c (.int .i64 e.kind),.c (.int .i64 e.pos),.c (.str e.name),.c (.int .i64 e.num),.arr 5441 i,.c (.sl (Exp.armRows e.arms)),.c (.int .i64 e.ty.kind),.c (.str e.ty.name),.c (.int .i64 e.ty.id),.c (.int .i64 e.ty.home),.c (.sl (Ty.rows e.ty.args))])),
       (5441,some (.arr 11 (wr (Exp.rows (rs.take i))) 0))]⟩) e.kids.length ?_ ?_ ?_
    .simp[hk,Exp.rows]
    .intro i hi
     obtain⟨k,hkk⟩:=Zaa hi;obtain⟨g1,g2,g3⟩:=hwk k (qa hkk);have hr:=hI k x b g1 g2 g3 hb hbw;have hz:=hrs i k hkk;have htl:(rs.take i).length=i:=(by rw[qK];omega);have hkI:(i:Int)<e.kids.length:=(by omega);unfold Zka;simp(maxSteps:=4000000) (disch:=first|exact zd|fail) [hi,hkI,hkk,hr,htl,Zam hz,-getElem?_pos]
    .have htk:rs.take e.kids.length=rs:=qf (by omega)
     have hrr:wc (Exp.mk e.kind e.pos e.name e.num rs [] e.ty).row=[.c (.int .i64 e.kind),.c (.int .i64 e.pos),.c (.str e.name),.c (.int .i64 e.num),.c (.sl (Exp.rows rs)),.c (.sl []),.c (.int .i64 e.ty.kind),.c (.str e.ty.name),.c (.int .i64 e.ty.id),.c (.int .i64 e.ty.home),.c (.sl (Ty.rows e.ty.args))]:=by
      rw[Exp.row_eq];simp[Exp.armRows,Exp.kind,Exp.pos,Exp.name,Exp.num,Exp.kids,Exp.arms,Exp.ty,wc]
     have har:Exp.armRows e.arms=[]:=(by rw[ha,Exp.armRows]);rw[hk]at hrr;unfold Zka;simp(maxSteps:=4000000) (disch:=first|exact zd|fail) [htk,hz,har,hk,hrr,-getElem?_pos]
variable {A:Zab}
theorem ZA0 (e:Exp)(cs:List Exp)(h:cs.length=e.kids.length+e.arms.length)(hle:e.kids.length+e.arms.length<=1073741824):(K A).call 106 [expV e,exsV cs] []=
 some (.ag [.c (.int .i64 e.kind),.c (.int .i64 e.pos),.c (.str e.name),.c (.int .i64 e.num),.arr 0 e.kids.length,.arr 1 e.arms.length,.c (.int .i64 e.ty.kind),.c (.str e.ty.name),.c (.int .i64 e.ty.id),.c (.int .i64 e.ty.home),.c (.sl (Ty.rows e.ty.args))],
  [.arr 11 (wr (Exp.rows (cs.take e.kids.length))) 0,.arr 14 (wr (Exp.armRows (ZaX e.arms (cs.drop e.kids.length)))) 0]):=by
 refine fnO v106 ?_;have hrow:wc e.row=[.c (.int .i64 e.kind),.c (.int .i64 e.pos),.c (.str e.name),.c (.int .i64 e.num),.c (.sl (Exp.rows e.kids)),.c (.sl (Exp.armRows e.arms)),.c (.int .i64 e.ty.kind),.c (.str e.ty.name),.c (.int .i64 e.ty.id),.c (.int .i64 e.ty.home),.c (.sl (Ty.rows e.ty.args))]:=by rw[Exp.row_eq];rfl
 have hzl:(ZaX e.arms (cs.drop e.kids.length)).length=e.arms.length:=by rw[armsW_len,qV];omega
 have hfit:Zbx 11 (Exp.rows cs)=true:=by rw[Exp.rows_map];exact ZgE Exp.row_len cs
 have htk:(Exp.rows cs).take e.kids.length=Exp.rows (cs.take e.kids.length):=by simp[Exp.rows_map,qau]
 have hcl:(cs.take e.kids.length).length=e.kids.length:=by rw[qK];omega
 unfold v106;simp(maxSteps:=4000000) (disch:=first|exact zd|fail) [h,hrow,hfit,htk,hcl,-getElem?_pos];refine Zak (fun i=>⟨[(1,exsV cs),(4,.sc (.ptr 128 0)),(5,intV e.kids.length),(6,.sc (.ptr 1152 0)),(7,intV i)],
  [(128,some (.box [zi,zi,zs,zi,.nil,.nil,zi,zs,zi,zi,.nil])),(1152,some (.box [.c (.int .i64 e.kind),.c (.int .i64 e.pos),.c (.str e.name),.c (.int .i64 e.num),.arr 1472 e.kids.length,.arr 1664 e.arms.length,.c (.int .i64 e.ty.kind),.c (.str e.ty.name),.c (.int .i64 e.ty.id),.c (.int .i64 e.ty.home),.c (.sl (Ty.rows e.ty.args))])),
    (1472,some (.arr 11 (wr (Exp.rows (cs.take e.kids.length))) 0)),(1664,some (.arr 14 (wr (Exp.armRows ((ZaX e.arms (cs.drop e.kids.length)).take i++e.arms.drop i))) 0))]⟩) e.arms.length ?_ ?_ ?_
 .simp
 .intro i hi
  obtain⟨a,ha⟩:=Zaa hi;obtain⟨c,hc⟩:=Zaa (l:=cs) (i:=e.kids.length+i) (by omega);have hz:(ZaX e.arms (cs.drop e.kids.length))[i]?=some (a.1,c):=by
   unfold ZaX;rw[qah,ha,qZ,hc]
  have hg:=ZbL hzl hi;rw[ha]at hg;have hs:=Zbz hzl hz;have hln:=ZbN (i:=i) hzl;rw[<-hs];generalize (ZaX e.arms (cs.drop e.kids.length)).take i++e.arms.drop i=zz at hg hln |-;have hset:=Zb1 zz i (a.1,c);have hsp:=Zg5 a c;have hnb:Zap (intV ((e.kids.length:Int)+i)) cs.length=some (e.kids.length+i):=natBelow_cast (k:=.i64) (n:=e.kids.length+i) (by omega);unfold ZmN
  simp(maxSteps:=4000000) (disch:=first|exact zd|fail) [hi,hg,hln,hc,hnb,hsp,hset,Zbg,-getElem?_pos]
 .have ht:(ZaX e.arms (cs.drop e.kids.length)).take e.arms.length++e.arms.drop e.arms.length=ZaX e.arms (cs.drop e.kids.length):=by
   rw[qao,qF,qf (by omega)]
  rw[ht];unfold ZmN;simp(maxSteps:=4000000) (disch:=first|exact zd|fail) [hzl,-getElem?_pos]
theorem Znu {n:Nat}(hI:Zq1 A n)(p nu:Int)(nm:Str)(k0 k1:Exp)(ty:Ty)(x:Str)(b:Exp)(hn:(Exp.mk 6 p nm nu [k0,k1] [] ty).weight<=n+1)(hl:(Exp.mk 6 p nm nu [k0,k1] [] ty).weight<=16777216)(hs:shp (.mk 6 p nm nu [k0,k1] [] ty))(hb:b.wf)(hbw:b.weight<=16777216):
 (K A).call 103 [expV (.mk 6 p nm nu [k0,k1] [] ty),strV x,expV b] []=some (expV (refS (n+1) (.mk 6 p nm nu [k0,k1] [] ty) x b),[]):=by
 refine fnO v103 ?_;rw[Zwe];have hrow0:=Za7 (.mk 6 p nm nu [k0,k1] [] ty);have hm0:k0∈(Exp.mk 6 p nm nu [k0,k1] [] ty).children:=by simp[Exp.children,Exp.kids]
 have hm1:k1∈(Exp.mk 6 p nm nu [k0,k1] [] ty).children:=by simp[Exp.children,Exp.kids]
 have c0:=Exp.child_lt hm0;have c1:=Exp.child_lt hm1;have s0:=hs.child hm0;have s1:=hs.child hm1;have r0:=hI k0 x b (by omega) (by omega) s0 hb hbw;have r1:=hI k1 x b (by omega) (by omega) s1 hb hbw;have hcl:=Znn (A:=A) nm x b k1 hb s1.wf (by omega) (by omega);have hfree:=Zmh (A:=A) b hb (by omega);rw[ZeS b hb]at hfree;have hfl:=Zb8 b;have hall:=Zxz (A:=A) (.mk 6 p nm nu [k0,k1] [] ty) (by omega)
 have hal:=Zd6 (.mk 6 p nm nu [k0,k1] [] ty);have hun:=ZkZ (A:=A) (Zaf b++ZaB (.mk 6 p nm nu [k0,k1] [] ty)++[x]) (by simp;omega);have hto:Zat 0 (Zaf b++ZaB (.mk 6 p nm nu [k0,k1] [] ty)++[x])=newR x b (.mk 6 p nm nu [k0,k1] [] ty):=rfl;rw[hto]at hun;have hnot:newR x b (.mk 6 p nm nu [k0,k1] [] ty)∉allP k1:=fun q=>Zo1 (x:=x) (b:=b) hs.wf (ZaH.2 (.inr ⟨1,k1,rfl,.inr q⟩))
 generalize newR x b (.mk 6 p nm nu [k0,k1] [] ty)=to at *
 generalize ZaB (.mk 6 p nm nu [k0,k1] [] ty)=R at *
 obtain⟨v1,v2⟩:=Zni (n:=n) (f:=nm) s1 (by omega) hnot;have hren:=ZhR hI k1 nm to (by omega) (by omega) s1;have r2:=hI (refS n k1 nm (varX to)) x b (by omega) (by omega) v1 hb hbw;generalize refS n k1 nm (varX to)=k2 at *
 have hx0:=Za7 (refS n k0 x b);generalize refS n k0 x b=z0 at *
 generalize refS n k1 x b=z1 at *
 generalize refS n k2 x b=z2 at *
 have hxr:∀(nm':Str) (y:Exp),wc (Exp.mk 6 p nm' nu [z0,y] [] ty).row=[.c (.int .i64 6),.c (.int .i64 p),.c (.str nm'),.c (.int .i64 nu),.c (.sl [z0.row,y.row]),.c (.sl []),.c (.int .i64 ty.kind),.c (.str ty.name),.c (.int .i64 ty.id),.c (.int .i64 ty.home),.c (.sl (Ty.rows ty.args))]:=by
  intro nm' y;rw[Exp.row_eq];simp[Exp.rows,Exp.armRows,Exp.kind,Exp.pos,Exp.name,Exp.num,Exp.kids,Exp.arms,Exp.ty,wc]
 have hxe:wc (Exp.mk 6 p nm nu [k0,k1] [] ty).row=[.c (.int .i64 6),.c (.int .i64 p),.c (.str nm),.c (.int .i64 nu),.c (.sl [k0.row,k1.row]),.c (.sl []),.c (.int .i64 ty.kind),.c (.str ty.name),.c (.int .i64 ty.id),.c (.int .i64 ty.home),.c (.sl (Ty.rows ty.args))]:=by
  rw[Exp.row_eq];simp[Exp.rows,Exp.armRows,Exp.kind,Exp.pos,Exp.name,Exp.num,Exp.kids,Exp.arms,Exp.ty,wc]
 simp only[expV,hxe]at hall |-;generalize Zaf b=P at *
 simp only[qab]at hun;have hi0:([k0.row,k1.row]:List (List Cell))[0]?=some k0.row:=rfl;have hi1:([k0.row,k1.row]:List (List Cell))[1]?=some k1.row:=rfl;have hfold:wr (Zai (P++R))++[[W.c (.str x)]]=wr (Zai (P++(R++[x]))):=by simp[Zai,ZeN,wr,wc]
 unfold v103;by_cases hx:nm=x
 .rw [if_pos hx]
  simp(maxSteps:=4000000) (disch:=first|exact zd|fail) [hx,hi0,hi1,r0,hxr,-getElem?_pos]
 .rw [if_neg hx]
  by_cases hh:nm∈P/\x∈Zaf k1
  .rw [if_pos hh]
   simp(maxSteps:=4000000) (disch:=first|exact zd|fail) [hx,hi0,hi1,r0,r2,hcl,hh,hfree,hall,hun,hfold,qaE,hren,hxr,-getElem?_pos]
  .rw [if_neg hh]
   simp(maxSteps:=4000000) (disch:=first|exact zd|fail) [hx,hi0,hi1,r0,r1,hcl,hh,hxr,-getElem?_pos]
theorem Zlw {n:Nat}(hI:Zq1 A n)(e:Exp)(x:Str)(b:Exp)(hn:e.weight<=n+1)(hl:e.weight<=16777216)(hs:shp e)(hb:b.wf)(hbw:b.weight<=16777216)(k1:e.kind≠1)(k4:¬(e.kind=4\/e.kind=6\/e.kind=7)):
 (K A).call 103 [expV e,strV x,expV b] []=some (expV (refS (n+1) e x b),[]):=by
 refine fnO v103 ?_;rw[Zvz k1 k4 hs hn];have hrow0:=Za7 e;have q4:¬e.kind=4:=fun h=>k4 (.inl h);have q6:¬e.kind=6:=fun h=>k4 (.inr (.inl h));have q7:¬e.kind=7:=fun h=>k4 (.inr (.inr h));have hle:=e.children_le;rw[e.children_len]at hle;have hc:=ZbS (A:=A) e (by omega)
 have hkid:∀(i:Nat) k,e.kids[i]?=some k->(K A).call 103 [expV k,strV x,expV b] []=some (expV (refS n k x b),[])/\(e.kids.map fun k=>refS n k x b)[i]?=some (refS n k x b):=by
  intro i k h;have hm:=Zal (qa h);have:=Exp.child_lt hm;exact⟨hI k x b (by omega) (by omega) (hs.child hm) hb hbw,by rw[qi,h];rfl⟩
 have harm:∀(i:Nat) a,e.arms[i]?=some a->(K A).call 164 [armV a,strV x,expV b] []=some (armV (Zcv n x b a),[])/\(e.arms.map (Zcv n x b))[i]?=some (Zcv n x b a):=by
  intro i a h;have hm:=qa h;have h1:=Exp.child_lt (Zbt hm);have h2:=Exp.vars_le hm;exact⟨arm91 hI x b hb hbw a (hs.child (Zbt hm)) (by omega) (by omega) (by omega),by rw[qi,h];rfl⟩
 have hkl:(e.kids.map fun k=>refS n k x b).length=e.kids.length:=by simp
 have hal:(e.arms.map (Zcv n x b)).length=e.arms.length:=by simp
 generalize (e.kids.map fun k=>refS n k x b)=ks at *
 generalize e.arms.map (Zcv n x b)=am at *
 have hw:=ZA0 (A:=A) (.mk e.kind e.pos e.name e.num e.kids am e.ty) (ks++am.map (·.2)) (by simp only[Ze2,ZcL,qv,qan];omega) (by simp only[Ze2,ZcL];omega);have hrow1:=Za7 (.mk e.kind e.pos e.name e.num e.kids am e.ty);have hrow2:=Za7 (.mk e.kind e.pos e.name e.num ks am e.ty);have htk:(ks++am.map (·.2)).take e.kids.length=ks:=by rw[List.take_append_of_le_length (by omega),qf (by omega)]
 have hdk:ZaX am ((ks++am.map (·.2)).drop e.kids.length)=am:=by
  rw[List.drop_append_of_le_length (by omega),qaa (by omega),qac];unfold ZaX;rw[List.zipWith_map_right,List.zipWith_self];simp
 have hcl:(ks++am.map (·.2)).length=e.children.length:=by rw[e.children_len,qv,qan];omega
 simp only[Ze2,ZcL,Znd,Zyy,ZnR,Zyp,ty_mk,htk,hdk]at hw hrow1 hrow2;simp only[expV,hrow1]at hw;have hchl:=e.children_len;rw[hrow0]at hc;unfold v103;simp(maxSteps:=4000000) (disch:=first|exact zd|fail) [k1,q4,q6,q7,hrow0,hc,-getElem?_pos]
 refine Zak (fun i=>⟨[(1,strV x),(5,.sc (.ptr 128 0)),(6,.sc (.ptr 192 0)),(16,.sc (.arr 11040 e.children.length)),(17,intV e.kids.length),(18,.sc (.ptr 11456 0)),(19,intV i)],
  [(128,some (.box (wc b.row))),(192,some (.box [zi,zi,zs,zi,.nil,.nil,zi,zs,zi,zi,.nil])),(11040,some (.arr 11 (wr (Exp.rows ((ks++am.map (·.2)).take i++e.children.drop i))) 0)),
    (11456,some (.box [.c (.int .i64 e.kind),.c (.int .i64 e.pos),.c (.str e.name),.c (.int .i64 e.num),.c (.sl (Exp.rows e.kids)),.arr 11712 e.arms.length,.c (.int .i64 e.ty.kind),.c (.str e.ty.name),.c (.int .i64 e.ty.id),.c (.int .i64 e.ty.home),.c (.sl (Ty.rows e.ty.args))])),
    (11712,some (.arr 14 (wr (Exp.armRows (am.take (i-e.kids.length)++e.arms.drop (i-e.kids.length)))) 0))]⟩) e.children.length ?_ ?_ ?_
 .simp
 .intro i hi
  obtain⟨c,hci⟩:=Zaa hi;have hg:=ZbL hcl hi;rw[hci]at hg;have hln:=ZbN (i:=i) hcl;by_cases hik:i<e.kids.length
  .have hkk:e.kids[i]?=some c:=by
    unfold Exp.children at hci;rw[qx hik]at hci;exact hci
   obtain⟨hr,hz0⟩:=hkid i c hkk;have hz:(ks++am.map (·.2))[i]?=some (refS n c x b):=(by rw[qx (by omega)];exact hz0);have hst:=Zbz hcl hz;have hi0:i-e.kids.length=0:=(by omega);have hi1:i+1-e.kids.length=0:=(by omega);rw[<-hst,hi0,hi1];generalize (ks++am.map (·.2)).take i++e.children.drop i=zz at hg hln |-;have hset:=Zce zz i (refS n c x b);have hkI:(i:Int)<e.kids.length:=(by omega)
   have hiC:(i:Int)<(e.kids.length:Int)+e.arms.length:=(by omega);rw[e.children_len]at hln hi;unfold Zo2;simp(maxSteps:=4000000) (disch:=first|exact zd|fail) [hi,hik,hkI,hiC,hg,hln,hr,hset,Zbg,-getElem?_pos]
  .obtain ⟨j,rfl⟩:∃ j,i=e.kids.length+j:=⟨i-e.kids.length,by omega⟩
   have hj:j<e.arms.length:=(by omega);obtain⟨a,ha⟩:=Zaa hj;obtain⟨hr,hz1⟩:=harm j a ha;generalize Zcv n x b a=a1 at *
   have hz:(ks++am.map (·.2))[e.kids.length+j]?=some a1.2:=by
    rw[qN (by omega),hkl,Nat.add_sub_cancel_left,qi,hz1];rfl
   have hst:=Zbz hcl hz;have hj0:e.kids.length+j-e.kids.length=j:=(by omega);have hj1:e.kids.length+j+1-e.kids.length=j+1:=(by omega);have hstA:=Zbz hal hz1;have hgA:=ZbL hal hj;rw[ha]at hgA;have hlnA:=ZbN (i:=j) hal;rw[<-hst,hj0,hj1,<-hstA];generalize (ks++am.map (·.2)).take (e.kids.length+j)++e.children.drop (e.kids.length+j)=zz at hg hln |-;generalize am.take j++e.arms.drop j=za at hgA hlnA |-
   have hset:=Zce zz (e.kids.length+j) a1.2;have hsetA:=Zb1 za j a1;have hgs:(za.set j a1)[j]?=some a1:=(by rw[qaG,if_pos rfl,if_pos (by omega)]);have hsp:splice (wc (Zaw a)) 0 (wc (Zaw a1))=some (wc (Zaw a1)):=(by rw[Zaw,Zaw,Exp.row_eq a.2,Exp.row_eq a1.2];rfl);have hcu:cut (wc (Zaw a1)) 3 11=some (wc a1.2.row):=(by rw[Zaw,Exp.row_eq a1.2];rfl)
   have hsub:(e.kids.length:Int)+j-e.kids.length=j:=(by omega);have hkI:¬(e.kids.length:Int)+j<e.kids.length:=(by omega);have hiC:(e.kids.length:Int)+j<(e.kids.length:Int)+e.arms.length:=(by omega);have hnb:Zap (intV ((e.kids.length:Int)+j)) (e.kids.length+e.arms.length)=some (e.kids.length+j):=natBelow_cast (k:=.i64) (n:=e.kids.length+j) (by omega);rw[e.children_len]at hln hi
   have hjI:(j:Int)<e.arms.length:=(by omega);unfold Zo2;simp(maxSteps:=4000000) (disch:=first|exact zd|fail) [hi,hj,hjI,hkI,hiC,hnb,hsub,hg,hln,hgA,hlnA,hr,hset,hsetA,hgs,hsp,hcu,Zbg,-getElem?_pos]
 .have e0:e.children.length-e.kids.length=e.arms.length:=by omega
  have e1:(ks++am.map (·.2)).take e.children.length++e.children.drop e.children.length=ks++am.map (·.2):=by rw[qao,qF,qf (by omega)]
  have e2:am.take e.arms.length++e.arms.drop e.arms.length=am:=by rw[qao,qF,qf (by omega)]
  rw[e0,e1,e2];generalize ks++am.map (·.2)=cs at *
  rw[e.children_len]at hcl;unfold Zo2;simp(maxSteps:=4000000) (disch:=first|exact zd|fail) [hw,hcl,hal,hkl,hrow2,-getElem?_pos]
theorem Zm7:∀n,Zq1 A n
 |0=>fun e _ _ h=>by have:=e.weight_pos;omega
 |n+1=>fun e x b hn hl hs hb hbw=>by
  have hI:=Zm7 n;by_cases k1:e.kind=1
  .exact ZmT e x b k1
  by_cases k6:e.kind=6
  .obtain ⟨k,p,nm,nu,ks,am,ty⟩:=e
   cases (show k=6 from k6);have ha:=hs.one.1.2.1 (show ¬(6:Int)=8 by decide);cases (show am=[]from ha);have hk:ks.length=2:=hs.one.2.2;obtain⟨y0,y1,rfl⟩:∃y0 y1,ks=[y0,y1]:=by
    cases ks with
    |nil=>simp at hk
    |cons y0 l=>
     cases l with
     |nil=>simp at hk
     |cons y1 l=>
      cases l with
      |nil=>exact⟨y0,y1,rfl⟩
      |cons _ _=>simp at hk
   exact Znu hI p nu nm y0 y1 ty x b hn hl hs hb hbw
  by_cases k4:e.kind=4\/e.kind=7
  .exact Zjj hI e x b hn hl hs hb hbw k4
  .exact Zlw hI e x b hn hl hs hb hbw k1 (by omega)
variable {A:Zab}
theorem rawE.conV {ds:List DataD}(hc:Zdz ds){e:Exp}:rawE ds e->conV e:=by
 induction e using Exp.ind with
 |h e ih=>
  intro h;rw[Zdr];refine⟨fun a ha k hk=>?_,fun x hx=>ih x hx (h.child hx)⟩;rcases (h.one.2.1 a ha).2.1 with hG|⟨d,hd,c,hcc,hG⟩
  .rw [hG] at hk
   simp[Zbj]at hk
  .obtain ⟨_,⟨ch,h1,h2,h3⟩,_⟩:=hc d hd c hcc
   rw[<-hG,hk]at h1;simp[Zbj]at h1;subst h1;exact absurd h3 (by decide)
theorem Zzh (s:Str)(hs:s.length<=1000):shp (varX s)/\nmL (varX s)/\tyBd (varX s):=by
 have hc:(varX s).children=[]:=rfl;refine⟨?_,fun u hu=>?_,?_⟩
 .rw [ZeC,hc]
  exact⟨⟨⟨fun h=>absurd (show(1:Int)=8 from h) (by decide),fun _=>rfl,fun _=>rfl⟩,fun _=>⟨rfl,rfl⟩,rfl⟩,fun x hx=>by simp at hx⟩
 .rcases ZaH.1 hu with h|⟨i,x,hx,_⟩
  .rw [h]
   exact hs
  .rw [hc] at hx
   simp at hx
 .rw [Zel,hc]
  exact⟨show tz.size<=1073741824 by decide,fun x hx=>by simp at hx⟩
theorem Zw4 (e:Exp)(x to:Str)(hxl:x.length<=1000)(htl:to.length<=1000)(hl:e.weight<=16777216)(hs:shp e)(hp:properP e)(hn:nmL e):(K A).call 206 [expV e,strV x,strV to] []=some (expV (subP e x (varX to)),[]):=by
 refine fnO v206 ?_;obtain⟨v1,v2,_⟩:=Zzh to htl;have h:=Zsg (A:=A) e x (varX to) v1 (by rw[(Zm0 to).2];omega) v2 hxl hl hs hp hn;have hrow:=Za7 (subP e x (varX to));generalize subP e x (varX to)=r at *
 rw[Zof]at h;unfold v206;simp(maxSteps:=4000000) (disch:=first|exact zd|fail) [h,hrow,-getElem?_pos]
theorem Zxt (e:Exp)(x to:Str)(hl:e.weight<=16777216)(hs:shp e):(K A).call 165 [expV e,strV x,strV to] []=some (expV (refS e.weight e x (varX to)),[]):=by
 refine fnO v165 ?_;have h:=ZhR (Zm7 (A:=A) e.weight) e x to (qe _) hl hs;have hrow:=Za7 (refS e.weight e x (varX to));generalize refS e.weight e x (varX to)=r at *
 unfold v165;simp(maxSteps:=4000000) (disch:=first|exact zd|fail) [h,hrow,-getElem?_pos]
variable {A:Zab}
theorem Zq7 {α:Type}(x:α):[x][0]?=some x:=rfl
theorem ZBj {α:Type}(x y:α):[x,y][0]?=some x:=rfl
def Zau (k6 k7 k9 k11:Nat):List (List W):=[[.c (.fn 153 [] []),.c (.fn 154 [] [])],[.clo 151 [true] [[.ptr k6 0]],.c (.fn 156 [] [])],[.clo 151 [true] [[.ptr k7 0]],.c (.fn 157 [] [])],
 [.c (.fn 158 [] []),.c (.fn 159 [] [])],[.clo 151 [true] [[.ptr k9 0]],.c (.fn 152 [] [])],[.clo 151 [true] [[.ptr k11 0]],.c (.fn 152 [] [])]]
theorem ZkV:(K A).call 101 [] []=some (.sc (.arr 0 6),[.arr 2 (Zau 1 2 3 4) 0,.box [.c (.int .i64 6)],.box [.c (.int .i64 7)],.box [.c (.int .i64 9)],.box [.c (.int .i64 11)]]):=Zfq (n:=40) (by kernel_rfl)
theorem ZuG (k:Int)(e:Exp):(K A).call 151 [expV e,.sc (.ptr 0 0)] [.box [.c (.int .i64 k)]]=some (Zae (decide (e.kind=k)),[.box [.c (.int .i64 k)]]):=by
 refine fnO v151 ?_;unfold v151;simp(disch:=first|exact zd|fail) [-getElem?_pos]
theorem Zyl (e x:Exp)(h:e.kids[0]?=some x):(K A).call 152 [expV e] []=some (.tu [expV x,Zae true],[]):=by
 have hl:=(qd.1 h).1;refine fnO v152 ?_;unfold v152;simp(disch:=first|exact zd|fail) [h,hl,-getElem?_pos]
theorem Zs6 (e:Exp)(hs:shp e):(K A).call 153 [expV e] []=some (Zae (decide (e.kind=5/\∃f,e.kids[0]?=some f/\f.kind=4)),[]):=by
 refine fnO v153 ?_;unfold v153;by_cases h5:e.kind=5
 .obtain ⟨f,x,hk,_⟩:=hs.app h5
  by_cases h4:f.kind=4
  .simp(disch:=first|exact zd|fail) [h5,hk,h4,qI,-getElem?_pos]
  .simp(disch:=first|exact zd|fail) [h5,hk,h4,qI,-getElem?_pos]
 .simp(disch:=first|exact zd|fail) [h5,-getElem?_pos]
theorem Ztw (e:Exp)(hs:shp e)(hl:e.weight<=1073741824):(K A).call 158 [expV e] []=some (Zae (decide (e.kind=8/\∃k,e.kids[0]?=some k/\(Zao k).1.kind=2)),[]):=by
 refine fnO v158 ?_;unfold v158;by_cases h8:e.kind=8
 .obtain⟨k,hk⟩:∃k,e.kids=[k]:=by
   have hkl:e.kids.length=1:=by have:=hs.one.2.2;rw[h8]at this;exact this
   match hkk:e.kids,hkl with
   |[x],_=>exact⟨x,rfl⟩
  have hm:k∈e.children:=Zal (by rw[hk];simp);have h1:=ZyR (A:=A) k (hs.child hm) (by have:=Exp.child_lt hm;omega);by_cases h2:(Zao k).1.kind=2
  .simp(disch:=first|exact zd|fail) [h8,hk,h1,h2,qI,-getElem?_pos]
  .simp(disch:=first|exact zd|fail) [h8,hk,h1,h2,qI,-getElem?_pos]
 .simp(disch:=first|exact zd|fail) [h8,-getElem?_pos]
theorem ZoQ (e:Exp)(x:Str)(b:Exp)(he:okE e)(hb:okE b)(hen:lfE e)(hbn:lfE b)(hel:e.weight<=16777216)(hbl:b.weight<=16777216)(hx:x.length<=1000):(K A).call 155 [expV e,strV x,expV b] []=some (expV (subP e x b),[]):=
 Zsg e x b hb.1 hbl (Zlk hbn.1) hx hel he.1 he.2.1 (Zlk hen.1)
theorem Zk1 {e:Exp}(h:lowE e):e.name.length<=1000:=Zlk h _ (ZaH.2 (.inl rfl))
theorem ZA1 (e f a k:Exp)(hk:e.kids=[f,a])(hf:f.kids=[k])(he:okE e)(hl:lfE e)(hw:e.weight<=6000):(K A).call 154 [expV e] []=some (.tu [expV (subP k f.name a),Zae true],[]):=by
 have hfm:f∈e.children:=Zal (by rw[hk];simp);have ham:a∈e.children:=Zal (by rw[hk];simp);have hkm:k∈f.children:=Zal (by rw[hf];simp);have h1:=Exp.child_lt hfm;have h2:=Exp.child_lt ham;have h3:=Exp.child_lt hkm;have hs:=ZoQ (A:=A) k f.name a ((he.child hfm).child hkm) (he.child ham) ((hl.child hfm).child hkm) (hl.child ham) (by omega) (by omega) (Zk1 (hl.child hfm).1)
 have e0:([f,a]:List Exp)[0]?=some f:=rfl;have e1:([f,a]:List Exp)[1]?=some a:=rfl;have e2:([k]:List Exp)[0]?=some k:=rfl;refine fnO v154 ?_;unfold v154;simp(disch:=first|exact zd|fail) [hk,hf,hs,e0,e1,e2,Zq7,ZBj,-getElem?_pos]
theorem let156 (e f a:Exp)(hk:e.kids=[f,a])(he:okE e)(hl:lfE e)(hw:e.weight<=6000):(K A).call 156 [expV e] []=some (.tu [expV (subP a e.name f),Zae true],[]):=by
 have hfm:f∈e.children:=Zal (by rw[hk];simp);have ham:a∈e.children:=Zal (by rw[hk];simp);have h1:=Exp.child_lt hfm;have h2:=Exp.child_lt ham;have hs:=ZoQ (A:=A) a e.name f (he.child ham) (he.child hfm) (hl.child ham) (hl.child hfm) (by omega) (by omega) (Zk1 hl.1);have e0:([f,a]:List Exp)[0]?=some f:=rfl;have e1:([f,a]:List Exp)[1]?=some a:=rfl;refine fnO v156 ?_;unfold v156
 simp(disch:=first|exact zd|fail) [hk,hs,e0,e1,Zq7,ZBj,-getElem?_pos]
theorem rec157 (e f a:Exp)(h7:e.kind=7)(hk:e.kids=[f,a])(he:okE e)(hl:lfE e)(hw:e.weight<=6000):(K A).call 157 [expV e] []=some (.tu [expV (subP a e.name (ZaR e f)),Zae true],[]):=by
 have hfm:f∈e.children:=Zal (by rw[hk];simp);have ham:a∈e.children:=Zal (by rw[hk];simp);have h1:=Exp.child_lt hfm;have h2:=Exp.child_lt ham;have hag:=ZeF (f:=f) he h7;have hs:=ZoQ (A:=A) a e.name (ZaR e f) (he.child ham) (Zc0 he h7 hfm) (hl.child ham) (Zmw he h7 hl hfm) (by omega) (by omega) (Zk1 hl.1);have e0:([f,a]:List Exp)[0]?=some f:=rfl;have e1:([f,a]:List Exp)[1]?=some a:=rfl
 have hrow:wc (ZaR e f).row=[.c (.int .i64 e.kind),.c (.int .i64 e.pos),.c (.str e.name),.c (.int .i64 e.num),.c (.sl [f.row,f.row]),.c (.sl (Exp.armRows e.arms)),.c (.int .i64 e.ty.kind),.c (.str e.ty.name),.c (.int .i64 e.ty.id),.c (.int .i64 e.ty.home),.c (.sl (Ty.rows e.ty.args))]:=by
  unfold ZaR;simp[Exp.row,Ty.row_eq,wc,Exp.rows_map]
 have her:wc e.row=[.c (.int .i64 e.kind),.c (.int .i64 e.pos),.c (.str e.name),.c (.int .i64 e.num),.c (.sl [f.row,a.row]),.c (.sl (Exp.armRows e.arms)),.c (.int .i64 e.ty.kind),.c (.str e.ty.name),.c (.int .i64 e.ty.id),.c (.int .i64 e.ty.home),.c (.sl (Ty.rows e.ty.args))]:=by
  rw[Exp.row_eq,hk];simp[wc,Exp.rows_map]
 generalize hG:subP a e.name (ZaR e f)=G at *
 have hs':(K A).call 155 [expV a,strV e.name,.ag [.c (.int .i64 e.kind),.c (.int .i64 e.pos),.c (.str e.name),.c (.int .i64 e.num),.c (.sl [f.row,f.row]),.c (.sl (Exp.armRows e.arms)),.c (.int .i64 e.ty.kind),.c (.str e.ty.name),.c (.int .i64 e.ty.id),.c (.int .i64 e.ty.home),.c (.sl (Ty.rows e.ty.args))]] []=some (expV G,[]):=by rw[<-hrow];exact hs
 refine fnO v157 ?_;unfold v157;simp(disch:=first|exact zd|fail) [her,hs',e0,e1,Zq7,ZBj,-getElem?_pos]
end Go.Vs.Tryz
