/- Renaming and arms by the reference, walked. -/
import Derived.Test.YtccmnfpbcmccpaaGreatDoorRBw
set_option linter.all false
set_option maxHeartbeats 64000000
set_option maxRecDepth 10000
namespace Go.Vs.Tryz
open Go Go.Vs
variable {A:Ag}
theorem Zcf {x con:Str}{b:Exp}{p:List Str×Exp}(hw:p.2.wf):newA x con b p∉allP p.2:=by
 intro h;have hf:=Ds 0 (Ad b++An p.2++[x,con]++p.1);have h2:=(La p.2 (s:=newA x con b p) (IF _) hw).2 h;exact hf (qp.2 (.inl (qp.2 (.inl (qp.2 (.inr h2))))))
theorem Ua {x:Str}{b e:Exp}(hw:e.wf):newR x b e∉allP e:=by
 intro h;have hf:=Ds 0 (Ad b++An e++[x]);have h2:=(La e (s:=newR x b e) (IF _) hw).2 h;exact hf (qp.2 (.inl (qp.2 (.inr h2))))
theorem QK (x:Str)(b e:Exp):newR x b e≠x:=fun h=>Ds 0 (Ad b++An e++[x]) (by
 rw[show Au 0 (Ad b++An e++[x])=x from h];simp)
theorem Pe {n:Nat}{e:Exp}{f to:Str}(hs:shp e)(hw:e.weight<=n)(ht:to∉allP e):shp (refS n e f (varX to))/\(refS n e f (varX to)).weight=e.weight:=by
 have h:=JZ f to n e e (B0 e) hw hs ht;exact⟨sameP.shp _ _ h (LQ f to e hs),(sameP.weight _ _ h).symm.trans (NM f to e)⟩
theorem Od {n:Nat}{x con:Str}{b e:Exp}{vs:List Str}(hs:shp e)(hw:e.weight<=n)(hx:x∉vs):∀k,shp (BU (refS n) x b con vs e k).2/\(BU (refS n) x b con vs e k).2.weight=e.weight/\
 (BU (refS n) x b con vs e k).1.length=vs.length/\x∉(BU (refS n) x b con vs e k).1
 |0=>⟨hs,rfl,rfl,hx⟩
 |k+1=>by
  obtain⟨h1,h2,h3,h4⟩:=Od (b:=b) (con:=con) hs hw hx k;rw[Hz];generalize BU (refS n) x b con vs e k=p at *
  unfold EK;cases p.1[k]? with
  |none=>exact⟨h1,h2,h3,h4⟩
  |some v=>
   simp only;split
   .obtain ⟨g1,g2⟩:=Pe (n:=n) (f:=v) h1 oz (Zcf (x:=x) (con:=con) (b:=b) h1.wf)
    refine⟨g1,g2.trans h2,by rw[List.length_set];exact h3,fun hm=>?_⟩;rcases KV hm with hm|hm
    .exact h4 hm
    .have hf:=Ds 0 (Ad b++An p.2++[x,con]++p.1)
     apply hf;rw[show Au 0 (Ad b++An p.2++[x,con]++p.1)=x from hm.symm];simp
   .exact⟨h1,h2,h3,h4⟩
def GK (A:Ag)(n:Nat):Prop:=∀(e:Exp) (x:Str) (b:Exp),e.weight<=n->e.weight<=100000000000->shp e->b.wf->b.weight<=100000000000->(K A).call 103 [expV e,strV x,expV b] []=some (expV (refS n e x b),[])
theorem My (s:Str):(varX s).wf/\(varX s).weight=1:=by
 refine⟨?_,?_⟩
 .rw [Exp.wf_eq]
  refine⟨⟨fun h=>?_,fun _=>rfl,fun _=>rfl⟩,fun x hx=>?_⟩
  .exact absurd (show(1:Int)=8 from h) (by decide)
  .simp[varX,Exp.children,Exp.kids,Exp.arms]at hx
 .rw [Exp.weight_eq]
  simp[varX,Exp.children,Exp.kids,Exp.arms]
theorem U0 (s:Str):expV (varX s)=.ag [.c (.int .i64 1),.c (.int .i64 0),.c (.str s),.c (.int .i64 0),.c (.sl []),.c (.sl []),.c (.int .i64 0),.c (.str []),.c (.int .i64 0),.c (.int .i64 0),.c (.sl [])]:=by
 rw[expV,Exp.row_eq];simp[varX,Exp.kind,Exp.pos,Exp.name,Exp.num,Exp.kids,Exp.arms,Exp.ty,Exp.rows,Exp.armRows,tz,Ty.kind,Ty.name,Ty.id,Ty.home,Ty.args,Ty.rows,wc]
theorem Zh2 (ks:List Exp):expV (.mk 5 0 [] 0 ks [] tz)=.ag [.c (.int .i64 5),.c (.int .i64 0),.c (.str []),.c (.int .i64 0),.c (.sl (Exp.rows ks)),.c (.sl []),.c (.int .i64 0),.c (.str []),.c (.int .i64 0),.c (.int .i64 0),.c (.sl [])]:=by
 rw[expV,Exp.row_eq];simp[Exp.kind,Exp.pos,Exp.name,Exp.num,Exp.kids,Exp.arms,Exp.ty,Exp.armRows,tz,Ty.kind,Ty.name,Ty.id,Ty.home,Ty.args,Ty.rows,wc]
theorem Kd {n:Nat}(hI:GK A n)(e:Exp)(f t:Str)(hn:e.weight<=n)(hl:e.weight<=100000000000)(hs:shp e):(K A).call 163 [expV e,strV f,strV t] []=some (expV (refS n e f (varX t)),[]):=by
 refine fnO v163 ?_;have h:=hI e f (varX t) hn hl hs (My t).1 (by rw[(My t).2];omega);have hrow:=BQ (refS n e f (varX t));generalize refS n e f (varX t)=r at *
 rw[U0]at h;unfold v163;simp(maxSteps:=9^7) (disch:=try exact zd) [h,hrow,-getElem?_pos]
def Dm (n:Nat)(x:Str)(b:Exp)(a:ArmH×Exp):ArmH×Exp:=if x∈a.1.vars then a else ((BB (refS n) x b a).1,refS n (BB (refS n) x b a).2 x b)
theorem ZF {n:Nat}(hI:GK A n)(x:Str)(b:Exp)(hb:b.wf)(hbw:b.weight<=100000000000)(a:ArmH×Exp)(hs:shp a.2)(hn:a.2.weight<=n)(hl0:a.2.weight<=100000000000)(hl:a.2.weight+a.1.vars.length<=200000000000):
 (K A).call 164 [armV a,strV x,expV b] []=some (armV (Dm n x b a),[]):=by
 refine fnO v164 ?_;have hc0:=FZ (A:=A) a.1.vars x oz;unfold Dm BB;unfold v164;by_cases hx:x∈a.1.vars
 .rw [if_pos hx]
  have hrow:wc (Ax a)=[.c (.int .i64 a.1.pos),.c (.str a.1.con),.c (.sl (Ak a.1.vars)),.c (.int .i64 a.2.kind),.c (.int .i64 a.2.pos),.c (.str a.2.name),.c (.int .i64 a.2.num),.c (.sl (Exp.rows a.2.kids)),.c (.sl (Exp.armRows a.2.arms)),.c (.int .i64 a.2.ty.kind),.c (.str a.2.ty.name),.c (.int .i64 a.2.ty.id),.c (.int .i64 a.2.ty.home),.c (.sl (Ty.rows a.2.ty.args))]:=by rw[Ax,Exp.row_eq];rfl
  simp(maxSteps:=9^7) (disch:=try exact zd) [hc0,hx,hrow,-getElem?_pos]
 .rw [if_neg hx,if_neg hx]
  have hok:=Od (n:=n) (b:=b) (con:=a.1.con) hs hn hx;have hst:=Hz (refS n) x b a.1.con a.1.vars a.2;have h0:BU (refS n) x b a.1.con a.1.vars a.2 0=(a.1.vars,a.2):=rfl;have hfree:=Iz (A:=A) b hb oz;rw[Ie b hb]at hfree;have hfl:=D4 b;obtain⟨⟨ap,ac,vars⟩,ab⟩:=a;simp only at *
  have hsp0:splice (wc (Ax ((⟨ap,ac,vars⟩:ArmH),ab))) 2 [W.arr 768 vars.length]=some (W.c (.int .i64 ap)::W.c (.str ac)::W.arr 768 vars.length::wc ab.row):=by
   rw[Ax,Exp.row_eq ab];rfl
  have hcu1:∀y:Exp,cut (W.c (.int .i64 ap)::W.c (.str ac)::W.arr 768 vars.length::wc y.row) 1 1=some [W.c (.str ac)]:=by
   intro y;rw[Exp.row_eq y];rfl
  have hcu2:∀y:Exp,cut (W.c (.int .i64 ap)::W.c (.str ac)::W.arr 768 vars.length::wc y.row) 2 1=some [W.arr 768 vars.length]:=by
   intro y;rw[Exp.row_eq y];rfl
  have hcu3:∀y:Exp,cut (W.c (.int .i64 ap)::W.c (.str ac)::W.arr 768 vars.length::wc y.row) 3 11=some (wc y.row):=by
   intro y;rw[Exp.row_eq y];rfl
  have hsp3:∀y z:Exp,splice (W.c (.int .i64 ap)::W.c (.str ac)::W.arr 768 vars.length::wc y.row) 3 (wc z.row)=some (W.c (.int .i64 ap)::W.c (.str ac)::W.arr 768 vars.length::wc z.row):=by
   intro y z;rw[Exp.row_eq y,Exp.row_eq z];rfl
  simp(maxSteps:=9^7) (disch:=try exact zd) [hc0,hx,hsp0,-getElem?_pos];refine Am (fun k=>⟨[(1,strV x),(3,.sc (.ptr 64 0)),(5,.sc (.ptr 128 0)),(6,.sc (.ptr 192 0)),(7,intV k)],
   [(64,some (.box (W.c (.int .i64 ap)::W.c (.str ac)::W.arr 768 vars.length::wc (BU (refS n) x b ac vars ab k).2.row))),(128,some (.box (wc b.row))),(192,some (.box [zi,zs,.nil,zi,zi,zs,zi,.nil,.nil,zi,zs,zi,zi,.nil])),(768,some (.arr 1 (wr (Ak (BU (refS n) x b ac vars ab k).1)) 0))]⟩) vars.length ?_ ?_ ?_
  .simp[h0]
  .intro k hk
   obtain⟨o1,o2,o3,o4⟩:=hok k;rw[hst k];generalize BU (refS n) x b ac vars ab k=p at *
   obtain⟨vs,bk⟩:=p;simp only at *
   obtain⟨v,hvk⟩:=Ab (l:=vs) (i:=k) oz;have hcl:=Md (A:=A) v x b bk hb o1.wf oz oz;have hall:=Kj (A:=A) bk oz;have hal:=Hx bk;have hun:=MM (A:=A) (Ad b++An bk++[x,ac]++vs) (by simp;omega);have hren:=fun to=>Kd hI bk v to oz oz o1;have hkI:(k:Int)<vars.length:=oz;unfold EK newA;simp only[hvk];unfold MI;by_cases hh:v∈Ad b/\x∈Ad bk
   .rw [if_pos hh]
    generalize Ad b=P at *
    generalize An bk=R at *
    generalize Au 0 (P++R++[x,ac]++vs)=to at *
    have hrv:=hren to;generalize refS n bk v (varX to)=bk2 at *
    simp only[qaj,qbb,qad]at hun;have hset:=TN vs k to;have hfold:wr (Ak (P++R))++[W.c (.str x)]::[W.c (.str ac)]::wr (Ak vs)=wr (Ak (P++(R++x::ac::vs))):=(by simp[Ak,D7,wr,wc]);have hcm:2+vars.length=vars.length+2:=oz;simp(maxSteps:=9^7) (disch:=try exact zd) [hk,hkI,hvk,o3,hcu1,hcu2,hcu3,hsp3,hcl,hh,hfree,hall,hun,hrv,hset,hfold,hcm,qaE,-getElem?_pos]
   .rw [if_neg hh]
    simp(maxSteps:=9^7) (disch:=try exact zd) [hk,hkI,hvk,o3,hcu1,hcu2,hcu3,hcl,hh,-getElem?_pos]
  .obtain ⟨o1,o2,o3,o4⟩:=hok vars.length
   generalize BU (refS n) x b ac vars ab vars.length=p at *
   obtain⟨vs,bk⟩:=p;simp only at *
   have hr:=hI bk x b oz oz o1 hb hbw;generalize refS n bk x b=r at *
   have hrow:wc (Ax ((⟨ap,ac,vs⟩:ArmH),r))=[.c (.int .i64 ap),.c (.str ac),.c (.sl (Ak vs)),.c (.int .i64 r.kind),.c (.int .i64 r.pos),.c (.str r.name),.c (.int .i64 r.num),.c (.sl (Exp.rows r.kids)),.c (.sl (Exp.armRows r.arms)),.c (.int .i64 r.ty.kind),.c (.str r.ty.name),.c (.int .i64 r.ty.id),.c (.int .i64 r.ty.home),.c (.sl (Ty.rows r.ty.args))]:=(by rw[Ax,Exp.row_eq];rfl)
   have hrowb:wc r.row=[.c (.int .i64 r.kind),.c (.int .i64 r.pos),.c (.str r.name),.c (.int .i64 r.num),.c (.sl (Exp.rows r.kids)),.c (.sl (Exp.armRows r.arms)),.c (.int .i64 r.ty.kind),.c (.str r.ty.name),.c (.int .i64 r.ty.id),.c (.int .i64 r.ty.home),.c (.sl (Ty.rows r.ty.args))]:=(by rw[Exp.row_eq];rfl);unfold MI
   simp(maxSteps:=9^7) (disch:=try exact zd) [hr,hrow,hrowb,hcu2,hcu3,hsp3,o3,-getElem?_pos]
theorem Zbr {n:Nat}{e:Exp}{x:Str}{b:Exp}(hk:e.kind=4\/e.kind=7)(hs:shp1 e)(hx:e.name=x):refS (n+1) e x b=e:=by
 have hP:BT (refS n) x b e=e:=by
  unfold BT;rw[if_pos oz];unfold Cc;rw[if_pos (.inl hx)]
 have hc:refC n e x b=e.children:=by
  refine qH fun i=>?_;cases h:e.children[i]? with
  |none=>rw[qaX]at h |-;rw[refC_len,<-e.children_len];exact h
  |some k=>
   have hbd:e.bound i=[e.name]:=(by rw[Bx,if_pos oz]);rw[GZ h,hbd,if_pos (by simp[hx])]
 rw[EV,if_neg oz,hP,hc,Zgb]
theorem X7 {n:Nat}{e:Exp}{x:Str}{b:Exp}(hk:e.kind=4\/e.kind=7)(hs:shp1 e)(hx:e.name≠x):
 refS (n+1) e x b=.mk e.kind e.pos (Cc (refS n) x b e).name e.num ((Cc (refS n) x b e).kids.map fun k=>refS n k x b) [] e.ty:=by
 have ha:e.arms=[]:=hs.1.2.1 oz;have hb:∀e':Exp,e'.kind=e.kind->e'.name≠x->e'.arms=[]->AD e' (refC n e' x b)=.mk e'.kind e'.pos e'.name e'.num (e'.kids.map fun k=>refS n k x b) [] e'.ty:=by
  intro e' h1 h2 h3;have hr:refC n e' x b=e'.kids.map fun k=>refS n k x b:=by
   unfold refC;have hc:e'.children=e'.kids:=(by simp[Exp.children,h3]);rw[hc];refine qH fun i=>?_;rw[qk,qk,qan];cases e'.kids[i]? with
   |none=>rfl
   |some k=>
    simp only[qv,qaI];have hbd:e'.bound i=[e'.name]:=(by rw[Bx,if_pos oz]);rw[hbd,if_neg (by rw[qo];exact fun q=>h2 q.symm)]
  rw[hr];unfold AD;rw[h3,qh sy];rfl
 have hP:BT (refS n) x b e=Cc (refS n) x b e:=by unfold BT;rw[if_pos oz]
 rw[EV,if_neg oz,hP];unfold Cc;split
 .rw[hb e rfl hx ha]
 .refine hb _ ?_ ?_ ?_
  .rfl
  .exact QK x b e
  .exact ha
theorem ZH {n:Nat}{p nu:Int}{nm:Str}{k0 k1:Exp}{ty:Ty}{x:Str}{b:Exp}:
 refS (n+1) (.mk 6 p nm nu [k0,k1] [] ty) x b=if nm=x then .mk 6 p nm nu [refS n k0 x b,k1] [] ty else if nm∈Ad b/\x∈Ad k1 then
  .mk 6 p (newR x b (.mk 6 p nm nu [k0,k1] [] ty)) nu [refS n k0 x b,refS n (refS n k1 nm (varX (newR x b (.mk 6 p nm nu [k0,k1] [] ty)))) x b] [] ty else .mk 6 p nm nu [refS n k0 x b,refS n k1 x b] [] ty:=by
 have hnx:=QK x b (.mk 6 p nm nu [k0,k1] [] ty);have hb:∀nm' k1',AD (.mk 6 p nm' nu [k0,k1'] [] ty) (refC n (.mk 6 p nm' nu [k0,k1'] [] ty) x b)=.mk 6 p nm' nu [refS n k0 x b,if x=nm' then k1' else refS n k1' x b] [] ty:=by
  intro nm' k1';have h0:(Exp.mk 6 p nm' nu [k0,k1'] [] ty).bound 0=[]:=rfl;have h1:(Exp.mk 6 p nm' nu [k0,k1'] [] ty).bound 1=[nm']:=rfl;simp[refC,AD,Exp.children,Exp.kids,Exp.arms,Exp.kind,Exp.pos,Exp.name,Exp.num,Exp.ty,h0,h1,Av]
 have hP:BT (refS n) x b (.mk 6 p nm nu [k0,k1] [] ty)=Cc (refS n) x b (.mk 6 p nm nu [k0,k1] [] ty):=rfl;rw[EV,MD,if_neg (show ¬(6:Int)=1 by decide),hP];have hh:hitP x (Ad b) nm [k1]↔nm∈Ad b/\x∈Ad k1:=by simp[hitP]
 by_cases h1:nm=x
 .rw [if_pos h1]
  have:Cc (refS n) x b (.mk 6 p nm nu [k0,k1] [] ty)=.mk 6 p nm nu [k0,k1] [] ty:=by unfold Cc;exact if_pos (.inl h1)
  rw[this,hb,if_pos h1.symm]
 .rw [if_neg h1]
  by_cases h2:nm∈Ad b/\x∈Ad k1
  .rw [if_pos h2]
   have:Cc (refS n) x b (.mk 6 p nm nu [k0,k1] [] ty)=.mk 6 p (newR x b (.mk 6 p nm nu [k0,k1] [] ty)) nu [k0,refS n k1 nm (varX (newR x b (.mk 6 p nm nu [k0,k1] [] ty)))] [] ty:=by
    unfold Cc;rw[if_neg (by
     rintro(q|q|q)
     .exact h1 q
     .exact absurd (show 2<=1 from q) (by decide)
     .exact q (hh.2 h2))]
    rfl
   rw[this,hb,if_neg (Ne.symm hnx)]
  .rw [if_neg h2]
   have:Cc (refS n) x b (.mk 6 p nm nu [k0,k1] [] ty)=.mk 6 p nm nu [k0,k1] [] ty:=(by unfold Cc;exact if_pos (.inr (.inr fun q=>h2 (hh.1 q))));rw[this,hb,if_neg (Ne.symm h1)]
theorem Zdb {n:Nat}{e:Exp}{x:Str}{b:Exp}(k1:e.kind≠1)(k4:¬(e.kind=4\/e.kind=6\/e.kind=7))(hs:shp e)(hn:e.weight<=n+1):
 refS (n+1) e x b=.mk e.kind e.pos e.name e.num (e.kids.map fun k=>refS n k x b) (e.arms.map (Dm n x b)) e.ty:=by
 have hP:BT (refS n) x b e=.mk e.kind e.pos e.name e.num e.kids (e.arms.map (BB (refS n) x b)) e.ty:=by
  unfold BT;rw[if_neg k4];split
  .rfl
  .rename_i h8
   have ha:=hs.one.1.2.1 h8;rw[ha];cases e;cases ha;rfl
 rw[EV,if_neg k1,hP];have hr:refC n (.mk e.kind e.pos e.name e.num e.kids (e.arms.map (BB (refS n) x b)) e.ty) x b=(e.kids.map fun k=>refS n k x b)++e.arms.map fun a=>(Dm n x b a).2:=by
  refine qH fun i=>?_;by_cases hi:i<e.kids.length
  .obtain ⟨k,hk⟩:=Ab hi
   have hc:(Exp.mk e.kind e.pos e.name e.num e.kids (e.arms.map (BB (refS n) x b)) e.ty).children[i]?=some k:=by
    rw[BD,qF hi];exact hk
   have hbd:(Exp.mk e.kind e.pos e.name e.num e.kids (e.arms.map (BB (refS n) x b)) e.ty).bound i=[]:=by
    rw[EZ,if_neg oz,if_neg (by
     rintro⟨q,hp⟩;have:=hs.one.1.1 q;omega)]
   rw[GZ hc,qF (by simpa using hi),qk,hk,hbd];simp
  .cases ha:e.arms[i-e.kids.length]? with
   |none=>
    rw[qaX]at ha;rw[qap (by rw[refC_len];simp only[FE,Dq,qat];omega),qap (by simp only[qz,qat];omega)]
   |some a=>
    have h8:e.kind=8:=qO fun q=>by
     rw[hs.one.1.2.1 q]at ha;simp at ha
    have hk1:=hs.one.1.1 h8;have hc:(Exp.mk e.kind e.pos e.name e.num e.kids (e.arms.map (BB (refS n) x b)) e.ty).children[i]?=some (BB (refS n) x b a).2:=by
     rw[BD,qN oz,qk,qk,ha];rfl
    have hbd:(Exp.mk e.kind e.pos e.name e.num e.kids (e.arms.map (BB (refS n) x b)) e.ty).bound i=(BB (refS n) x b a).1.vars:=by
     rw[EZ,if_neg oz,if_pos ⟨h8,oz⟩,qk,show i-1=i-e.kids.length by omega,ha];rfl
    rw[GZ hc,qN (by simp only[qat];omega),qk,qat,ha,hbd];simp only[qv,qd];unfold Dm;have hm:=Bp (qc ha);by_cases hx:x∈a.1.vars
    .have:BB (refS n) x b a=a:=by unfold BB;exact if_pos hx
     rw[this,if_pos hx,if_pos hx]
    .have ho:=(Od (n:=n) (b:=b) (con:=a.1.con) (hs.child hm) (by have:=Exp.child_lt hm;omega) hx a.1.vars.length).2.2.2
     have hv:x∉(BB (refS n) x b a).1.vars:=by
      unfold BB;rw[if_neg hx];exact ho
     rw[if_neg hv,if_neg hx]
 rw[hr];unfold AD;simp only[FE,Dq,MD,Rm,IG,Qt,T9];have hz:Av (e.arms.map (BB (refS n) x b)) (e.arms.map fun a=>(Dm n x b a).2)=e.arms.map (Dm n x b):=by
  unfold Av;rw[List.zipWith_map,List.zipWith_self];refine qM fun a _=>?_;unfold Dm BB;split<;>rfl
 congr 1
 .rw[List.take_append_of_le_length sy,qh sy]
 .rw[List.drop_append_of_le_length sy,qae sy,qad,hz]
variable {A:Ag}
theorem Zci {n:Nat}(e:Exp)(x:Str)(b:Exp)(hk:e.kind=1):(K A).call 103 [expV e,strV x,expV b] []=some (expV (refS (n+1) e x b),[]):=by
 refine fnO v103 ?_;have hrow0:=BQ e;have hrowb:=BQ b;rw[EV,if_pos hk];unfold v103;by_cases hx:e.name=x
 .rw [if_pos hx]
  simp(maxSteps:=9^7) (disch:=try exact zd) [hk,hx,hrowb,-getElem?_pos]
 .rw [if_neg hx]
  simp(maxSteps:=9^7) (disch:=try exact zd) [hk,hx,hrow0,-getElem?_pos]
theorem Zgx {ks:List Exp}{x:Str}:x∈Ad (.mk 5 0 [] 0 ks [] tz)↔∃k∈ks,x∈Ad k:=by
 have hc:(Exp.mk 5 0 [] 0 ks [] tz).children=ks:=by rw[BD];simp
 have hb:∀i,(Exp.mk 5 0 [] 0 ks [] tz).bound i=[]:=fun i=>by rw[EZ,if_neg oz,if_neg oz]
 rw[B8 (show(Exp.mk 5 0 [] 0 ks [] tz).kind≠1 from(by decide:¬(5:Int)=1)),hc];constructor
 .rintro ⟨i,k,hk,h,_⟩
  exact⟨k,qc hk,h⟩
 .rintro ⟨k,hk,h⟩
  obtain⟨i,hi⟩:=qn.1 hk;exact⟨i,k,hi,h,by rw[hb];simp⟩
theorem XE {e:Exp}(ha:e.arms=[])(hs:shp e):(Exp.mk 5 0 [] 0 e.kids [] tz).wf/\(Exp.mk 5 0 [] 0 e.kids [] tz).weight<=e.weight:=by
 have hc:(Exp.mk 5 0 [] 0 e.kids [] tz).children=e.kids:=by rw[BD];simp
 have hc2:e.children=e.kids:=by simp[Exp.children,ha]
 refine⟨?_,?_⟩
 .rw [Exp.wf_eq,hc]
  exact⟨⟨fun h=>absurd (show(5:Int)=8 from h) (by decide),fun _=>rfl,fun h=>absurd (show(5:Int)=1 from h) (by decide)⟩,fun k hk=>(hs.child (AE hk)).wf⟩
 .rw [Exp.weight_eq,e.weight_eq,hc,hc2,Dq,ha]
  exact qg _
theorem Wt {e:Exp}{x:Str}{b:Exp}(hk:e.kind=4\/e.kind=7):hitP x (Ad b) e.name (e.kids.drop (AC e))↔e.name∈Ad b/\x∈Ad (.mk 5 0 [] 0 e.kids [] tz):=by
 have h0:AC e=0:=by unfold AC;rw[if_neg oz]
 rw[h0,Zgx];rfl
theorem Zdl {S:Exp->Str->Exp->Exp}{e:Exp}{x:Str}{b:Exp}(h:¬hitP x (Ad b) e.name (e.kids.drop (AC e))):Cc S x b e=e:=by unfold Cc;exact if_pos (.inr (.inr h))
theorem XX {S:Exp->Str->Exp->Exp}{e:Exp}{x:Str}{b:Exp}(hk:e.kind=4\/e.kind=7)(hs:shp1 e)(hx:e.name≠x)(h:hitP x (Ad b) e.name (e.kids.drop (AC e))):
 Cc S x b e=.mk e.kind e.pos (newR x b e) e.num (e.kids.map fun k=>S k e.name (varX (newR x b e))) e.arms e.ty:=by
 have h0:AC e=0:=by unfold AC;rw[if_neg oz]
 have hl:0<e.kids.length:=by
  have:=hs.2.2;unfold DN at this;rcases hk with k|k
  .rw[if_neg oz,if_pos oz]at this;omega
  .rw[if_pos oz]at this;omega
 unfold Cc;rw[if_neg (by
  rintro(q|q|q)
  .exact hx q
  .omega
  .exact q h)]
 congr 1;refine qH fun i=>?_;rw[qk,qk,qan,h0];cases e.kids[i]?<;>simp
theorem Zdw {n:Nat}(hI:GK A n)(e:Exp)(x:Str)(b:Exp)(hn:e.weight<=n+1)(hl:e.weight<=100000000000)(hs:shp e)(hb:b.wf)(hbw:b.weight<=100000000000)(hk:e.kind=4\/e.kind=7):
 (K A).call 103 [expV e,strV x,expV b] []=some (expV (refS (n+1) e x b),[]):=by
 refine fnO v103 ?_;have hrow0:=BQ e;have hk1:¬e.kind=1:=oz
 unfold v103;by_cases hx:e.name=x
 .rw [Zbr hk hs.one hx]
  rcases hk with hk|hk
  .simp(maxSteps:=9^7) (disch:=try exact zd) [hk,hx,hrow0,-getElem?_pos]
  .simp(maxSteps:=9^7) (disch:=try exact zd) [hk,hx,hrow0,-getElem?_pos]
 .rw [X7 hk hs.one hx]
  obtain⟨ha,hch⟩:=Ew (e:=e) oz hs.one;obtain⟨w1,w2⟩:=XE ha hs;have hcl:=Md (A:=A) e.name x b (.mk 5 0 [] 0 e.kids [] tz) hb w1 oz oz;rw[Zh2]at hcl;have hwk:∀k∈e.kids,k.weight<=n/\k.weight<=100000000000/\shp k:=fun k hm=>⟨by have:=Exp.child_lt (AE hm);omega,by have:=Exp.child_lt (AE hm);omega,hs.child (AE hm)⟩;have hkl:e.kids.length<=2:=by
   have:=hs.one.2.2;unfold DN at this;split at this
   .omega
   .split at this<;>omega
  have hkd:decide (e.kind=4\/e.kind=7)=true:=by simpa using hk
  by_cases hh:e.name∈Ad b/\x∈Ad (.mk 5 0 [] 0 e.kids [] tz)
  .rw [XX hk hs.one hx ((Wt hk).2 hh)]
   have hfree:=Iz (A:=A) b hb oz;rw[Ie b hb]at hfree;have hfl:=D4 b;have hall:=Kj (A:=A) e oz;have hal:=Hx e;have hun:=MM (A:=A) (Ad b++An e++[x]) (by simp;omega);have hto:Au 0 (Ad b++An e++[x])=newR x b e:=rfl;rw[hto]at hun;have hnot:=Ua (x:=x) (b:=b) hs.wf;simp only[qaj]at hun;simp only[FE,IG];generalize newR x b e=to at *
   generalize Ad b=P at *
   generalize An e=R at *
   have hrk:∀k∈e.kids,shp (refS n k e.name (varX to))/\(refS n k e.name (varX to)).weight=k.weight:=fun k hm=>by
    obtain⟨i,hi⟩:=qn.1 hm;exact Pe (hwk k hm).2.2 (hwk k hm).1 fun q=>hnot (A1.2 (.inr ⟨i,k,by rw[hch];exact hi,.inr q⟩))
   have hfold:wr (Ak (P++R))++[[W.c (.str x)]]=wr (Ak (P++(R++[x]))):=(by simp[Ak,D7,wr,wc]);have hk2:∀(i:Nat) k,e.kids[i]?=some k->(e.kids.map fun k=>refS n k e.name (varX to))[i]?=some (refS n k e.name (varX to)):=fun i k h=>by rw[qk,h];rfl
   have hk2l:(e.kids.map fun k=>refS n k e.name (varX to)).length=e.kids.length:=(by simp);generalize (e.kids.map fun k=>refS n k e.name (varX to))=k2 at *
   rcases hk with hk|hk
   all_goals
    rw[hk]at hrow0;simp only[expV,hrow0]at hall;simp(maxSteps:=9^7) (disch:=try exact zd) [hk,hx,hrow0,hcl,hh,hfree,hall,hun,hfold,qaE,-getElem?_pos];refine Am (fun i=>⟨[(1,strV x),(3,.sc (.ptr 64 0)),(5,.sc (.ptr 128 0)),(6,.sc (.ptr 192 0)),(8,strV to),(9,.sc (.ptr 3072 0)),(10,intV i)],
     [(64,some (.box [.c (.int .i64 e.kind),.c (.int .i64 e.pos),.c (.str e.name),.c (.int .i64 e.num),.c (.sl (Exp.rows e.kids)),.c (.sl (Exp.armRows e.arms)),.c (.int .i64 e.ty.kind),.c (.str e.ty.name),.c (.int .i64 e.ty.id),.c (.int .i64 e.ty.home),.c (.sl (Ty.rows e.ty.args))])),(128,some (.box (wc b.row))),(192,some (.box [zi,zi,zs,zi,.nil,.nil,zi,zs,zi,zi,.nil])),(2464,some (.arr 1 (wr (Ak (P++(R++[x])))) 0)),
       (3072,some (.box [.c (.int .i64 e.kind),.c (.int .i64 e.pos),.c (.str to),.c (.int .i64 e.num),.arr 3457 i,.c (.sl (Exp.armRows e.arms)),.c (.int .i64 e.ty.kind),.c (.str e.ty.name),.c (.int .i64 e.ty.id),.c (.int .i64 e.ty.home),.c (.sl (Ty.rows e.ty.args))])),(3457,some (.arr 11 (wr (Exp.rows (k2.take i))) 0))]⟩) e.kids.length ?_ ?_ ?_
    .simp[hk,Exp.rows]
    .intro i hi
     obtain⟨k,hkk⟩:=Ab hi;obtain⟨g1,g2,g3⟩:=hwk k (qc hkk);have hr:=Kd hI k e.name to g1 g2 g3;have hz:=hk2 i k hkk;have htl:(k2.take i).length=i:=(by rw[qR];omega);have hkI:(i:Int)<e.kids.length:=oz;unfold HG;simp(maxSteps:=9^7) (disch:=try exact zd) [hi,hkI,hkk,hr,htl,AP hz,-getElem?_pos]
    .have htk:k2.take e.kids.length=k2:=qh oz
     have hlen0:k2.length=e.kids.length:=hk2l;unfold HG;simp(maxSteps:=9^7) (disch:=try exact zd) [htk,hlen0,-getElem?_pos];have hz:(k2.map fun k=>refS n k x b).length=e.kids.length:=(by rw[qat];exact hk2l);have hrs:∀(i:Nat) k,k2[i]?=some k->(k2.map fun k=>refS n k x b)[i]?=some (refS n k x b):=fun i k h=>by rw[qk,h];rfl
     generalize (k2.map fun k=>refS n k x b)=rs at *
     refine Am (fun i=>⟨[(1,strV x),(3,.sc (.ptr 64 0)),(5,.sc (.ptr 128 0)),(6,.sc (.ptr 192 0)),(11,.sc (.ptr 5248 0)),(12,intV i)],
      [(64,some (.box [.c (.int .i64 e.kind),.c (.int .i64 e.pos),.c (.str to),.c (.int .i64 e.num),.c (.sl (Exp.rows k2)),.c (.sl (Exp.armRows e.arms)),.c (.int .i64 e.ty.kind),.c (.str e.ty.name),.c (.int .i64 e.ty.id),.c (.int .i64 e.ty.home),.c (.sl (Ty.rows e.ty.args))])),(128,some (.box (wc b.row))),(192,some (.box [zi,zi,zs,zi,.nil,.nil,zi,zs,zi,zi,.nil])),(2464,some (.arr 1 (wr (Ak (P++(R++[x])))) 0)),
        (3457,some (.arr 11 (wr (Exp.rows k2)) e.kids.length)),(5248,some (.box [.c (.int .i64 e.kind),.c (.int .i64 e.pos),.c (.str to),.c (.int .i64 e.num),.arr 5441 i,.c (.sl (Exp.armRows e.arms)),.c (.int .i64 e.ty.kind),.c (.str e.ty.name),.c (.int .i64 e.ty.id),.c (.int .i64 e.ty.home),.c (.sl (Ty.rows e.ty.args))])),(5441,some (.arr 11 (wr (Exp.rows (rs.take i))) 0))]⟩) e.kids.length ?_ ?_ ?_
     .simp[hk,Exp.rows]
     .intro i hi
      obtain⟨k0,hk0⟩:=Ab hi;obtain⟨g1,g2,g3⟩:=hwk k0 (qc hk0);obtain⟨v1,v2⟩:=hrk k0 (qc hk0);have hkk:=hk2 i k0 hk0;generalize refS n k0 e.name (varX to)=k at *
      have hr:=hI k x b oz oz v1 hb hbw;have hz1:=hrs i k hkk;have htl:(rs.take i).length=i:=(by rw[qR];omega);have hkI:(i:Int)<e.kids.length:=oz;unfold Hy;simp(maxSteps:=9^7) (disch:=try exact zd) [hi,hkI,hkk,hr,htl,hlen0,AP hz1,-getElem?_pos]
     .have htr:rs.take e.kids.length=rs:=qh oz
      have hrr:wc (Exp.mk e.kind e.pos to e.num rs [] e.ty).row=[.c (.int .i64 e.kind),.c (.int .i64 e.pos),.c (.str to),.c (.int .i64 e.num),.c (.sl (Exp.rows rs)),.c (.sl []),.c (.int .i64 e.ty.kind),.c (.str e.ty.name),.c (.int .i64 e.ty.id),.c (.int .i64 e.ty.home),.c (.sl (Ty.rows e.ty.args))]:=by
       rw[Exp.row_eq];simp[Exp.armRows,Exp.kind,Exp.pos,Exp.name,Exp.num,Exp.kids,Exp.arms,Exp.ty,wc]
      have har:Exp.armRows e.arms=[]:=(by rw[ha,Exp.armRows]);rw[hk]at hrr;unfold Hy;simp(maxSteps:=9^7) (disch:=try exact zd) [htr,hz,har,hk,hrr,hlen0,-getElem?_pos]
  .rw [Zdl (fun q=>hh ((Wt hk).1 q))]
   have hz:(e.kids.map fun k=>refS n k x b).length=e.kids.length:=(by simp);have hrs:∀(i:Nat) k,e.kids[i]?=some k->(e.kids.map fun k=>refS n k x b)[i]?=some (refS n k x b):=fun i k h=>by rw[qk,h];rfl
   generalize (e.kids.map fun k=>refS n k x b)=rs at *
   rcases hk with hk|hk
   all_goals
    rw[hk]at hrow0;simp(maxSteps:=9^7) (disch:=try exact zd) [hk,hx,hrow0,hcl,hh,-getElem?_pos];refine Am (fun i=>⟨[(1,strV x),(3,.sc (.ptr 64 0)),(5,.sc (.ptr 128 0)),(6,.sc (.ptr 192 0)),(11,.sc (.ptr 5248 0)),(12,intV i)],
     [(64,some (.box [.c (.int .i64 e.kind),.c (.int .i64 e.pos),.c (.str e.name),.c (.int .i64 e.num),.c (.sl (Exp.rows e.kids)),.c (.sl (Exp.armRows e.arms)),.c (.int .i64 e.ty.kind),.c (.str e.ty.name),.c (.int .i64 e.ty.id),.c (.int .i64 e.ty.home),.c (.sl (Ty.rows e.ty.args))])),
       (128,some (.box (wc b.row))),(192,some (.box [zi,zi,zs,zi,.nil,.nil,zi,zs,zi,zi,.nil])),
       (5248,some (.box [.c (.int .i64 e.kind),.c (.int .i64 e.pos),.c (.str e.name),.c (.int .i64 e.num),.arr 5441 i,.c (.sl (Exp.armRows e.arms)),.c (.int .i64 e.ty.kind),.c (.str e.ty.name),.c (.int .i64 e.ty.id),.c (.int .i64 e.ty.home),.c (.sl (Ty.rows e.ty.args))])),
       (5441,some (.arr 11 (wr (Exp.rows (rs.take i))) 0))]⟩) e.kids.length ?_ ?_ ?_
    .simp[hk,Exp.rows]
    .intro i hi
     obtain⟨k,hkk⟩:=Ab hi;obtain⟨g1,g2,g3⟩:=hwk k (qc hkk);have hr:=hI k x b g1 g2 g3 hb hbw;have hz:=hrs i k hkk;have htl:(rs.take i).length=i:=(by rw[qR];omega);have hkI:(i:Int)<e.kids.length:=oz;unfold Hy;simp(maxSteps:=9^7) (disch:=try exact zd) [hi,hkI,hkk,hr,htl,AP hz,-getElem?_pos]
    .have htk:rs.take e.kids.length=rs:=qh oz
     have hrr:wc (Exp.mk e.kind e.pos e.name e.num rs [] e.ty).row=[.c (.int .i64 e.kind),.c (.int .i64 e.pos),.c (.str e.name),.c (.int .i64 e.num),.c (.sl (Exp.rows rs)),.c (.sl []),.c (.int .i64 e.ty.kind),.c (.str e.ty.name),.c (.int .i64 e.ty.id),.c (.int .i64 e.ty.home),.c (.sl (Ty.rows e.ty.args))]:=by
      rw[Exp.row_eq];simp[Exp.armRows,Exp.kind,Exp.pos,Exp.name,Exp.num,Exp.kids,Exp.arms,Exp.ty,wc]
     have har:Exp.armRows e.arms=[]:=(by rw[ha,Exp.armRows]);rw[hk]at hrr;unfold Hy;simp(maxSteps:=9^7) (disch:=try exact zd) [htk,hz,har,hk,hrr,-getElem?_pos]
variable {A:Ag}
theorem ZaU (e:Exp)(cs:List Exp)(h:cs.length=e.kids.length+e.arms.length)(hle:e.kids.length+e.arms.length<=687194767360):(K A).call 106 [expV e,exsV cs] []=
 some (.ag [.c (.int .i64 e.kind),.c (.int .i64 e.pos),.c (.str e.name),.c (.int .i64 e.num),.arr 0 e.kids.length,.arr 1 e.arms.length,.c (.int .i64 e.ty.kind),.c (.str e.ty.name),.c (.int .i64 e.ty.id),.c (.int .i64 e.ty.home),.c (.sl (Ty.rows e.ty.args))],
  [.arr 11 (wr (Exp.rows (cs.take e.kids.length))) 0,.arr 14 (wr (Exp.armRows (Av e.arms (cs.drop e.kids.length)))) 0]):=by
 refine fnO v106 ?_;have hrow:wc e.row=[.c (.int .i64 e.kind),.c (.int .i64 e.pos),.c (.str e.name),.c (.int .i64 e.num),.c (.sl (Exp.rows e.kids)),.c (.sl (Exp.armRows e.arms)),.c (.int .i64 e.ty.kind),.c (.str e.ty.name),.c (.int .i64 e.ty.id),.c (.int .i64 e.ty.home),.c (.sl (Ty.rows e.ty.args))]:=by rw[Exp.row_eq];rfl
 have hzl:(Av e.arms (cs.drop e.kids.length)).length=e.arms.length:=by rw[armsW_len,qab];omega
 have hfit:BK 11 (Exp.rows cs)=true:=by rw[Exp.rows_map];exact F8 Exp.row_len cs
 have htk:(Exp.rows cs).take e.kids.length=Exp.rows (cs.take e.kids.length):=by simp[Exp.rows_map,qaC]
 have hcl:(cs.take e.kids.length).length=e.kids.length:=by rw[qR];omega
 unfold v106;simp(maxSteps:=9^7) (disch:=try exact zd) [h,hrow,hfit,htk,hcl,-getElem?_pos];refine Am (fun i=>⟨[(1,exsV cs),(4,.sc (.ptr 128 0)),(5,intV e.kids.length),(6,.sc (.ptr 1152 0)),(7,intV i)],
  [(128,some (.box [zi,zi,zs,zi,.nil,.nil,zi,zs,zi,zi,.nil])),(1152,some (.box [.c (.int .i64 e.kind),.c (.int .i64 e.pos),.c (.str e.name),.c (.int .i64 e.num),.arr 1472 e.kids.length,.arr 1664 e.arms.length,.c (.int .i64 e.ty.kind),.c (.str e.ty.name),.c (.int .i64 e.ty.id),.c (.int .i64 e.ty.home),.c (.sl (Ty.rows e.ty.args))])),
    (1472,some (.arr 11 (wr (Exp.rows (cs.take e.kids.length))) 0)),(1664,some (.arr 14 (wr (Exp.armRows ((Av e.arms (cs.drop e.kids.length)).take i++e.arms.drop i))) 0))]⟩) e.arms.length ?_ ?_ ?_
 .simp
 .intro i hi
  obtain⟨a,ha⟩:=Ab hi;obtain⟨c,hc⟩:=Ab (l:=cs) (i:=e.kids.length+i) oz;have hz:(Av e.arms (cs.drop e.kids.length))[i]?=some (a.1,c):=by
   unfold Av;rw[qaq,ha,qah,hc]
  have hg:=CR hzl hi;rw[ha]at hg;have hs:=CN hzl hz;have hln:=CV (i:=i) hzl;rw[<-hs];generalize (Av e.arms (cs.drop e.kids.length)).take i++e.arms.drop i=zz at hg hln |-;have hset:=Ft zz i (a.1,c);have hsp:=MY a c;have hnb:AH (intV ((e.kids.length:Int)+i)) cs.length=some (e.kids.length+i):=natBelow_cast (k:=.i64) (n:=e.kids.length+i) oz;unfold I4
  simp(maxSteps:=9^7) (disch:=try exact zd) [hi,hg,hln,hc,hnb,hsp,hset,Bz,-getElem?_pos]
 .have ht:(Av e.arms (cs.drop e.kids.length)).take e.arms.length++e.arms.drop e.arms.length=Av e.arms (cs.drop e.kids.length):=by
   rw[qax,qK,qh oz]
  rw[ht];unfold I4;simp(maxSteps:=9^7) (disch:=try exact zd) [hzl,-getElem?_pos]
theorem Zgy {n:Nat}(hI:GK A n)(p nu:Int)(nm:Str)(k0 k1:Exp)(ty:Ty)(x:Str)(b:Exp)(hn:(Exp.mk 6 p nm nu [k0,k1] [] ty).weight<=n+1)(hl:(Exp.mk 6 p nm nu [k0,k1] [] ty).weight<=100000000000)(hs:shp (.mk 6 p nm nu [k0,k1] [] ty))(hb:b.wf)(hbw:b.weight<=100000000000):
 (K A).call 103 [expV (.mk 6 p nm nu [k0,k1] [] ty),strV x,expV b] []=some (expV (refS (n+1) (.mk 6 p nm nu [k0,k1] [] ty) x b),[]):=by
 refine fnO v103 ?_;rw[ZH];have hrow0:=BQ (.mk 6 p nm nu [k0,k1] [] ty);have hm0:k0∈(Exp.mk 6 p nm nu [k0,k1] [] ty).children:=by simp[Exp.children,Exp.kids]
 have hm1:k1∈(Exp.mk 6 p nm nu [k0,k1] [] ty).children:=by simp[Exp.children,Exp.kids]
 have c0:=Exp.child_lt hm0;have c1:=Exp.child_lt hm1;have s0:=hs.child hm0;have s1:=hs.child hm1;have r0:=hI k0 x b oz oz s0 hb hbw;have r1:=hI k1 x b oz oz s1 hb hbw;have hcl:=Md (A:=A) nm x b k1 hb s1.wf oz oz;have hfree:=Iz (A:=A) b hb oz;rw[Ie b hb]at hfree;have hfl:=D4 b;have hall:=Kj (A:=A) (.mk 6 p nm nu [k0,k1] [] ty) oz
 have hal:=Hx (.mk 6 p nm nu [k0,k1] [] ty);have hun:=MM (A:=A) (Ad b++An (.mk 6 p nm nu [k0,k1] [] ty)++[x]) (by simp;omega);have hto:Au 0 (Ad b++An (.mk 6 p nm nu [k0,k1] [] ty)++[x])=newR x b (.mk 6 p nm nu [k0,k1] [] ty):=rfl;rw[hto]at hun;have hnot:newR x b (.mk 6 p nm nu [k0,k1] [] ty)∉allP k1:=fun q=>Ua (x:=x) (b:=b) hs.wf (A1.2 (.inr ⟨1,k1,rfl,.inr q⟩))
 generalize newR x b (.mk 6 p nm nu [k0,k1] [] ty)=to at *
 generalize An (.mk 6 p nm nu [k0,k1] [] ty)=R at *
 obtain⟨v1,v2⟩:=Pe (n:=n) (f:=nm) s1 oz hnot;have hren:=Kd hI k1 nm to oz oz s1;have r2:=hI (refS n k1 nm (varX to)) x b oz oz v1 hb hbw;generalize refS n k1 nm (varX to)=k2 at *
 have hx0:=BQ (refS n k0 x b);generalize refS n k0 x b=z0 at *
 generalize refS n k1 x b=z1 at *
 generalize refS n k2 x b=z2 at *
 have hxr:∀(nm':Str) (y:Exp),wc (Exp.mk 6 p nm' nu [z0,y] [] ty).row=[.c (.int .i64 6),.c (.int .i64 p),.c (.str nm'),.c (.int .i64 nu),.c (.sl [z0.row,y.row]),.c (.sl []),.c (.int .i64 ty.kind),.c (.str ty.name),.c (.int .i64 ty.id),.c (.int .i64 ty.home),.c (.sl (Ty.rows ty.args))]:=by
  intro nm' y;rw[Exp.row_eq];simp[Exp.rows,Exp.armRows,Exp.kind,Exp.pos,Exp.name,Exp.num,Exp.kids,Exp.arms,Exp.ty,wc]
 have hxe:wc (Exp.mk 6 p nm nu [k0,k1] [] ty).row=[.c (.int .i64 6),.c (.int .i64 p),.c (.str nm),.c (.int .i64 nu),.c (.sl [k0.row,k1.row]),.c (.sl []),.c (.int .i64 ty.kind),.c (.str ty.name),.c (.int .i64 ty.id),.c (.int .i64 ty.home),.c (.sl (Ty.rows ty.args))]:=by
  rw[Exp.row_eq];simp[Exp.rows,Exp.armRows,Exp.kind,Exp.pos,Exp.name,Exp.num,Exp.kids,Exp.arms,Exp.ty,wc]
 simp only[expV,hxe]at hall |-;generalize Ad b=P at *
 simp only[qaj]at hun;have hi0:([k0.row,k1.row]:CC1)[0]?=some k0.row:=rfl;have hi1:([k0.row,k1.row]:CC1)[1]?=some k1.row:=rfl;have hfold:wr (Ak (P++R))++[[W.c (.str x)]]=wr (Ak (P++(R++[x]))):=by simp[Ak,D7,wr,wc]
 unfold v103;by_cases hx:nm=x
 .rw [if_pos hx]
  simp(maxSteps:=9^7) (disch:=try exact zd) [hx,hi0,hi1,r0,hxr,-getElem?_pos]
 .rw [if_neg hx]
  by_cases hh:nm∈P/\x∈Ad k1
  .rw [if_pos hh]
   simp(maxSteps:=9^7) (disch:=try exact zd) [hx,hi0,hi1,r0,r2,hcl,hh,hfree,hall,hun,hfold,qaE,hren,hxr,-getElem?_pos]
  .rw [if_neg hh]
   simp(maxSteps:=9^7) (disch:=try exact zd) [hx,hi0,hi1,r0,r1,hcl,hh,hxr,-getElem?_pos]
theorem Xb {n:Nat}(hI:GK A n)(e:Exp)(x:Str)(b:Exp)(hn:e.weight<=n+1)(hl:e.weight<=100000000000)(hs:shp e)(hb:b.wf)(hbw:b.weight<=100000000000)(k1:e.kind≠1)(k4:¬(e.kind=4\/e.kind=6\/e.kind=7)):
 (K A).call 103 [expV e,strV x,expV b] []=some (expV (refS (n+1) e x b),[]):=by
 refine fnO v103 ?_;rw[Zdb k1 k4 hs hn];have hrow0:=BQ e;have q4:¬e.kind=4:=fun h=>k4 (.inl h);have q6:¬e.kind=6:=fun h=>k4 (.inr (.inl h));have q7:¬e.kind=7:=fun h=>k4 (.inr (.inr h));have hle:=e.children_le;rw[e.children_len]at hle;have hc:=E7 (A:=A) e oz
 have hkid:∀(i:Nat) k,e.kids[i]?=some k->(K A).call 103 [expV k,strV x,expV b] []=some (expV (refS n k x b),[])/\(e.kids.map fun k=>refS n k x b)[i]?=some (refS n k x b):=by
  intro i k h;have hm:=AE (qc h);have:=Exp.child_lt hm;exact⟨hI k x b oz oz (hs.child hm) hb hbw,by rw[qk,h];rfl⟩
 have harm:∀(i:Nat) a,e.arms[i]?=some a->(K A).call 164 [armV a,strV x,expV b] []=some (armV (Dm n x b a),[])/\(e.arms.map (Dm n x b))[i]?=some (Dm n x b a):=by
  intro i a h;have hm:=qc h;have h1:=Exp.child_lt (Bp hm);have h2:=Exp.vars_le hm;exact⟨ZF hI x b hb hbw a (hs.child (Bp hm)) oz oz oz,by rw[qk,h];rfl⟩
 have hkl:(e.kids.map fun k=>refS n k x b).length=e.kids.length:=by simp
 have hal:(e.arms.map (Dm n x b)).length=e.arms.length:=by simp
 generalize (e.kids.map fun k=>refS n k x b)=ks at *
 generalize e.arms.map (Dm n x b)=am at *
 have hw:=ZaU (A:=A) (.mk e.kind e.pos e.name e.num e.kids am e.ty) (ks++am.map (·.2)) (by simp only[FE,Dq,qz,qat];omega) (by simp only[FE,Dq];omega);have hrow1:=BQ (.mk e.kind e.pos e.name e.num e.kids am e.ty);have hrow2:=BQ (.mk e.kind e.pos e.name e.num ks am e.ty);have htk:(ks++am.map (·.2)).take e.kids.length=ks:=by rw[List.take_append_of_le_length oz,qh oz]
 have hdk:Av am ((ks++am.map (·.2)).drop e.kids.length)=am:=by
  rw[List.drop_append_of_le_length oz,qae oz,qad];unfold Av;rw[List.zipWith_map_right,List.zipWith_self];simp
 have hcl:(ks++am.map (·.2)).length=e.children.length:=by rw[e.children_len,qz,qat];omega
 simp only[FE,Dq,MD,Rm,IG,Qt,T9,htk,hdk]at hw hrow1 hrow2;simp only[expV,hrow1]at hw;have hchl:=e.children_len;rw[hrow0]at hc;unfold v103;simp(maxSteps:=9^7) (disch:=try exact zd) [k1,q4,q6,q7,hrow0,hc,-getElem?_pos];refine Am (fun i=>⟨[(1,strV x),(5,.sc (.ptr 128 0)),(6,.sc (.ptr 192 0)),(16,.sc (.arr 11040 e.children.length)),(17,intV e.kids.length),(18,.sc (.ptr 11456 0)),(19,intV i)],
  [(128,some (.box (wc b.row))),(192,some (.box [zi,zi,zs,zi,.nil,.nil,zi,zs,zi,zi,.nil])),(11040,some (.arr 11 (wr (Exp.rows ((ks++am.map (·.2)).take i++e.children.drop i))) 0)),
    (11456,some (.box [.c (.int .i64 e.kind),.c (.int .i64 e.pos),.c (.str e.name),.c (.int .i64 e.num),.c (.sl (Exp.rows e.kids)),.arr 11712 e.arms.length,.c (.int .i64 e.ty.kind),.c (.str e.ty.name),.c (.int .i64 e.ty.id),.c (.int .i64 e.ty.home),.c (.sl (Ty.rows e.ty.args))])),
    (11712,some (.arr 14 (wr (Exp.armRows (am.take (i-e.kids.length)++e.arms.drop (i-e.kids.length)))) 0))]⟩) e.children.length ?_ ?_ ?_
 .simp
 .intro i hi
  obtain⟨c,hci⟩:=Ab hi;have hg:=CR hcl hi;rw[hci]at hg;have hln:=CV (i:=i) hcl;by_cases hik:i<e.kids.length
  .have hkk:e.kids[i]?=some c:=by
    unfold Exp.children at hci;rw[qF hik]at hci;exact hci
   obtain⟨hr,hz0⟩:=hkid i c hkk;have hz:(ks++am.map (·.2))[i]?=some (refS n c x b):=(by rw[qF oz];exact hz0);have hst:=CN hcl hz;have hi0:i-e.kids.length=0:=oz;have hi1:i+1-e.kids.length=0:=oz;rw[<-hst,hi0,hi1];generalize (ks++am.map (·.2)).take i++e.children.drop i=zz at hg hln |-;have hset:=DH zz i (refS n c x b);have hkI:(i:Int)<e.kids.length:=oz
   have hiC:(i:Int)<(e.kids.length:Int)+e.arms.length:=oz;rw[e.children_len]at hln hi;unfold KT;simp(maxSteps:=9^7) (disch:=try exact zd) [hi,hik,hkI,hiC,hg,hln,hr,hset,Bz,-getElem?_pos]
  .obtain ⟨j,rfl⟩:∃ j,i=e.kids.length+j:=⟨i-e.kids.length,oz⟩
   have hj:j<e.arms.length:=oz;obtain⟨a,ha⟩:=Ab hj;obtain⟨hr,hz1⟩:=harm j a ha;generalize Dm n x b a=a1 at *
   have hz:(ks++am.map (·.2))[e.kids.length+j]?=some a1.2:=by
    rw[qN oz,hkl,Nat.add_sub_cancel_left,qk,hz1];rfl
   have hst:=CN hcl hz;have hj0:e.kids.length+j-e.kids.length=j:=oz;have hj1:e.kids.length+j+1-e.kids.length=j+1:=oz;have hstA:=CN hal hz1;have hgA:=CR hal hj;rw[ha]at hgA;have hlnA:=CV (i:=j) hal;rw[<-hst,hj0,hj1,<-hstA];generalize (ks++am.map (·.2)).take (e.kids.length+j)++e.children.drop (e.kids.length+j)=zz at hg hln |-;generalize am.take j++e.arms.drop j=za at hgA hlnA |-
   have hset:=DH zz (e.kids.length+j) a1.2;have hsetA:=Ft za j a1;have hgs:(za.set j a1)[j]?=some a1:=(by rw[qaS,if_pos rfl,if_pos oz]);have hsp:splice (wc (Ax a)) 0 (wc (Ax a1))=some (wc (Ax a1)):=(by rw[Ax,Ax,Exp.row_eq a.2,Exp.row_eq a1.2];rfl);have hcu:cut (wc (Ax a1)) 3 11=some (wc a1.2.row):=(by rw[Ax,Exp.row_eq a1.2];rfl);have hsub:(e.kids.length:Int)+j-e.kids.length=j:=oz
   have hkI:¬(e.kids.length:Int)+j<e.kids.length:=oz;have hiC:(e.kids.length:Int)+j<(e.kids.length:Int)+e.arms.length:=oz;have hnb:AH (intV ((e.kids.length:Int)+j)) (e.kids.length+e.arms.length)=some (e.kids.length+j):=natBelow_cast (k:=.i64) (n:=e.kids.length+j) oz;rw[e.children_len]at hln hi;have hjI:(j:Int)<e.arms.length:=oz;unfold KT
   simp(maxSteps:=9^7) (disch:=try exact zd) [hi,hj,hjI,hkI,hiC,hnb,hsub,hg,hln,hgA,hlnA,hr,hset,hsetA,hgs,hsp,hcu,Bz,-getElem?_pos]
 .have e0:e.children.length-e.kids.length=e.arms.length:=oz
  have e1:(ks++am.map (·.2)).take e.children.length++e.children.drop e.children.length=ks++am.map (·.2):=by rw[qax,qK,qh oz]
  have e2:am.take e.arms.length++e.arms.drop e.arms.length=am:=by rw[qax,qK,qh oz]
  rw[e0,e1,e2];generalize ks++am.map (·.2)=cs at *
  rw[e.children_len]at hcl;unfold KT;simp(maxSteps:=9^7) (disch:=try exact zd) [hw,hcl,hal,hkl,hrow2,-getElem?_pos]
theorem MR:∀n,GK A n
 |0=>fun e _ _ h=>by have:=e.weight_pos;omega
 |n+1=>fun e x b hn hl hs hb hbw=>by
  have hI:=MR n;by_cases k1:e.kind=1
  .exact Zci e x b k1
  by_cases k6:e.kind=6
  .obtain ⟨k,p,nm,nu,ks,am,ty⟩:=e
   cases (show k=6 from k6);have ha:=hs.one.1.2.1 (show ¬(6:Int)=8 by decide);cases (show am=[]from ha);have hk:ks.length=2:=hs.one.2.2;obtain⟨y0,y1,rfl⟩:∃y0 y1,ks=[y0,y1]:=by
    cases ks with
    |nil=>simp at hk
    |cons y0 l=>
     cases l with
     |nil=>simp at hk
     |cons y1 l=>
      cases l with
      |nil=>exact⟨y0,y1,rfl⟩
      |cons _ _=>simp at hk
   exact Zgy hI p nu nm y0 y1 ty x b hn hl hs hb hbw
  by_cases k4:e.kind=4\/e.kind=7
  .exact Zdw hI e x b hn hl hs hb hbw k4
  .exact Xb hI e x b hn hl hs hb hbw k1 oz
variable {A:Ag}
theorem rawE.conV {ds:List DataD}(hc:ET ds){e:Exp}:rawE ds e->conV e:=by
 induction e using Exp.ind with
 |h e ih=>
  intro h;rw[DU];refine⟨fun a ha k hk=>?_,fun x hx=>ih x hx (h.child hx)⟩;rcases (h.one.2.1 a ha).2.1 with hG|⟨d,hd,c,hcc,hG⟩
  .rw [hG] at hk
   simp[AK]at hk
  .obtain ⟨_,⟨ch,h1,h2,h3⟩,_⟩:=hc d hd c hcc
   rw[<-hG,hk]at h1;simp[AK]at h1;subst h1;exact absurd h3 (by decide)
theorem ZhC (s:Str)(hs:s.length<=1000):shp (varX s)/\nmL (varX s)/\tyBd (varX s):=by
 have hc:(varX s).children=[]:=rfl;refine⟨?_,fun u hu=>?_,?_⟩
 .rw [DV,hc]
  exact⟨⟨⟨fun h=>absurd (show(1:Int)=8 from h) (by decide),fun _=>rfl,fun _=>rfl⟩,fun _=>⟨rfl,rfl⟩,rfl⟩,fun x hx=>by simp at hx⟩
 .rcases A1.1 hu with h|⟨i,x,hx,_⟩
  .rw [h]
   exact hs
  .rw [hc] at hx
   simp at hx
 .rw [Ez,hc]
  exact⟨show tz.size<=687194767360 by decide,fun x hx=>by simp at hx⟩
theorem Za9 (e:Exp)(x to:Str)(hxl:x.length<=1000)(htl:to.length<=1000)(hl:e.weight<=100000000000)(hs:shp e)(hp:properP e)(hn:nmL e):(K A).call 206 [expV e,strV x,strV to] []=some (expV (subP e x (varX to)),[]):=by
 refine fnO v206 ?_;obtain⟨v1,v2,_⟩:=ZhC to htl;have h:=U3 (A:=A) e x (varX to) v1 (by rw[(My to).2];omega) v2 hxl hl hs hp hn;have hrow:=BQ (subP e x (varX to));generalize subP e x (varX to)=r at *
 rw[U0]at h;unfold v206;simp(disch:=try exact zd) [h,hrow]
theorem Zgs (e:Exp)(x to:Str)(hl:e.weight<=100000000000)(hs:shp e):(K A).call 165 [expV e,strV x,strV to] []=some (expV (refS e.weight e x (varX to)),[]):=by
 refine fnO v165 ?_;have h:=Kd (MR (A:=A) e.weight) e x to (qg _) hl hs;have hrow:=BQ (refS e.weight e x (varX to));generalize refS e.weight e x (varX to)=r at *
 unfold v165;simp(disch:=try exact zd) [h,hrow]
variable {A:Ag}
theorem Hn {α:Type}(x:α):[x][0]?=some x:=rfl
theorem MP {α:Type}(x y:α):[x,y][0]?=some x:=rfl
def AV (k6 k7 k9 k11:Nat):WW1:=[[.c (.fn 153 [] []),.c (.fn 154 [] [])],[.clo 151 [true] [[.ptr k6 0]],.c (.fn 156 [] [])],[.clo 151 [true] [[.ptr k7 0]],.c (.fn 157 [] [])],
 [.c (.fn 158 [] []),.c (.fn 159 [] [])],[.clo 151 [true] [[.ptr k9 0]],.c (.fn 152 [] [])],[.clo 151 [true] [[.ptr k11 0]],.c (.fn 152 [] [])]]
theorem M6:(K A).call 101 [] []=some (.sc (.arr 0 6),[.arr 2 (AV 1 2 3 4) 0,.box [.c (.int .i64 6)],.box [.c (.int .i64 7)],.box [.c (.int .i64 9)],.box [.c (.int .i64 11)]]):=Ek (n:=40) (by kernel_rfl)
theorem Wu (k:Int)(e:Exp):(K A).call 151 [expV e,.sc (.ptr 0 0)] [.box [.c (.int .i64 k)]]=some (Ac (decide (e.kind=k)),[.box [.c (.int .i64 k)]]):=by
 refine fnO v151 ?_;unfold v151;simp(disch:=try exact zd) [-getElem?_pos]
theorem Rp (e x:Exp)(h:e.kids[0]?=some x):(K A).call 152 [expV e] []=some (.tu [expV x,Ac true],[]):=by
 have hl:=(qf.1 h).1;refine fnO v152 ?_;unfold v152;simp(disch:=try exact zd) [h,hl,-getElem?_pos]
theorem VO (e:Exp)(hs:shp e):(K A).call 153 [expV e] []=some (Ac (decide (e.kind=5/\∃f,e.kids[0]?=some f/\f.kind=4)),[]):=by
 refine fnO v153 ?_;unfold v153;by_cases h5:e.kind=5
 .obtain ⟨f,x,hk,_⟩:=hs.app h5
  by_cases h4:f.kind=4
  .simp(disch:=try exact zd) [h5,hk,h4,qP]
  .simp(disch:=try exact zd) [h5,hk,h4,qP]
 .simp(disch:=try exact zd) [h5]
theorem Si (e:Exp)(hs:shp e)(hl:e.weight<=687194767360):(K A).call 158 [expV e] []=some (Ac (decide (e.kind=8/\∃k,e.kids[0]?=some k/\(spine k).1.kind=2)),[]):=by
 refine fnO v158 ?_;unfold v158;by_cases h8:e.kind=8
 .obtain⟨k,hk⟩:∃k,e.kids=[k]:=by
   have hkl:e.kids.length=1:=by have:=hs.one.2.2;rw[h8]at this;exact this
   match hkk:e.kids,hkl with
   |[x],_=>exact⟨x,rfl⟩
  have hm:k∈e.children:=AE (by rw[hk];simp);have h1:=QF (A:=A) k (hs.child hm) (by have:=Exp.child_lt hm;omega);by_cases h2:(spine k).1.kind=2
  .simp(disch:=try exact zd) [h8,hk,h1,h2,qP]
  .simp(disch:=try exact zd) [h8,hk,h1,h2,qP]
 .simp(disch:=try exact zd) [h8]
theorem JF (e:Exp)(x:Str)(b:Exp)(he:okE e)(hb:okE b)(hen:nmL e)(hbn:nmL b)(hel:e.weight<=100000000000)(hbl:b.weight<=100000000000)(hx:x.length<=1000):(K A).call 155 [expV e,strV x,expV b] []=some (expV (subP e x b),[]):=
 U3 e x b hb.1 hbl hbn hx hel he.1 he.2.1 hen
theorem Jt {e:Exp}(h:lowE e):e.name.length<=1000:=El h _ (A1.2 (.inl rfl))
theorem Zn {B:Nat}(e f a k:Exp)(hk:e.kids=[f,a])(hf:f.kids=[k])(he:okE e)(hl:lfE e)(hw:Lim B e):(K A).call 154 [expV e] []=some (.tu [expV (subP k f.name a),Ac true],[]):=by
 have hfm:f∈e.children:=AE (by rw[hk];simp);have ham:a∈e.children:=AE (by rw[hk];simp);have hkm:k∈f.children:=AE (by rw[hf];simp);have h1:=Exp.child_lt hfm;have h2:=Exp.child_lt ham;have h3:=Exp.child_lt hkm;have hsm:=hw.sm;have hs:=JF (A:=A) k f.name a ((he.child hfm).child hkm) (he.child ham) (El ((hl.child hfm).child hkm).1) (El (hl.child ham).1) oz oz (Jt (hl.child hfm).1)
 have e0:([f,a]:List Exp)[0]?=some f:=rfl;have e1:([f,a]:List Exp)[1]?=some a:=rfl;have e2:([k]:List Exp)[0]?=some k:=rfl;refine fnO v154 ?_;unfold v154;simp(disch:=try exact zd) [hk,hf,hs,e0,e1,e2,Hn,MP]
theorem Zid {B:Nat}(e f a:Exp)(hk:e.kids=[f,a])(he:okE e)(hl:lfE e)(hw:Lim B e):(K A).call 156 [expV e] []=some (.tu [expV (subP a e.name f),Ac true],[]):=by
 have hfm:f∈e.children:=AE (by rw[hk];simp);have ham:a∈e.children:=AE (by rw[hk];simp);have h1:=Exp.child_lt hfm;have h2:=Exp.child_lt ham;have hsm:=hw.sm;have hs:=JF (A:=A) a e.name f (he.child ham) (he.child hfm) (El (hl.child ham).1) (El (hl.child hfm).1) oz oz (Jt hl.1);have e0:([f,a]:List Exp)[0]?=some f:=rfl;have e1:([f,a]:List Exp)[1]?=some a:=rfl;refine fnO v156 ?_
 unfold v156;simp(disch:=try exact zd) [hk,hs,e0,e1,Hn,MP]
theorem Xe {B:Nat}(e f a:Exp)(h7:e.kind=7)(hk:e.kids=[f,a])(he:okE e)(hl:lfE e)(hw:Lim B e):(K A).call 157 [expV e] []=some (.tu [expV (subP a e.name (AG e f)),Ac true],[]):=by
 have hfm:f∈e.children:=AE (by rw[hk];simp);have ham:a∈e.children:=AE (by rw[hk];simp);have h1:=Exp.child_lt hfm;have h2:=Exp.child_lt ham;have hag:=Me (f:=f) he h7;have hsm:=hw.sm;have hs:=JF (A:=A) a e.name (AG e f) (he.child ham) (Gc he h7 hfm) (El (hl.child ham).1) (El (Rl he h7 hl hfm).1) oz oz (Jt hl.1);have e0:([f,a]:List Exp)[0]?=some f:=rfl
 have e1:([f,a]:List Exp)[1]?=some a:=rfl;have hrow:wc (AG e f).row=[.c (.int .i64 e.kind),.c (.int .i64 e.pos),.c (.str e.name),.c (.int .i64 e.num),.c (.sl [f.row,f.row]),.c (.sl (Exp.armRows e.arms)),.c (.int .i64 e.ty.kind),.c (.str e.ty.name),.c (.int .i64 e.ty.id),.c (.int .i64 e.ty.home),.c (.sl (Ty.rows e.ty.args))]:=by
  unfold AG;simp[Exp.row,Ty.row_eq,wc,Exp.rows_map]
 have her:wc e.row=[.c (.int .i64 e.kind),.c (.int .i64 e.pos),.c (.str e.name),.c (.int .i64 e.num),.c (.sl [f.row,a.row]),.c (.sl (Exp.armRows e.arms)),.c (.int .i64 e.ty.kind),.c (.str e.ty.name),.c (.int .i64 e.ty.id),.c (.int .i64 e.ty.home),.c (.sl (Ty.rows e.ty.args))]:=by
  rw[Exp.row_eq,hk];simp[wc,Exp.rows_map]
 generalize hG:subP a e.name (AG e f)=G at *
 have hs':(K A).call 155 [expV a,strV e.name,.ag [.c (.int .i64 e.kind),.c (.int .i64 e.pos),.c (.str e.name),.c (.int .i64 e.num),.c (.sl [f.row,f.row]),.c (.sl (Exp.armRows e.arms)),.c (.int .i64 e.ty.kind),.c (.str e.ty.name),.c (.int .i64 e.ty.id),.c (.int .i64 e.ty.home),.c (.sl (Ty.rows e.ty.args))]] []=some (expV G,[]):=by rw[<-hrow];exact hs
 refine fnO v157 ?_;unfold v157;simp(disch:=try exact zd) [her,hs',e0,e1,Hn,MP]
variable {A:Ag}
def Dn (e:Exp)(i:Nat):List Str:=e.name::((e.arms.take i).map fun a=>a.1.vars).flatten
def DR (e:Exp)(i:Nat):List Str:=Dn e e.arms.length++((e.children.take i).map Ai).flatten
theorem ZfZ {e:Exp}{i:Nat}{a:ArmH×Exp}(h:e.arms[i]?=some a):Dn e (i+1)=Dn e i++a.1.vars:=by
 unfold Dn;rw[AP h];simp
theorem ZhI {e x:Exp}{i:Nat}(h:e.children[i]?=some x):DR e (i+1)=DR e i++Ai x:=by
 unfold DR;rw[AP h];simp
theorem Yg (e:Exp):DR e (e.kids.length+e.arms.length)=Ai e:=by
 unfold DR Dn;rw[Gq,qh (qg _),qh (by rw[e.children_len];exact qg _)];simp
theorem Zfn (e:Exp)(i:Nat):(Dn e i).length<=e.weight:=by
 have h1:(((e.arms.take i).map fun a=>a.1.vars).flatten).length<=(e.arms.map fun a=>a.1.vars.length).sum:=by
  rw[qaT,qas,qaC];exact DS
 have h2:=e.weight_eq;unfold Dn;rw[qI];omega
theorem ZcW (e:Exp)(i:Nat):(DR e i).length<=e.weight:=by
 have h1:=IX e;have h3:(((e.children.take i).map Ai).flatten).length<=((e.children.map Ai).flatten).length:=by
  rw[qaT,qaT,qas,qas,qaC];exact DS
 have h4:Dn e e.arms.length=e.name::(e.arms.map fun a=>a.1.vars).flatten:=by unfold Dn;rw[qh (qg _)]
 rw[Gq,qI,qz]at h1;unfold DR;rw[qz,h4,qI];omega
theorem Zba (e:Exp):e.wf->e.weight<=687194767360->(K A).call 205 [expV e] []=some (AA (Ai e),[]):=by
 induction e using Exp.ind with
 |h e ih=>
 intro hwf hl;refine fnO v205 ?_;have hle:=e.children_le;rw[e.children_len]at hle;have h0:Dn e 0=[e.name]:=rfl;have hr:wr (Ak [e.name])=[[W.c (.str e.name)]]:=rfl;have hkt:DR e 0=Dn e e.arms.length:=by simp[DR]
 have hend:=Yg e;unfold v205;simp(maxSteps:=9^7) (disch:=try exact zd) [-getElem?_pos];refine Am (fun i=>⟨[(1,.sc (.ptr 64 0)),(3,.sc (.arr 320 (Dn e i).length)),(12,.sc (.c (.sl (Exp.armRows e.arms)))),(13,intV e.arms.length),(14,intV i)],[(64,some (.box (wc e.row))),(320,some (.arr 1 (wr (Ak (Dn e i))) 0))]⟩) e.arms.length ?_ ?_ ?_
 .simp[h0,hr]
 .intro i hi
  obtain⟨a,ha⟩:=Ab hi;have hs:=ZfZ ha;have hlen:=Zfn e (i+1);rw[hs,qz]at hlen;rw[hs];generalize Dn e i=ai at *
  unfold H7;simp(maxSteps:=9^7) (disch:=try exact zd) [hi,ha,-getElem?_pos]
 .rw [<-hkt]
  by_cases hkids:e.kids=[]
  .have harms:e.arms=[]:=qO fun h=>by
    have h8:e.kind=8:=qO fun h8=>h (hwf.one.2.1 h8);have:=hwf.one.1 h8;rw[hkids]at this;simp at this
   have hc:=D8 (A:=A) e hkids harms;rw[hkids,harms]at hend;simp only[qZ,qbd]at hend;rw[hend];unfold H7;simp(maxSteps:=9^7) (disch:=try exact zd) [hc,-getElem?_pos];refine Am (fun i=>⟨[(3,.sc (.arr 320 (Ai e).length)),(24,.sc (.full [])),(25,intV 0),(26,intV i)],[(64,some (.box (wc e.row))),(320,some (.arr 1 (wr (Ak (Ai e))) 0))]⟩) 0 ?_ (fun i hi=>by omega) ?_
   .simp
   .unfold KB
    simp(maxSteps:=9^7) (disch:=try exact zd) [-getElem?_pos]
  .have hc:=Ch (A:=A) e hkids hl
   rw[e.children_len]at hc;unfold H7;simp(maxSteps:=9^7) (disch:=try exact zd) [hc,-getElem?_pos]
   refine Am (fun i=>⟨[(3,.sc (.arr 320 (DR e i).length)),(24,.sc (.arr 1568 (e.kids.length+e.arms.length))),(25,intV ((e.kids.length:Int)+e.arms.length)),(26,intV i)],[(64,some (.box (wc e.row))),(320,some (.arr 1 (wr (Ak (DR e i))) 0)),(1568,some (.arr 11 (wr (Exp.rows e.children)) 0))]⟩) (e.kids.length+e.arms.length) ?_ ?_ ?_
   .simp
   .intro i hi
    have hi2:(i:Int)<(e.kids.length:Int)+e.arms.length:=oz;obtain⟨x,hx⟩:=Ab (l:=e.children) (i:=i) (by rw[e.children_len];exact hi);have hm:=qc hx;have hrec:=ih x hm (hwf.child hm) (by have:=Exp.child_lt hm;omega);have hs:=ZhI hx;have hlen:=ZcW e (i+1);rw[hs,qz]at hlen;rw[hs];generalize DR e i=ai at *
    generalize Ai x=ux at *
    unfold KB;simp(maxSteps:=9^7) (disch:=try exact zd) [hi,hi2,hx,hrec,-getElem?_pos]
   .rw [hend]
    unfold KB;simp(maxSteps:=9^7) (disch:=try exact zd) [-getElem?_pos]
theorem ZgQ (a:ArmH×Exp)(h:Exp):(K A).call 204 [.ag (wc (Ax a)),.sc (.ptr 0 0)] [.box (wc h.row)]=some (Ac (decide (a.1.con=h.name)),[.box (wc h.row)]):=by
 refine fnO v204 ?_;unfold v204;simp(disch:=try exact zd) [-getElem?_pos]
def FN (l:List (ArmH×Exp))(s:Str):Int:=match l.findIdx? (fun a=>a.1.con==s)with
 |some i=>i
 |none=>-1
theorem ZcG {l:List (ArmH×Exp)}{s:Str}{i:Nat}{a:ArmH×Exp}(h:l[i]?=some a)(ha:a.1.con=s)(hn:∀(j:Nat) b,j<i->l[j]?=some b->b.1.con≠s):FN l s=i:=by
 unfold FN;have:l.findIdx? (fun x=>x.1.con==s)=some i:=by
  rw[qaO];obtain⟨hi,he⟩:=qf.1 h;refine⟨hi,by rw[he];simpa using ha,fun j hj=>?_⟩;have:=hn j _ hj (qj oz);simpa using this
 rw[this]
theorem ZfW {l:List (ArmH×Exp)}{s:Str}(hn:∀(j:Nat) b,j<l.length->l[j]?=some b->b.1.con≠s):FN l s=-1:=by
 unfold FN;have:l.findIdx? (fun x=>x.1.con==s)=none:=by
  rw[List.findIdx?_eq_none_iff];intro x hx;obtain⟨j,hj,rfl⟩:=qT hx;have:=hn j _ hj (qj hj);simpa using this
 rw[this]
theorem Zb4 (l:List (ArmH×Exp))(h:Exp)(hl:l.length<=687194767360):(K A).call 203 [.sc (.c (.sl (Exp.armRows l))),.sc (.clo 204 [true] [[.ptr 0 0]])] [.box (wc h.row)]=some (intV (FN l h.name),[.box (wc h.row)]):=by
 refine fnO v203 ?_;unfold v203;simp(disch:=try exact zd) [-getElem?_pos];refine Al (fun i s=>(∀(j:Nat) b,j<i->l[j]?=some b->b.1.con≠h.name)/\s=⟨[(0,.sc (.c (.sl (Exp.armRows l)))),(1,.sc (.clo 204 [true] [[.ptr 0 0]])),(7,intV l.length),(8,intV i)],[(0,some (.box (wc h.row)))]⟩) l.length ⟨oz,by simp⟩ ?_ ?_
 .rintro i s hi ⟨hn,rfl⟩
  obtain⟨a,ha⟩:=Ab hi;have hc:=ZgQ (A:=A) a h;unfold LP;by_cases hca:a.1.con=h.name
  .have hx:=ZcG ha hca hn
   simp(disch:=try exact zd) [hi,ha,hc,hca,hx,-getElem?_pos]
  .simp (disch:=try exact zd) [hi,ha,hc,hca,-getElem?_pos]
   intro j b x hj hb;by_cases hji:j<i
   .exact hn j (b,x) hji hb
   .obtain rfl:j=i:=oz
    rw[ha]at hb;cases hb;exact hca
 .rintro s ⟨hn,rfl⟩
  have hx:=ZfW hn;unfold LP;simp(disch:=try exact zd) [hx,-getElem?_pos]
theorem Zad {l:List (ArmH×Exp)}{s:Str}:(FN l s=-1/\l.find? (fun a=>a.1.con==s)=none)\/∃(i:Nat) (a:ArmH×Exp),FN l s=i/\l[i]?=some a/\l.find? (fun a=>a.1.con==s)=some a:=by
 unfold FN;cases h:l.findIdx? (fun x=>x.1.con==s)with
 |none=>
  refine .inl ⟨rfl,?_⟩;rw[List.findIdx?_eq_none_iff]at h;rw[List.find?_eq_none];intro x hx;simp[h x hx]
 |some i=>
  obtain⟨hi,h1,h2⟩:=qaO.1 h;refine .inr ⟨i,l[i],rfl,qj hi,?_⟩;rw[List.find?_eq_some_iff_getElem];exact⟨h1,i,hi,rfl,fun j hj=>by simpa using h2 j hj⟩
def K6 (e:Exp)(o:Option (Exp×Nat)):V:=match o with
 |some p=>.tu [expV p.1,Ac true]
 |none=>.tu [expV e,Ac false]
def chB (T:List Str)(vars:List Str)(b:Exp)(i:Nat):Exp:=AJ ((renL T vars).take i) b
def chS (T:List Str)(args:List Exp)(b:Exp)(i:Nat):Exp:=AJ ((argL T args).take i) b
theorem Vc (l:List (Str×Exp))(p:Str×Exp)(b:Exp):AJ (l++[p]) b=subP (AJ l b) p.1 p.2:=by rw[Pw];rfl
theorem ZeJ {T vars:List Str}{b:Exp}{i:Nat}{v:Str}(h:vars[i]?=some v):chB T vars b (i+1)=subP (chB T vars b i) v (varX (Au i T)):=by
 have h2:(renL T vars)[i]?=some (v,varX (Au i T)):=by unfold renL;simp[h]
 unfold chB;rw[AP h2,Vc]
theorem ZfD {T:List Str}{args:List Exp}{b:Exp}{i:Nat}{x:Exp}(h:args[i]?=some x):chS T args b (i+1)=subP (chS T args b i) (Au i T) x:=by
 have h2:(argL T args)[i]?=some (Au i T,x):=by unfold argL;simp[h]
 unfold chS;rw[AP h2,Vc]
theorem Xf (e:Exp):lowE e->∀s∈Ai e,s.length<=1000:=by
 induction e using Exp.ind with
 |h e ih=>
  intro h s hs;rw[Gq]at hs;rcases qG.1 hs with rfl|hs
  .exact Jt h
  .rcases qp.1 hs with hs|hs
   .obtain ⟨l,hl,hs⟩:=List.mem_flatten.1 hs
    obtain⟨a,ha,rfl⟩:=qJ.1 hl;exact qr (h.one.2.2.2 a ha s hs).1 (by decide)
   .obtain ⟨l,hl,hs⟩:=List.mem_flatten.1 hs
    obtain⟨x,hx,rfl⟩:=qJ.1 hl;exact ih x hx (h.child hx) s hs
theorem Zgh {B:Nat}(e k:Exp)(hk:e.kids=[k])(he:okE e)(hl:lfE e)(hw:Lim B e):(K A).call 159 [expV e] []=some (K6 e (BY subP Ai e (spine k).1.name (spine k).2),[]):=by
 have hsm:=hw.sm;have hwt:=hw.wt;have hkm:k∈e.children:=AE (by rw[hk];simp);have hkl:=Exp.child_lt hkm;have hsk:=(he.child hkm).1;have hsp:=NX (A:=A) k hsk oz;have hal:=e.children_le;rw[e.children_len]at hal;have hix:=Zb4 (A:=A) e.arms (spine k).1 oz;have hsl:=G4 k hsk;have hus:=Zba (A:=A) e he.1.wf oz;have hul:=IX e;refine fnO v159 ?_;unfold v159 BY
 rcases Zad (l:=e.arms) (s:=(spine k).1.name)with ⟨h1,h2⟩|⟨i,a,h1,hai,h2⟩
 .rw [h1] at hix
  rw[h2];simp(maxSteps:=9^7) (disch:=try exact zd) [hk,Hn,hsp,hix,K6,-getElem?_pos]
 .rw [h1] at hix
  rw[h2];have hi0:=(qf.1 hai).1;have hin:¬(i:Int)<0:=oz
  simp only;by_cases hv:a.1.vars.length=(spine k).2.length
  .rw [if_pos hv]
   have hC:CaseOk B e k a:=⟨he,hl,hw,hk,qc hai⟩;have hsum:=hC.sum;have hch:JK subP (DW (Ai e) a.1.vars (spine k).2) a.2=chS (Ai e) (spine k).2 (chB (Ai e) a.1.vars a.2 a.1.vars.length) (spine k).2.length:=by
    unfold chS chB;rw[qh (show(renL (Ai e) a.1.vars).length<=_ by simp[renL]),qh (show(argL (Ai e) (spine k).2).length<=_ by simp[argL]),<-Pw];rfl
   have hnmT:∀s∈Ai e,s.length<=281474976710656:=fun s hs=>qr (Xf e hl.1 s hs) (by decide);rw[hch];simp(maxSteps:=9^7) (disch:=try exact zd) [hk,Hn,hsp,hix,hin,hai,hi0,hv,hus,K6,-getElem?_pos];have hfr:∀i:Nat,i<=100000000->(K A).call 207 [intV i,AA (Ai e)] []=some (strV (Au i (Ai e)),[]):=fun i hi=>Qj (A:=A) i i oz oz (Ai e) oz oz hnmT
   have hfl:∀i:Nat,i<=100000000->(Au i (Ai e)).length<=1000:=fun i hi=>GO i (Ai e) oz;refine Am (fun i=>⟨[(2,.sc (.ptr 128 0)),(5,BX (spine k).2),(7,.sc (.ptr 2880 0)),(8,AA (Ai e)),(53,AA a.1.vars),(54,intV (spine k).2.length),(55,intV i)],
    [(64,some (.box (wc e.row))),(128,some (.box [zi,zi,zs,zi,.nil,.nil,zi,zs,zi,zi,.nil])),(768,some (.box (wc (spine k).1.row))),(2880,some (.box (wc (chB (Ai e) a.1.vars a.2 i).row)))]⟩) (spine k).2.length ?_ ?_ ?_
   .simp[chB,AJ]
   .intro i hi
    obtain⟨v,hvi⟩:=Ab (l:=a.1.vars) (i:=i) oz;obtain⟨r1,r2,r3⟩:=hC.ren i;have hvl:v.length<=1000:=qr (hl.1.one.2.2.2 a hC.am v (qc hvi)).1 (by decide);have hren:=Za9 (A:=A) (chB (Ai e) a.1.vars a.2 i) v (Au i (Ai e)) hvl (hfl i oz) (show _<=_ from qr r3 oz) r1.1 r1.2.1 r2;rw[<-ZeJ hvi]at hren;have hf:=hfr i oz;have hi2:i<a.1.vars.length:=oz;unfold Jb
    simp(maxSteps:=9^7) (disch:=try exact zd) [hi,hi2,hvi,hf,hren,-getElem?_pos]
   .have hB:chB (Ai e) a.1.vars a.2 (spine k).2.length=AJ (renL (Ai e) a.1.vars) a.2:=by
     unfold chB;rw[qh (by simp[renL];omega)]
    rw[hB];unfold Jb;simp(maxSteps:=9^7) (disch:=try exact zd) [-getElem?_pos];refine Am (fun i=>⟨[(2,.sc (.ptr 128 0)),(7,.sc (.ptr 2880 0)),(8,AA (Ai e)),(67,BX (spine k).2),(68,intV (spine k).2.length),(69,intV i)],
     [(64,some (.box (wc e.row))),(128,some (.box [zi,zi,zs,zi,.nil,.nil,zi,zs,zi,zi,.nil])),(768,some (.box (wc (spine k).1.row))),(2880,some (.box (wc (chS (Ai e) (spine k).2 (AJ (renL (Ai e) a.1.vars) a.2) i).row)))]⟩) (spine k).2.length ?_ ?_ ?_
    .simp[chS,AJ]
    .intro i hi
     obtain⟨x,hx⟩:=Ab (l:=(spine k).2) (i:=i) hi;obtain⟨s1,s2,s3⟩:=hC.sub i;obtain⟨x1,x2,x3,_⟩:=hC.args x (qc hx);have hsu:=JF (A:=A) (chS (Ai e) (spine k).2 (AJ (renL (Ai e) a.1.vars) a.2) i) (Au i (Ai e)) x s1 x1 s2 (El x2.1) (qr s3 hwt) oz (hfl i oz);rw[<-ZfD hx]at hsu;have hf:=hfr i oz;unfold Na;simp(maxSteps:=9^7) (disch:=try exact zd) [hi,hx,hf,hsu,-getElem?_pos]
    .unfold Na
     simp(maxSteps:=9^7) (disch:=try exact zd) [-getElem?_pos]
  .rw [if_neg hv]
   have hv':¬(a.1.vars.length:Int)=(spine k).2.length:=oz;simp(maxSteps:=9^7) (disch:=try exact zd) [hk,Hn,hsp,hix,hin,hai,hi0,hv,hv',K6,-getElem?_pos]
variable {A:Ag}
def ZiG (o:Option (Exp×Nat))(r:V×List Obj):Prop:=match o with
 |some p=>r=(.tu [expV p.1,intV p.2,Ac true],[])
 |none=>∃(x:Exp) (m:Int),r=(.tu [expV x,intV m,Ac false],[])
def BJ (e:Exp)(i:Nat):St:=⟨[(1,.sc (.ptr 64 0)),(2,.sc (.ptr 128 0)),(13,.sc (.arr 352 6)),(14,intV 6),(15,intV i)],
 [(64,some (.box (wc e.row))),(128,some (.box [zi,zi,zs,zi,.nil,.nil,zi,zs,zi,zi,.nil])),(352,some (.arr 2 (AV 353 354 355 356) 0)),(353,some (.box [.c (.int .i64 6)])),(354,some (.box [.c (.int .i64 7)])),(355,some (.box [.c (.int .i64 9)])),(356,some (.box [.c (.int .i64 11)]))]⟩
def Co (e:Exp)(i:Nat):Prop:=(i=0/\e.kind=5/\∃f,e.kids[0]?=some f/\f.kind=4)\/(i=1/\e.kind=6)\/(i=2/\e.kind=7)\/(i=3/\e.kind=8/\∃k,e.kids[0]?=some k/\(spine k).1.kind=2)\/(i=4/\e.kind=9)\/(i=5/\e.kind=11)
theorem NZ (e:Exp)(hs:shp e)(hl:e.weight<=687194767360)(i:Nat)(hi:i<6)(hno:¬Co e i):wp (K A) CP (fun x s'=>x=.normal/\s'=BJ e (i+1)) (BJ e i):=by
 have h0:=VO (A:=A) e hs;have h3:=Si (A:=A) e hs hl;have h1:=fun k=>Wu (A:=A) k e;have hi6:(i:Int)<6:=oz
 unfold Co at hno;have:i=0\/i=1\/i=2\/i=3\/i=4\/i=5:=oz
 have g0:(AV 353 354 355 356)[0]?=some [.c (.fn 153 [] []),.c (.fn 154 [] [])]:=rfl;have g1:(AV 353 354 355 356)[1]?=some [.clo 151 [true] [[.ptr 353 0]],.c (.fn 156 [] [])]:=rfl;have g2:(AV 353 354 355 356)[2]?=some [.clo 151 [true] [[.ptr 354 0]],.c (.fn 157 [] [])]:=rfl;have g3:(AV 353 354 355 356)[3]?=some [.c (.fn 158 [] []),.c (.fn 159 [] [])]:=rfl
 have g4:(AV 353 354 355 356)[4]?=some [.clo 151 [true] [[.ptr 355 0]],.c (.fn 152 [] [])]:=rfl;have g5:(AV 353 354 355 356)[5]?=some [.clo 151 [true] [[.ptr 356 0]],.c (.fn 152 [] [])]:=rfl;have gl:(AV 353 354 355 356).length=6:=rfl;have gren:(AV 353 354 355 356).map (fun x=>x.map (W.ren (BR [768,1184,1185,1186,1440,1441,1442,1664]) 4))=AV 353 354 355 356:=rfl;have m2:AH (intV 2) 6=some 2:=rfl
 have m3:AH (intV 3) 6=some 3:=rfl;have m4:AH (intV 4) 6=some 4:=rfl;have m5:AH (intV 5) 6=some 5:=rfl;rcases this with rfl|rfl|rfl|rfl|rfl|rfl
 .have hd:decide (e.kind=5/\∃ f,e.kids[0]?=some f/\f.kind=4)=false:=by simpa using hno
  rw[hd]at h0;unfold CP BJ;generalize AV 353 354 355 356=RR at *
  simp(maxSteps:=9^7) (disch:=try exact zd) [h0,g0,gl,gren,m2,m3,m4,m5,-getElem?_pos]
 .have hd:¬e.kind=6:=by simpa using hno
  have hc:=h1 6;unfold CP BJ;generalize AV 353 354 355 356=RR at *
  simp(maxSteps:=9^7) (disch:=try exact zd) [hc,hd,g1,gl,gren,m2,m3,m4,m5,-getElem?_pos]
 .have hd:¬e.kind=7:=by simpa using hno
  have hc:=h1 7;unfold CP BJ;generalize AV 353 354 355 356=RR at *
  simp(maxSteps:=9^7) (disch:=try exact zd) [hc,hd,g2,gl,gren,m2,m3,m4,m5,-getElem?_pos]
 .have hd:decide (e.kind=8/\∃ k,e.kids[0]?=some k/\(spine k).1.kind=2)=false:=by simpa using hno
  rw[hd]at h3;unfold CP BJ;generalize AV 353 354 355 356=RR at *
  simp(maxSteps:=9^7) (disch:=try exact zd) [h3,g3,gl,gren,m2,m3,m4,m5,-getElem?_pos]
 .have hd:¬e.kind=9:=by simpa using hno
  have hc:=h1 9;unfold CP BJ;generalize AV 353 354 355 356=RR at *
  simp(maxSteps:=9^7) (disch:=try exact zd) [hc,hd,g4,gl,gren,m2,m3,m4,m5,-getElem?_pos]
 .have hd:¬e.kind=11:=by simpa using hno
  have hc:=h1 11;unfold CP BJ;generalize AV 353 354 355 356=RR at *
  simp(maxSteps:=9^7) (disch:=try exact zd) [hc,hd,g5,gl,gren,m2,m3,m4,m5,-getElem?_pos]
def aidN (i:Nat):Nat:=if i=0 then 154 else if i=1 then 156 else if i=2 then 157 else if i=3 then 159 else 152
theorem F2 (e:Exp)(hs:shp e)(hl:e.weight<=687194767360)(i:Nat)(hi:i<6)(hno:∀j,j<i->¬Co e j)(ha:Co e i)(x:Exp)(b:Bool)(hc:(K A).call (aidN i) [expV e] []=some (.tu [expV x,Ac b],[])):
 (K A).call 48 [expV e] []=some (.tu [expV x,intV (i+1),Ac b],[]):=by
 have hrl:=M6 (A:=A);have h0:=VO (A:=A) e hs;have h3:=Si (A:=A) e hs hl;have h1:=fun k=>Wu (A:=A) k e;have g0:(AV 353 354 355 356)[0]?=some [.c (.fn 153 [] []),.c (.fn 154 [] [])]:=rfl;have g1:(AV 353 354 355 356)[1]?=some [.clo 151 [true] [[.ptr 353 0]],.c (.fn 156 [] [])]:=rfl;have g2:(AV 353 354 355 356)[2]?=some [.clo 151 [true] [[.ptr 354 0]],.c (.fn 157 [] [])]:=rfl
 have g3:(AV 353 354 355 356)[3]?=some [.c (.fn 158 [] []),.c (.fn 159 [] [])]:=rfl;have g4:(AV 353 354 355 356)[4]?=some [.clo 151 [true] [[.ptr 355 0]],.c (.fn 152 [] [])]:=rfl;have g5:(AV 353 354 355 356)[5]?=some [.clo 151 [true] [[.ptr 356 0]],.c (.fn 152 [] [])]:=rfl;have gl:(AV 353 354 355 356).length=6:=rfl
 have gr:(AV 1 2 3 4).map (fun x=>x.map (W.ren (nthN [352,353,354,355,356]) 4))=AV 353 354 355 356:=rfl;have m2:AH (intV 2) 6=some 2:=rfl;have m3:AH (intV 3) 6=some 3:=rfl;have m4:AH (intV 4) 6=some 4:=rfl;have m5:AH (intV 5) 6=some 5:=rfl;refine fnO v48 ?_;unfold v48;simp(maxSteps:=9^7) (disch:=try exact zd) [hrl,gl,gr,-getElem?_pos]
 refine Am (BJ e) i (by simp[BJ]) (fun j hj=>NZ e hs hl j oz (hno j hj)) ?_;clear hrl gr;have hi6:i=0\/i=1\/i=2\/i=3\/i=4\/i=5:=oz
 unfold Co at ha;rcases hi6 with rfl|rfl|rfl|rfl|rfl|rfl
 .replace hc:(K A).call 154 [expV e] []=some (.tu [expV x,Ac b],[]):=hc
  have hd:decide (e.kind=5/\∃f,e.kids[0]?=some f/\f.kind=4)=true:=by simpa using ha
  rw[hd]at h0;unfold CP BJ;generalize AV 353 354 355 356=RR at *
  simp(maxSteps:=9^7) (disch:=try exact zd) [h0,hc,g0,gl,m2,m3,m4,m5,-getElem?_pos]
 .replace hc:(K A).call 156 [expV e] []=some (.tu [expV x,Ac b],[]):=hc
  have hd:e.kind=6:=by simpa using ha
  have hk:=h1 6;unfold CP BJ;generalize AV 353 354 355 356=RR at *
  simp(maxSteps:=9^7) (disch:=try exact zd) [hk,hd,hc,g1,gl,m2,m3,m4,m5,-getElem?_pos]
 .replace hc:(K A).call 157 [expV e] []=some (.tu [expV x,Ac b],[]):=hc
  have hd:e.kind=7:=by simpa using ha
  have hk:=h1 7;unfold CP BJ;generalize AV 353 354 355 356=RR at *
  simp(maxSteps:=9^7) (disch:=try exact zd) [hk,hd,hc,g2,gl,m2,m3,m4,m5,-getElem?_pos]
 .replace hc:(K A).call 159 [expV e] []=some (.tu [expV x,Ac b],[]):=hc
  have hd:decide (e.kind=8/\∃k,e.kids[0]?=some k/\(spine k).1.kind=2)=true:=by simpa using ha
  rw[hd]at h3;unfold CP BJ;generalize AV 353 354 355 356=RR at *
  simp(maxSteps:=9^7) (disch:=try exact zd) [h3,hc,g3,gl,m2,m3,m4,m5,-getElem?_pos]
 .replace hc:(K A).call 152 [expV e] []=some (.tu [expV x,Ac b],[]):=hc
  have hd:e.kind=9:=by simpa using ha
  have hk:=h1 9;unfold CP BJ;generalize AV 353 354 355 356=RR at *
  simp(maxSteps:=9^7) (disch:=try exact zd) [hk,hd,hc,g4,gl,m2,m3,m4,m5,-getElem?_pos]
 .replace hc:(K A).call 152 [expV e] []=some (.tu [expV x,Ac b],[]):=hc
  have hd:e.kind=11:=by simpa using ha
  have hk:=h1 11;unfold CP BJ;generalize AV 353 354 355 356=RR at *
  simp(maxSteps:=9^7) (disch:=try exact zd) [hk,hd,hc,g5,gl,m2,m3,m4,m5,-getElem?_pos]
theorem Sr (e:Exp)(hs:shp e)(hl:e.weight<=687194767360)(hno:∀j,j<6->¬Co e j)(h5:e.kind≠5)(h8:e.kind≠8):(K A).call 48 [expV e] []=some (.tu [expV e,intV 0,Ac false],[]):=by
 have hrl:=M6 (A:=A);have gl:(AV 353 354 355 356).length=6:=rfl;have gr:(AV 1 2 3 4).map (fun x=>x.map (W.ren (nthN [352,353,354,355,356]) 4))=AV 353 354 355 356:=rfl;refine fnO v48 ?_;unfold v48;simp(maxSteps:=9^7) (disch:=try exact zd) [hrl,gl,gr,-getElem?_pos];refine Am (BJ e) 6 (by simp[BJ]) (fun j hj=>NZ e hs hl j oz (hno j hj)) ?_;clear hrl gr;unfold CP BJ
 generalize AV 353 354 355 356=RR at *
 simp(maxSteps:=9^7) (disch:=try exact zd) [h5,h8,gl,-getElem?_pos]
theorem Zcq (e f x:Exp)(m:Int)(b:Bool)(hs:shp e)(hl:e.weight<=687194767360)(hno:∀j,j<6->¬Co e j)(h58:e.kind=5\/e.kind=8)(hf:e.kids[0]?=some f)(hc:(K A).call 48 [expV f] []=some (.tu [expV x,intV m,Ac b],[])):
 (K A).call 48 [expV e] []=some (.tu [expV (AD e (x::e.children.tail)),intV m,Ac b],[]):=by
 have hrl:=M6 (A:=A);have gl:(AV 353 354 355 356).length=6:=rfl;have gr:(AV 1 2 3 4).map (fun x=>x.map (W.ren (nthN [352,353,354,355,356]) 4))=AV 353 354 355 356:=rfl;have hkl:0<e.kids.length:=by
  cases hh:e.kids with
  |nil=>rw[hh]at hf;simp at hf
  |cons a l=>simp
 have hne:e.kids≠[]:=fun h=>by rw[h]at hkl;simp at hkl
 have hle:=e.children_le;rw[e.children_len]at hle;have hch:=Ch (A:=A) e hne hl;have hcl:=e.children_len;have hset:e.children.set 0 x=x::e.children.tail:=by
  cases hh:e.children with
  |nil=>rw[hh]at hcl;simp at hcl;omega
  |cons a l=>rfl
 have hrs:setRow (wr (Exp.rows e.children)) 0 (wc x.row)=wr (Exp.rows (x::e.children.tail)):=by rw[DH,hset]
 have hCl:(x::e.children.tail).length=e.kids.length+e.arms.length:=by rw[<-hset,List.length_set,hcl]
 have hw:=Gn (A:=A) e (x::e.children.tail) hCl hl;have hg0:∃c,e.children[0]?=some c:=Ab oz;obtain⟨c0,hg0⟩:=hg0;rw[hcl]at hch;have hrow':=BQ e
 have hrowW:wc (AD e (x::e.children.tail)).row=[.c (.int .i64 e.kind),.c (.int .i64 e.pos),.c (.str e.name),.c (.int .i64 e.num),.c (.sl (Exp.rows ((x::e.children.tail).take e.kids.length))),.c (.sl (Exp.armRows (Av e.arms ((x::e.children.tail).drop e.kids.length)))),.c (.int .i64 e.ty.kind),.c (.str e.ty.name),.c (.int .i64 e.ty.id),.c (.int .i64 e.ty.home),.c (.sl (Ty.rows e.ty.args))]:=by rw[Exp.row_eq];rfl
 have hkW:((x::e.children.tail).take e.kids.length).length=e.kids.length:=by rw[qR,hCl];omega
 have haW:(Av e.arms ((x::e.children.tail).drop e.kids.length)).length=e.arms.length:=by rw[armsW_len,qab,hCl];omega
 refine fnO v48 ?_;unfold v48;simp(maxSteps:=9^7) (disch:=try exact zd) [hrl,gl,gr,-getElem?_pos];refine Am (BJ e) 6 (by simp[BJ]) (fun j hj=>NZ e hs hl j oz (hno j hj)) ?_;clear hrl gr;unfold CP BJ;generalize AV 353 354 355 356=RR at *
 generalize x::e.children.tail=cs at *
 simp only[expV,hrow']at hch hw;rcases h58 with h5|h5
 .simp only [h5] at hch hw hrowW
  simp(maxSteps:=9^7) (disch:=try exact zd) [h5,gl,hf,hc,hch,hrs,hg0,hw,hrowW,hCl,hkW,haW,hrow',-getElem?_pos]
 .simp only [h5] at hch hw hrowW
  simp(maxSteps:=9^7) (disch:=try exact zd) [h5,gl,hf,hc,hch,hrs,hg0,hw,hrowW,hCl,hkW,haW,hrow',-getElem?_pos]
theorem JW {e:Exp}(hs:shp e)(h:e.kind=5\/e.kind=6\/e.kind=7):∃f a,e.kids=[f,a]:=by
 have h1:=hs.one.2.2;unfold DN at h1;rw[if_pos h]at h1
 match hk:e.kids with
 |[f,a]=>exact⟨f,a,rfl⟩
 |[]=>rw[hk]at h1;simp at h1
 |[_]=>rw[hk]at h1;simp at h1
 |_::_::_::_=>rw[hk]at h1;simp at h1
theorem Lu {e:Exp}(hs:shp e)(h:e.kind=4\/e.kind=8\/e.kind=9\/e.kind=11):∃k,e.kids=[k]:=by
 have h1:=hs.one.2.2;unfold DN at h1;rw[if_neg oz,if_pos h]at h1
 match hk:e.kids with
 |[f]=>exact⟨f,rfl⟩
 |[]=>rw[hk]at h1;simp at h1
 |_::_::_=>rw[hk]at h1;simp at h1
theorem TP {e:Exp}(hs:shp e)(h:¬(e.kind=5\/e.kind=6\/e.kind=7))(h2:¬(e.kind=4\/e.kind=8\/e.kind=9\/e.kind=11)):e.kids=[]:=by
 have h1:=hs.one.2.2;unfold DN at h1;rw[if_neg h,if_neg h2]at h1;exact qS.1 h1
def Vw (A:Ag)(n:Nat)(e:Exp):Prop:=∃(x:Exp) (m:Int) (b:Bool),(K A).call 48 [expV e] []=some (.tu [expV x,intV m,Ac b],[])/\
 ((b=true/\∃m':Nat,m=m'/\Aq subP Ai AG n e=some (x,m'))\/(b=false/\Aq subP Ai AG n e=none))
theorem VM {B:Nat}:∀(n:Nat) (e:Exp),e.weight<=n->okE e->lfE e->Lim B e->Vw A n e
 |0,e,h,_,_,_=>by have:=e.weight_pos;omega
 |n+1,e,hn,he,hl,hw=>by
  have hs:=he.1;have hsm:=hw.sm;have hwl:e.weight<=687194767360:=oz
  have down:∀f,e.kids[0]?=some f->(e.kind=5\/e.kind=8)->(∀j,j<6->¬Co e j)->(Aq subP Ai AG (n+1) e=(Aq subP Ai AG n f).map fun p=>(AD e (p.1::e.children.tail),p.2))->Vw A (n+1) e:=by
   intro f hf h58 hno hg;have hm:f∈e.children:=AE (qc hf);have hlt:=Exp.child_lt hm;obtain⟨x,m,b,hc,hb⟩:=VM n f oz (he.child hm) (hl.child hm) (hw.child hm);refine⟨_,m,b,Zcq e f x m b hs hwl hno h58 hf hc,?_⟩;rw[hg];rcases hb with ⟨hb,m',hm',h1⟩|⟨hb,h1⟩
   .exact .inl ⟨hb,m',hm',by rw[h1];rfl⟩
   .exact .inr ⟨hb,by rw[h1];rfl⟩
  by_cases h2:e.kind=5\/e.kind=6\/e.kind=7
  .obtain ⟨f,a,hk⟩:=JW hs h2
   have hf:e.kids[0]?=some f:=(by rw[hk];rfl);have hfm:f∈e.children:=AE (qc hf);rcases h2 with h5|h6|h7
   .by_cases h4:f.kind=4
    .obtain ⟨k,hfk⟩:=Lu (hs.child hfm) (.inl h4)
     refine⟨_,_,true,F2 e hs hwl 0 oz (fun j hj=>by omega) (.inl ⟨rfl,h5,f,hf,h4⟩) _ true (Zn e f a k hk hfk he hl hw),.inl ⟨rfl,1,rfl,?_⟩⟩;unfold Aq;rw[hk];simp[h5,h4,hfk]
    .refine down f hf (.inl h5) (fun j _ ha => ?_) ?_
     .unfold Co at ha
      rcases ha with ⟨_,_,g,hg,h⟩|⟨_,h⟩|⟨_,h⟩|⟨_,h,_⟩|⟨_,h⟩|⟨_,h⟩
      .rw[hf]at hg;obtain rfl:=qaW hg;exact h4 h
      all_goals omega
     .conv=>lhs;unfold Aq
      rw[hk];simp[h5,h4]
   .refine ⟨_,_,true,F2 e hs hwl 1 oz (fun j hj ha => ?_) (.inr (.inl ⟨rfl,h6⟩)) _ true (Zid e f a hk he hl hw),.inl ⟨rfl,2,rfl,?_⟩⟩
    .unfold Co at ha;omega
    .unfold Aq
     rw[hk];simp[h6]
   .refine ⟨_,_,true,F2 e hs hwl 2 oz (fun j hj ha => ?_) (.inr (.inr (.inl ⟨rfl,h7⟩))) _ true (Xe e f a h7 hk he hl hw),.inl ⟨rfl,3,rfl,?_⟩⟩
    .unfold Co at ha;omega
    .unfold Aq
     rw[hk];simp[h7]
  .by_cases h1:e.kind=4\/e.kind=8\/e.kind=9\/e.kind=11
   .obtain ⟨k,hk⟩:=Lu hs h1
    have hf:e.kids[0]?=some k:=(by rw[hk];rfl);rcases h1 with h4|h8|h9|h11
    .refine ⟨_,_,false,Sr e hs hwl (fun j hj ha => ?_) oz oz,.inr ⟨rfl,?_⟩⟩
     .unfold Co at ha;omega
     .unfold Aq
      rw[hk];simp[h4]
    .by_cases hm:(spine k).1.kind=2
     .have hc:=Zgh (A:=A) e k hk he hl hw
      have hg:Aq subP Ai AG (n+1) e=BY subP Ai e (spine k).1.name (spine k).2:=by
       conv=>lhs;unfold Aq
       rw[hk];have hsp:=HF k.weight k [] (qg _) (hs.child (AE (qc hf)));simp[h8,hsp,hm]
      cases ho:BY subP Ai e (spine k).1.name (spine k).2 with
      |none=>
       rw[ho]at hc;exact⟨_,_,false,F2 e hs hwl 3 oz (fun j hj ha=>by unfold Co at ha;omega) (.inr (.inr (.inr (.inl ⟨rfl,h8,k,hf,hm⟩)))) _ false hc,.inr ⟨rfl,by rw[hg,ho]⟩⟩
      |some p=>
       rw[ho]at hc;refine⟨_,_,true,F2 e hs hwl 3 oz (fun j hj ha=>by unfold Co at ha;omega) (.inr (.inr (.inr (.inl ⟨rfl,h8,k,hf,hm⟩)))) _ true hc,.inl ⟨rfl,4,rfl,?_⟩⟩;rw[hg,ho];have h4:p.2=4:=by
        unfold BY at ho;split at ho
        .cases ho
        .split at ho
         .exact(congrArg Prod.snd (qaW ho)).symm
         .cases ho
       rw[<-h4]
     .refine down k hf (.inr h8) (fun j _ ha => ?_) ?_
      .unfold Co at ha
       rcases ha with ⟨_,h,_⟩|⟨_,h⟩|⟨_,h⟩|⟨_,_,g,hg,h⟩|⟨_,h⟩|⟨_,h⟩
       .omega
       .omega
       .omega
       .rw[hf]at hg;obtain rfl:=qaW hg;exact hm h
       .omega
       .omega
      .conv=>lhs;unfold Aq
       rw[hk];have hsp:=HF k.weight k [] (qg _) (hs.child (AE (qc hf)));simp[h8,hsp,hm]
    .refine ⟨_,_,true,F2 e hs hwl 4 oz (fun j hj ha => ?_) (.inr (.inr (.inr (.inr (.inl ⟨rfl,h9⟩))))) _ true (Rp e k hf),.inl ⟨rfl,5,rfl,?_⟩⟩
     .unfold Co at ha;omega
     .unfold Aq
      rw[hk];simp[h9]
    .refine ⟨_,_,true,F2 e hs hwl 5 oz (fun j hj ha => ?_) (.inr (.inr (.inr (.inr (.inr ⟨rfl,h11⟩))))) _ true (Rp e k hf),.inl ⟨rfl,6,rfl,?_⟩⟩
     .unfold Co at ha;omega
     .unfold Aq
      rw[hk];simp[h11]
   .refine ⟨_,_,false,Sr e hs hwl (fun j hj ha => ?_) oz oz,.inr ⟨rfl,?_⟩⟩
    .unfold Co at ha;omega
    .unfold Aq
     rw[TP hs h2 h1]
variable {A:Ag}
def Dh (e:Exp)(o:Option (Exp×Nat)):V×List Obj:=match o with
 |some p=>(.tu [expV (Aj p.1),intV p.2,Ac true],[])
 |none=>(.tu [expV e,intV 0,Ac false],[])
theorem VJ {B:Nat}(u:CC1)(e:Exp)(h:StE e)(hw:Lim B e):(K A).call 16 [.sc (.c (.sl u)),expV e] []=some (Dh e (Aq subP Ai AG e.weight e)):=by
 have hsm:=hw.sm;have hv:=ZgJ (A:=A) e h oz;obtain⟨x,m,b,hc,hb⟩:=VM (A:=A) e.weight e (qg _) h.ok h.lf hw;refine fnO v16 ?_;rcases hb with ⟨rfl,m',rfl,hs⟩|⟨rfl,hs⟩
 .have hx:=Gf _ e _ (qg _) h.ok h.lf hw hs
  have hst:=SO (A:=A) x (IQ (fun e f he hk hf=>Gc he hk hf) _ e _ h.ok hs).1.wf (by
   have h1:=hx.1;have h2:=hw.wt;simp only at h1;omega)
  rw[hs];unfold v16 Dh;simp(maxSteps:=9^7) (disch:=try exact zd) [hv,hc,hst,-getElem?_pos]
 .rw [hs]
  unfold v16 Dh;simp(maxSteps:=9^7) (disch:=try exact zd) [hv,hc,-getElem?_pos]
def Gh (cur:Exp)(acc:List Exp):St:=if acc=[] then ⟨[(1,.sc (.ptr 64 0)),(2,.sc (.ptr 128 0)),(4,.sc .nil)],[(64,some (.box (wc cur.row))),(128,some (.box [zi,zi,zs,zi,.nil,.nil,zi,zs,zi,zi,.nil]))]⟩
 else ⟨[(1,.sc (.ptr 64 0)),(2,.sc (.ptr 128 0)),(4,BX acc)],[(64,some (.box (wc cur.row))),(128,some (.box [zi,zi,zs,zi,.nil,.nil,zi,zs,zi,zi,.nil])),(768,some (.arr 11 (wr (Exp.rows acc)) acc.length))]⟩
theorem Zbz (x:Exp)(l:List Exp):wc x.row::wr (Exp.rows l)=wr (Exp.rows (x::l)):=by rw[Exp.rows];rfl
theorem MQ (e:Exp)(hs:shp e)(hl:e.weight<=687194767360):(K A).call 56 [expV e] []=some (.tu [expV (spine e).1,BX (spine e).2],[]):=by
 refine fnO v56 ?_;have s2:=G4 e hs;unfold v56;simp(disch:=try exact zd) [-getElem?_pos];refine Al (fun i s=>∃cur acc,shp cur/\acc.length=i/\spine e=((spine cur).1,(spine cur).2++acc)/\s=Gh cur acc) (spine e).2.length ⟨e,[],hs,rfl,by simp,by simp[Gh]⟩ ?_ ?_
 .rintro i s hi ⟨cur,acc,hc,ha,hsp,rfl⟩
  have h5:cur.kind=5:=by
   by_cases h5:cur.kind=5
   .exact h5
   .rw [hsp,E8 h5] at hi
    simp[ha]at hi
  obtain⟨f,x,hfx⟩:=JW hc (.inl h5);have hf:shp f:=hc.child (AE (by rw[hfx];simp));have hok:=okRows_exp acc;have hal:acc.length<=687194767360:=oz
  have hcm:(acc.length+1==1+acc.length)=true:=by simp[qbe]
  refine wp_mono (Q:=fun e' s'=>e'=.normal/\s'=Gh f (x::acc)) ?_ ?_
  .rw [show Gh f (x::acc)=_ from if_neg (List.cons_ne_nil x acc)]
   by_cases hn:acc=[]
   .subst hn
    rw[show Gh cur []=_ from if_pos rfl];unfold Jz;simp(disch:=try exact zd) [h5,hfx,qP,-getElem?_pos]
   .rw [show Gh cur acc=_ from if_neg hn]
    unfold Jz;simp(disch:=try exact zd) [h5,hfx,hok,Zbz,hcm,qP,-getElem?_pos]
  .rintro e' s' ⟨rfl,rfl⟩
   refine .inl ⟨rfl,f,x::acc,hf,by simp[ha],?_,rfl⟩;rw[hsp,GA h5 hfx];simp
 .rintro s ⟨cur,acc,hc,ha,hsp,rfl⟩
  have h5:¬cur.kind=5:=by
   intro h5;obtain⟨f,x,hfx⟩:=JW hc (.inl h5);rw[hsp,GA h5 hfx]at ha;simp at ha;omega
  have hr:(spine e).2=acc:=by rw[hsp,E8 h5];simp
  have hc1:(spine e).1=cur:=by rw[hsp,E8 h5]
  rw[hr,hc1];unfold Jz Gh;cases acc with
  |nil=>simp(disch:=try exact zd) [h5,-getElem?_pos]
  |cons y r=>simp(disch:=try exact zd) [h5,-getElem?_pos]
theorem ZgH (e:Exp)(hs:shp e)(hl:e.weight<=687194767360):(K A).call 20 [expV e] []=some (Ac (decide (valP e)),[]):=by
 have hc:=MQ (A:=A) e hs hl;refine fnO v20 ?_;unfold v20 valP;by_cases h3:e.kind=3
 .simp(maxSteps:=9^7) (disch:=try exact zd) [hc,h3,-getElem?_pos]
 .by_cases h4:e.kind=4
  .simp(maxSteps:=9^7) (disch:=try exact zd) [hc,h4,-getElem?_pos]
  .simp(maxSteps:=9^7) (disch:=try exact zd) [hc,h3,h4,-getElem?_pos]
theorem Wo (e:Exp):e.wf->e.weight<=687194767360->(K A).call 15 [expV e] []=some (intV (Ay e),[]):=by
 induction e using Exp.ind with
 |h e ih=>
 intro hwf hl;refine fnO v15 ?_;have hle:=e.children_le;rw[e.children_len]at hle;have hch:=E7 (A:=A) e oz;unfold v15;simp(disch:=try exact zd) [hch,-getElem?_pos];have hnw:=K3 e;have hne:=GW e;have hsum:∀i,((e.children.map Ay).take i).sum<=(e.children.map Ay).sum:=fun i=>DS
 refine Am (fun i=>⟨[(3,intV ((1+((e.children.map Ay).take i).sum:Nat):Int)),(4,.sc (.arr 352 (e.kids.length+e.arms.length))),(5,intV i)],[(352,some (.arr 11 (wr (Exp.rows e.children)) 0))]⟩) (e.kids.length+e.arms.length) ?_ ?_ ?_
 .simp
 .intro i hi
  have hi2:(i:Int)<(e.kids.length:Int)+e.arms.length:=oz
  obtain⟨x,hx⟩:=Ab (l:=e.children) (i:=i) (by rw[e.children_len];exact hi);have hm:=qc hx;have hrec:=ih x hm (hwf.child hm) (by have:=Exp.child_lt hm;omega);have hxm:(e.children.map Ay)[i]?=some (Ay x):=by rw[qk,hx];rfl
  have hs1:((e.children.map Ay).take (i+1)).sum=((e.children.map Ay).take i).sum+Ay x:=by rw[AP hxm];simp
  have hs2:=hsum (i+1);have hib:(i:Int)+1<=687194767360:=by have:=e.children_len;omega
  rw[hs1];generalize ((e.children.map Ay).take i).sum=S at *
  have hadd:IntKind.i64.wrap (((1+S:Nat):Int)+(Ay x:Int))=((1+(S+Ay x):Nat):Int):=by rw[FA _ oz];omega
  unfold OT;simp(maxSteps:=9^7) (disch:=try exact zd) [hi,hi2,hx,hrec,hadd,-getElem?_pos]
  try omega
 .have hall:(e.children.map Ay).take (e.kids.length+e.arms.length)=e.children.map Ay:=qh (by rw [qat,e.children_len];omega)
  rw[hall,<-hne];unfold OT;simp(maxSteps:=9^7) (disch:=try exact zd) [-getElem?_pos]
variable {A:Ag}
def runP:Nat->Exp->Exp×Nat
 |0,e=>(e,0)
 |k+1,e=>match Aq subP Ai AG e.weight e with
  |none=>(e,0)
  |some p=>if 2000<Ay e then (e,0) else ((runP k (Aj p.1)).1,(runP k (Aj p.1)).2+1)
theorem G5 {k:Nat}{e:Exp}(h:Aq subP Ai AG e.weight e=none):runP k e=(e,0):=by
 cases k with
 |zero=>rfl
 |succ k=>simp only[runP,h]
theorem G8 {k:Nat}{e:Exp}(h:2000<Ay e):runP k e=(e,0):=by
 cases k with
 |zero=>rfl
 |succ k=>
  simp only[runP];split
  .rfl
  .rw[if_pos h]
theorem Fw {k:Nat}{e:Exp}{p:Exp×Nat}(h:Aq subP Ai AG e.weight e=some p)(hn:¬2000<Ay e):runP (k+1) e=((runP k (Aj p.1)).1,(runP k (Aj p.1)).2+1):=by
 simp only[runP,h,if_neg hn]
theorem F3:∀(k:Nat)(e:Exp),(runP k e).2<=k
 |0,_=>qg _
 |k+1,e=>by
  cases h:Aq subP Ai AG e.weight e with
  |none=>rw[G5 h];exact qaa _
  |some p=>
   by_cases hn:2000<Ay e
   .rw[G8 hn];exact qaa _
   .rw [Fw h hn]
    have:=F3 k (Aj p.1);simp only;omega
theorem L4 {k:Nat}{e:Exp}(h:(runP k e).2=0):runP k e=(e,0):=by
 cases k with
 |zero=>rfl
 |succ k=>
  cases hp:Aq subP Ai AG e.weight e with
  |none=>exact G5 hp
  |some p=>
   by_cases hn:2000<Ay e
   .exact G8 hn
   .rw [Fw hp hn] at h
    simp only at h;omega
theorem YQ (a:Exp):∀b,sameP a b->∀ρ,cV b ρ<=cV a ρ:=by
 induction a using Exp.ind with
 |h a ih=>
  intro b h ρ;have hs:=BA.1 h;have hk:a.kind=b.kind:=hs.1.1;by_cases h1:a.kind=1
  .rw [DJ h1,DJ (hk▸h1),hs.1.2.1]
   exact qg _
  .rw [DI h1,DI (hk▸h1)]
   refine Fu _ _ 0 h.kids_len.symm fun i y x hy hx=>?_;obtain⟨y',hy',hxy⟩:=h.kid hx;rw[hy]at hy';cases hy';simp only;rw[<-GE h];exact ih x (qc hx) y hxy _
theorem Zeg {B:Nat}(a:Exp):∀b,sameP a b->occB B a->occB B b:=by
 induction a using Exp.ind with
 |h a ih=>
  intro b h hb;have get:∀(i:Nat) y,b.children[i]?=some y->∃x,a.children[i]?=some x/\sameP x y:=fun i y hy=>by
   obtain⟨x,hx⟩:=Ab (l:=a.children) (i:=i) (by have:=h.kids_len;have:=(qf.1 hy).1;omega);obtain⟨y',hy',hxy⟩:=h.kid hx;rw[hy]at hy';cases hy';exact⟨x,hx,hxy⟩
  rw[Fj];refine⟨fun i y hy u hu=>?_,fun y hy=>?_⟩
  .obtain ⟨x,hx,hxy⟩:=get i y hy
   exact qr (YQ x y hxy _) (hb.one i x hx u (GE h i▸hu))
  .obtain ⟨i,hi⟩:=qn.1 hy
   obtain⟨x,hx,hxy⟩:=get i y hi;exact ih x (qc hx) y hxy (hb.child (qc hx))
theorem Ml (e:Exp):posE e->Aj e=e:=by
 induction e using Exp.ind with
 |h e ih=>
  intro h;have hm:e.children.map Aj=e.children:=by
   rw[qM (g:=id) fun x hx=>ih x hx (h.child hx)];simp
  have ha:List.zipWith (fun(a:ArmH×Exp) c=>((⟨0,a.1.con,a.1.vars⟩:ArmH),c)) e.arms (e.arms.map (·.2))=e.arms:=by
   have h2:=h.one.2;generalize e.arms=l at h2
   induction l with
   |nil=>rfl
   |cons a l il=>
    obtain⟨⟨p,c,v⟩,x⟩:=a;have h3:p=0:=h2 (⟨p,c,v⟩,x) sy;simp only[qt,List.zipWith_cons_cons,il fun a ha=>h2 a (by simp[ha]),h3]
  rw[Eb,hm];unfold DF Exp.children;rw[List.take_left,List.drop_left,ha,<-h.one.1];cases e;rfl
def OkR (e:Exp):Prop:=StE e/\∃B,Lim B e
theorem OkR.next {e:Exp}(h:OkR e){p:Exp×Nat}(hp:Aq subP Ai AG e.weight e=some p)(hn:¬2000<Ay e):OkR (Aj p.1):=by
 have hw:=Jm e h.1.lf.2;have hl:Lim 2000 e:=⟨Lo e oz,oz,oz⟩;obtain⟨h1,h2,_⟩:=Gf e.weight e p (qg _) h.1.ok h.1.lf hl hp;have hs:=S3 p.1;exact⟨h.1.step hl oz hp,2000,Zeg _ _ (KE p.1) h2,oz,oz⟩
theorem OkR.run:∀(k:Nat){e:Exp},OkR e->OkR (runP k e).1
 |0,_,h=>h
 |k+1,e,h=>by
  cases hp:Aq subP Ai AG e.weight e with
  |none=>rw[G5 hp];exact h
  |some p=>
   by_cases hn:2000<Ay e
   .rw[G8 hn];exact h
   .rw [Fw hp hn]
    exact OkR.run k (h.next hp hn)
theorem M9:∀(n:Nat)(e:Exp)(p:Exp×Nat),Aq subP Ai AG n e=some p->p.2≠0
 |0,_,_,h=>by cases h
 |n+1,e,p,h=>by
  have ih:=M9 n;unfold Aq BY at h;grind[qu]
abbrev Lx:List W:=[zi,zi,zs,zi,.nil,.nil,zi,zs,zi,zi,.nil]
def RunS (u:CC1)(k:Nat)(e:Exp)(i:Nat)(t:List (Nat×Option Obj)):St:=⟨[(0,.sc (.c (.sl u))),(2,intV k),(4,.sc (.ptr 64 0)),(6,.sc (.ptr 128 0)),(9,intV i)],(64,some (.box (wc e.row)))::(128,some (.box Lx))::t⟩
def RunT (t:List (Nat×Option Obj)):Prop:=t=[]\/∃c,t=[(1280,some (.box c))]
def kP (k:Int):Nat:=(min (max k 0) 300).toNat
theorem Ze1 (u:CC1)(e:Exp)(k:Int)(h:OkR e):(K A).call 33 [.sc (.c (.sl u)),expV e,intV k] []=some (.tu [expV (Aj (runP (kP k) e).1),intV ((runP (kP k) e).2:Nat),Ac (decide (valP (runP (kP k) e).1))],[]):=by
 refine fnO v33 ?_;have hk:(if (300:Int)<(if (0:Int)>k then 0 else k) then (300:Int) else (if (0:Int)>k then 0 else k))=(kP k:Int):=by
  unfold kP;split<;>split at *<;>omega
 have hk3:kP k<=300:=by unfold kP;omega
 generalize kP k=n at *
 unfold v33;simp(disch:=try exact zd) [hk];refine Al (fun i s=>∃cur t,OkR cur/\RunT t/\i<=n/\runP n e=((runP (n-i) cur).1,(runP (n-i) cur).2+i)/\s=RunS u n cur i t) (runP n e).2 ⟨e,[],h,.inl rfl,qaa _,rfl,by simp[RunS]⟩ ?_ ?_
 .rintro i s hi ⟨cur,t,hok,ht,hin,hr,rfl⟩
  have h2:=congrArg Prod.snd hr;simp only at h2;obtain⟨j,hj⟩:∃j,n-i=j+1:=⟨n-i-1,by have:=F3 (n-i) cur;omega⟩;obtain⟨hst,B,hB⟩:=hok;have h16:=VJ (A:=A) u cur hst hB;have h71:=QI (A:=A) cur hst.ok.1.wf (by have:=hB.sm;omega);rw[hj]at hr h2;cases hp:Aq subP Ai AG cur.weight cur with
  |none=>
   rw[G5 hp]at h2;simp only at h2;omega
  |some p=>
   by_cases hn:2000<Ay cur
   .rw [G8 hn] at h2
    simp only at h2;omega
   .rw [Fw hp hn] at hr
    rw[hp]at h16;unfold Dh at h16;have hnx:=OkR.next ⟨hst,B,hB⟩ hp hn;have h0:=M9 _ _ _ hp;have hiI:(i:Int)<n:=oz;have hnI:¬(2000:Int)<Ay cur:=oz;obtain⟨x,r⟩:=p;simp only at *
    generalize Aj x=y at *
    refine wp_mono (Q:=fun e' s'=>e'=.normal/\s'=RunS u n y (i+1) [(1280,some (.box (wc y.row)))]) ?_ ?_
    .unfold HS RunS
     rcases ht with rfl|⟨c,rfl⟩ <;>
     simp(disch:=try exact zd) [hiI,hnI,h16,h71,h0]
    .rintro e' s' ⟨rfl,rfl⟩
     exact .inl ⟨rfl,y,_,hnx,.inr ⟨_,rfl⟩,oz,by rw[hr,show n-(i+1)=j by omega,qaE,qbe 1 i],rfl⟩
 .rintro s ⟨cur,t,hok,ht,hin,hr,rfl⟩
  have h2:=congrArg Prod.snd hr;simp only at h2;have hz:=L4 (k:=n-(runP n e).2) (e:=cur) oz;have h1:(runP n e).1=cur:=by rw[hr,hz]
  rw[h1];generalize (runP n e).2=m at *
  obtain⟨hst,B,hB⟩:=hok;have hsm:=hB.sm;have h16:=VJ (A:=A) u cur hst hB;have h71:=QI (A:=A) cur hst.ok.1.wf oz;have h49:=SO (A:=A) cur hst.ok.1.wf oz;have h19:=Zfr (A:=A) cur hst.ok.1 oz;by_cases hm:m=n
  .have hmI:¬(m:Int)<n:=oz
   unfold HS RunS;rcases ht with rfl|⟨c,rfl⟩ <;>
   simp(disch:=try exact zd) [hmI,h49,h19]
  .have hmI:(m:Int)<n:=oz
   obtain⟨j,hj⟩:∃j,n-m=j+1:=⟨n-m-1,oz⟩;rw[hj]at h2 hz;cases hp:Aq subP Ai AG cur.weight cur with
   |none=>
    rw[hp]at h16;unfold Dh at h16;unfold HS RunS;rcases ht with rfl|⟨c,rfl⟩ <;>
    simp(disch:=try exact zd) [hmI,h16,h49,h19]
   |some p=>
    by_cases hn:2000<Ay cur
    .rw [hp] at h16
     unfold Dh at h16;have h0:=M9 _ _ _ hp;have hnI:(2000:Int)<Ay cur:=oz;obtain⟨x,r⟩:=p;simp only at *
     generalize Aj x=y at *
     unfold HS RunS;rcases ht with rfl|⟨c,rfl⟩ <;>
     simp(disch:=try exact zd) [hmI,hnI,h16,h71,h0,h49,h19]
    .rw [Fw hp hn] at h2
     simp only at h2;omega
end Go.Vs.Tryz
namespace Go.Vs
open Go
structure SlotD where
 bound:Bool
 ty:Ty
 home:Int
 base:Bool
structure ChgD where
 id:Int
 old:SlotD
 isNew:Bool
def Bn (s:SlotD):List Cell:=[.bool s.bound,.int .i64 s.ty.kind,.str s.ty.name,.int .i64 s.ty.id,.int .i64 s.ty.home,.sl (Ty.rows s.ty.args),.int .i64 s.home,.bool s.base]
def K9 (c:ChgD):List Cell:=[.int .i64 c.id,.bool c.old.bound,.int .i64 c.old.ty.kind,.str c.old.ty.name,.int .i64 c.old.ty.id,.int .i64 c.old.ty.home,.sl (Ty.rows c.old.ty.args),.int .i64 c.old.home,.bool c.old.base,.bool c.isNew]
def Bd (l:List SlotD):CC1:=l.map Bn
def Bk (l:List ChgD):CC1:=l.map K9
@[simp] theorem slRow_len (s:SlotD):(Bn s).length=8:=rfl
@[simp] theorem chRow_len (s:ChgD):(K9 s).length=10:=rfl
@[simp] theorem slRows_len (l:List SlotD):(Bd l).length=l.length:=by simp[Bd]
@[simp] theorem chRows_len (l:List ChgD):(Bk l).length=l.length:=by simp[Bk]
@[simp] theorem slRows_get (l:List SlotD) (i:Nat):(Bd l)[i]?=(l[i]?).map Bn:=by simp[Bd]
@[simp] theorem okRows_sl (l:List SlotD):AZ 8 (wr (Bd l))=true:=Dc l slRow_len
@[simp] theorem okRows_ch (l:List ChgD):AZ 10 (wr (Bk l))=true:=Dc l chRow_len
@[simp] theorem slRows0:Bd []=[]:=rfl
@[simp] theorem chRows0:Bk []=[]:=rfl
section
variable (s:SlotD)
@[simp] theorem cut_sl0:cut (Bn s) 0 1=some [.bool s.bound]:=rfl
@[simp] theorem cut_sl1:cut (Bn s) 1 5=some s.ty.row:=by rw[Ty.row_eq];rfl
@[simp] theorem cut_sl6:cut (Bn s) 6 1=some [.int .i64 s.home]:=rfl
@[simp] theorem cut_sl7:cut (Bn s) 7 1=some [.bool s.base]:=rfl
@[simp] theorem cut_sl:cut (Bn s) 0 8=some (Bn s):=rfl
@[simp] theorem cutw_sl0:cut (wc (Bn s)) 0 1=some [.c (.bool s.bound)]:=rfl
@[simp] theorem cutw_sl1:cut (wc (Bn s)) 1 5=some (wc s.ty.row):=by rw[Ty.row_eq];rfl
@[simp] theorem cutw_sl6:cut (wc (Bn s)) 6 1=some [.c (.int .i64 s.home)]:=rfl
@[simp] theorem cutw_sl7:cut (wc (Bn s)) 7 1=some [.c (.bool s.base)]:=rfl
@[simp] theorem cutw_sl:cut (wc (Bn s)) 0 8=some (wc (Bn s)):=rfl
end
structure StoD where
 slots:List SlotD
 trail:List ChgD
end Go.Vs
namespace Go.Vs.Tryz
open Go Go.Vs
variable {A:Ag}
abbrev stoV (s:StoD):V:=.ag [.c (.sl (Bd s.slots)),.c (.sl (Bk s.trail))]
def stoOk (n:Nat)(s:StoD):Prop:=s.slots.length=n/\n<=1000/\s.trail.length<=1000000/\∀x∈s.slots,x.bound=true->tyS n x.ty/\x.ty.size<=687194767360/\x.ty.kind≠1
def A8 (s:StoD)(t:Ty):Ty:=if t.kind=1 then (match s.slots[t.id.toNat]? with
 |some x=>if x.bound then x.ty else t
 |none=>t) else t
def ext (s s':StoD):Prop:=∀(i:Nat) x,s.slots[i]?=some x->x.bound=true->∃y,s'.slots[i]?=some y/\y.bound=true/\y.ty=x.ty
theorem ext.refl (s:StoD):ext s s:=fun _ x h hb=>⟨x,h,hb,rfl⟩
theorem ext.trans {a b c:StoD}(h1:ext a b)(h2:ext b c):ext a c:=fun i x hx hb=>by
 obtain⟨y,hy,hyb,hyt⟩:=h1 i x hx hb;obtain⟨z,hz,hzb,hzt⟩:=h2 i y hy hyb;exact⟨z,hz,hzb,hzt.trans hyt⟩
theorem ext.set {s:StoD}{i:Nat}{x:SlotD}{T:List ChgD}(h:∀y,s.slots[i]?=some y->y.bound=true->x.bound=true/\x.ty=y.ty):ext s ⟨s.slots.set i x,T⟩:=fun j y hy hb=>by
 have hj:=(qf.1 hy).1;by_cases hji:i=j
 .subst hji
  obtain⟨h1,h2⟩:=h y hy hb;exact⟨x,by rw[qbf hj],h1,h2⟩
 .exact⟨y,by rw[qaN hji];exact hy,hb,rfl⟩
theorem ext.app {s:StoD}{l:List SlotD}{T:List ChgD}:ext s ⟨s.slots++l,T⟩:=fun j y hy hb=>
 ⟨y,by rw[qF (qf.1 hy).1];exact hy,hb,rfl⟩
theorem I5 {s:StoD}{t:Ty}(h:t.kind≠1):A8 s t=t:=by unfold A8;rw[if_neg h]
theorem HO {s:StoD}{t:Ty}{i:Nat}{x:SlotD}(hk:t.kind=1)(hi:t.id=i)(hx:s.slots[i]?=some x)(hb:x.bound=true):A8 s t=x.ty:=by
 unfold A8;rw[if_pos hk,hi,qam,hx];simp only[hb,if_true]
theorem Ps {s:StoD}{t:Ty}{i:Nat}{x:SlotD}(hi:t.id=i)(hx:s.slots[i]?=some x)(hb:x.bound=false):A8 s t=t:=by
 unfold A8;split
 .rw [hi,qam,hx]
  simp[hb]
 .rfl
theorem Kz {n:Nat}{s:StoD}(hs:stoOk n s){t:Ty}(ht:tyS n t)(hk:(A8 s t).kind=1):A8 s t=t/\t.kind=1/\∃(i:Nat) (x:SlotD),t.id=i/\i<n/\s.slots[i]?=some x/\x.bound=false:=by
 obtain⟨h1,h2,h3,h4⟩:=hs;by_cases ht1:t.kind=1
 .obtain ⟨g1,g2,_⟩:=ht.one.1 ht1
  obtain⟨i,hi⟩:∃i:Nat,t.id=i:=⟨t.id.toNat,oz⟩;obtain⟨x,hx⟩:=Ab (l:=s.slots) (i:=i) oz;cases hb:x.bound with
  |true=>
   rw[HO ht1 hi hx hb]at hk;exact absurd hk (h4 x (qc hx) hb).2.2
  |false=>exact⟨Ps hi hx hb,ht1,i,x,hi,oz,hx,hb⟩
 .rw [I5 ht1] at hk
  exact absurd hk ht1
theorem Zfk {n:Nat}{s s':StoD}(hs:stoOk n s)(he:ext s s'){t:Ty}(ht:tyS n t)(hk:(A8 s t).kind≠1):A8 s' t=A8 s t:=by
 by_cases ht1:t.kind=1
 .obtain ⟨g1,g2,_⟩:=ht.one.1 ht1
  have h1:=hs.1;obtain⟨i,hi⟩:∃i:Nat,t.id=i:=⟨t.id.toNat,oz⟩;obtain⟨x,hx⟩:=Ab (l:=s.slots) (i:=i) oz;cases hb:x.bound with
  |true=>
   obtain⟨y,hy,hyb,hyt⟩:=he i x hx hb;rw[HO ht1 hi hx hb,HO ht1 hi hy hyb,hyt]
  |false=>
   rw[Ps hi hx hb]at hk;exact absurd ht1 hk
 .rw[I5 ht1,I5 ht1]
theorem Kw {n:Nat}{s:StoD}(hs:stoOk n s){t:Ty}(ht:tyS n t)(hl:t.size<=687194767360):tyS n (A8 s t)/\(A8 s t).size<=687194767360:=by
 unfold A8;split
 .split
  .rename_i x hx
   split
   .rename_i hb
    obtain⟨g1,g2,_⟩:=hs.2.2.2 x (qc hx) hb;exact⟨g1,g2⟩
   .exact⟨ht,hl⟩
  .exact⟨ht,hl⟩
 .exact⟨ht,hl⟩
inductive Res (s:StoD):Ty->Ty->Prop
 |mk (t:Ty) (us:List Ty) (hl:us.length=(A8 s t).args.length) (h:∀(j:Nat) x y,(A8 s t).args[j]?=some x->us[j]?=some y->Res s x y):Res s t (.mk (A8 s t).kind (A8 s t).name (A8 s t).id (A8 s t).home us)
theorem Res.two {s:StoD}{t v a b:Ty}(h:Res s t v)(hab:(A8 s t).args=[a,b]):∃v1 v2,Res s a v1/\Res s b v2/\v1.size<=v.size/\v2.size<=v.size:=by
 cases h with
 |mk _ us hl h=>
  rw[hab]at hl h;obtain⟨v1,v2,rfl⟩:∃v1 v2,us=[v1,v2]:=by
   match us,hl with
   |[v1,v2],_=>exact⟨v1,v2,rfl⟩
  have hz:(Ty.mk (A8 s t).kind (A8 s t).name (A8 s t).id (A8 s t).home [v1,v2]).size=1+(v1.size+(v2.size+0)):=by rw[Ty.size_eq];simp[Ty.args]
  exact⟨v1,v2,h 0 a v1 rfl rfl,h 1 b v2 rfl rfl,oz,oz⟩
theorem ZeM:(K A).call 213 [] []=some (stoV ⟨[],[]⟩,[]):=by
 refine fnO v213 ?_;unfold v213;simp(disch:=try exact zd)
def bndB (s:StoD)(t:Ty):Prop:=t.kind=1/\∃(i:Nat) (x:SlotD),t.id=i/\s.slots[i]?=some x/\x.bound=true
theorem ZdX (s:StoD)(hs:s.slots.length<=1000)(t:Ty):∃r,IffB (bndB s t) r/\(K A).call 251 [stoV s,tyV t] []=some r:=by
 refine fnE v251 ?_;unfold v251;by_cases h1:t.kind=1
 .by_cases h2:0<=t.id
  .obtain ⟨i,hi⟩:∃ i:Nat,t.id=i:=⟨t.id.toNat,oz⟩
   by_cases h3:i<s.slots.length
   .obtain ⟨x,hx⟩:=Ab h3
    cases hb:x.bound with
    |true=>
     simp(disch:=try exact zd) [h1,hi,h3,hx,hb,-getElem?_pos];exact IffB.yes ⟨h1,i,x,hi,hx,hb⟩
    |false=>
     simp(disch:=try exact zd) [h1,hi,h3,hx,hb,-getElem?_pos];refine IffB.no ?_;rintro⟨_,j,y,hj,hy,hb2⟩;obtain rfl:j=i:=oz;rw[hx]at hy;cases hy;rw[hb]at hb2;cases hb2
   .simp (disch:=try exact zd) [h1,hi,h3,-getElem?_pos]
    refine IffB.no ?_;rintro⟨_,j,y,hj,hy,hb2⟩;have:=(qf.1 hy).1;omega
  .simp (disch:=try exact zd) [h1,h2]
   refine IffB.no ?_;rintro⟨_,j,y,hj,hy,hb2⟩;omega
 .simp (disch:=try exact zd) [h1]
  exact IffB.no fun h=>h1 h.1
end Go.Vs.Tryz
namespace Go.Vs
open Go
theorem RK {α β:Type}{f:α->Option β}:∀{a b:List α}{x:List β},Ae f a=some x->Ae f (a++b)=(Ae f b).map (x++·)
 |[],b,x,h=>by
  cases h;cases hb:Ae f b<;>simp[hb]
 |y::a,b,x,h=>by
  simp only[Ae]at h;cases hy:f y with
  |none=>rw[hy]at h;cases h
  |some z=>
   rw[hy]at h;cases ha:Ae f a with
   |none=>rw[ha]at h;cases h
   |some w=>
    rw[ha]at h;cases h;have ih:=RK (b:=b) ha;simp only[qbb,Ae,hy,ih];cases Ae f b<;>rfl
@[simp] theorem listM_wr_app (L:LO1) (d:Nat) (r:CC1) (m:WW1):Ae (Ae (W.toC L d)) (wr r++m)=(Ae (Ae (W.toC L d)) m).map (r++·):=RK (wr_toC L d r)
end Go.Vs
namespace Go.Vs.Tryz
open Go Go.Vs
variable {A:Ag}
def AT (h:Int)(b:Bool):SlotD:=⟨false,.mk 0 [] 0 0 [],h,b⟩
theorem PO (s:StoD)(hs:s.slots.length<=1000)(ht:s.trail.length<=1000000)(h:Int)(b:Bool):(K A).call 214 [stoV s,intV h,Ac b] []=some (.tu [stoV ⟨s.slots++[AT h b],s.trail++[⟨s.slots.length,AT 0 false,true⟩]⟩,tyV (.mk 1 [] s.slots.length 0 [])],[]):=by
 have hv:=N1 (A:=A) s.slots.length;refine fnO v214 ?_;unfold v214;obtain⟨sl,tr⟩:=s;have close1:Bd (sl++[AT h b])=Bd sl++[[.bool false,.int .i64 0,.str [],.int .i64 0,.int .i64 0,.sl [],.int .i64 h,.bool b]]:=by
  simp[Bd,Bn,AT,Ty.kind,Ty.name,Ty.id,Ty.home,Ty.args]
 have close2:Bk (tr++[⟨sl.length,AT 0 false,true⟩])=Bk tr++[[.int .i64 sl.length,.bool false,.int .i64 0,.str [],.int .i64 0,.int .i64 0,.sl [],.int .i64 0,.bool false,.bool true]]:=by
  simp[Bk,K9,AT,Ty.kind,Ty.name,Ty.id,Ty.home,Ty.args]
 have okA:=okRows_sl sl;have okB:=okRows_ch tr;have lenA:=slRows_len sl;have lenB:=chRows_len tr;simp only[stoV]at hs ht hv |-;rw[close1,close2];generalize Bd sl=sr at *
 generalize Bk tr=cr at *
 cases sr with
 |nil=>
  simp only[qZ]at lenA;rw[<-lenA]at hv |-;replace hv:(K A).call 212 [intV 0] []=some (tyV (Ty.mk 1 [] 0 0 []),[]):=hv;cases cr with
  |nil=>simp(disch:=try exact zd) [hv]
  |cons c r=>
   rw[wr_cons]at okB;simp only[qI]at lenB;simp(disch:=try exact zd) [hv,okB]
 |cons x l=>
  rw[wr_cons]at okA;simp only[qI]at lenA;rw[<-lenA]at hv |-;replace hv:(K A).call 212 [intV ((l.length:Int)+1)] []=some (tyV (Ty.mk 1 [] ((l.length:Int)+1) 0 []),[]):=hv;cases cr with
  |nil=>simp(disch:=try exact zd) [hv,okA]
  |cons c r=>
   rw[wr_cons]at okB;simp only[qI]at lenB;simp(disch:=try exact zd) [hv,okA,okB,-getElem?_pos]
theorem Za4 (rows:CC1)(i:Nat)(c:List Cell):setRow (wr rows) i (wc c)=wr (rows.set i c):=by
 rw[K8];simp[wr,qa8]
theorem Rz (c d:List Cell)(hc:c.length=8)(hd:d.length=8):splice (wc c) 0 (wc d)=some (wc d):=by
 unfold splice;simp[hc,hd]
theorem Wl (a b c d e f g h k:W)(s:SlotD):splice [a,b,c,d,e,f,g,h,k] 0 (wc (Bn s))=some (wc (Bn s++[])++[k]):=by
 unfold splice;simp
theorem EX (s:SlotD):wc (Bn s)=[.c (.bool s.bound),.c (.int .i64 s.ty.kind),.c (.str s.ty.name),.c (.int .i64 s.ty.id),.c (.int .i64 s.ty.home),.c (.sl (Ty.rows s.ty.args)),.c (.int .i64 s.home),.c (.bool s.base)]:=rfl
theorem PG (s:StoD)(hs:s.slots.length<=1000)(ht:s.trail.length<=1000000)(i:Nat)(y:SlotD)(hy:s.slots[i]?=some y)(x:SlotD):(K A).call 231 [stoV s,intV i,.ag (wc (Bn x))] []=some (.tu [stoV ⟨s.slots.set i x,s.trail++[⟨i,y,false⟩]⟩,Ac true],[]):=by
 refine fnO v231 ?_;unfold v231;obtain⟨sl,tr⟩:=s;have close1:Bd (sl.set i x)=(Bd sl).set i (Bn x):=by simp[Bd,qa8]
 have close2:Bk (tr++[⟨i,y,false⟩])=Bk tr++[[.int .i64 i,.bool y.bound,.int .i64 y.ty.kind,.str y.ty.name,.int .i64 y.ty.id,.int .i64 y.ty.home,.sl (Ty.rows y.ty.args),.int .i64 y.home,.bool y.base,.bool false]]:=by
  simp[Bk,K9]
 have hin:=(qf.1 hy).1;simp only at hin hs ht hy;have hrow:(Bd sl)[i]?=some (Bn y):=by rw[slRows_get,hy];rfl
 have okA:=okRows_sl sl;have okB:=okRows_ch tr;have lenA:=slRows_len sl;have lenB:=chRows_len tr;simp only[stoV];rw[close1,close2];generalize Bd sl=sr at *
 generalize Bk tr=cr at *
 cases sr with
 |nil=>simp at hrow
 |cons a l=>
  rw[wr_cons]at okA;simp only[qI]at lenA;have hi0:¬(i:Int)<0:=oz
  have hi2:¬(l.length:Int)+1<=(i:Int):=oz
  have hi1:i<l.length+1:=oz
  have hrw:(wc a::wr l)[i]?=some (wc (Bn y)):=by rw[<-wr_cons,wr_get,hrow];rfl
  have hsr:∀c,setRow (wc a::wr l) i (wc c)=wr ((a::l).set i c):=fun c=>by rw[<-wr_cons];exact Za4 _ _ _
  cases cr with
  |nil=>
   simp(disch:=try exact zd) [okA,hi0,hi2,hi1,hrow,hrw,hsr,elOk,Rz,Wl,EX y,-getElem?_pos,-List.set_cons_zero,-List.set_cons_succ]
  |cons c r=>
   rw[wr_cons]at okB;simp only[qI]at lenB;simp(disch:=try exact zd) [okA,okB,hi0,hi2,hi1,hrow,hrw,hsr,elOk,Rz,Wl,EX y,-getElem?_pos]
end Go.Vs.Tryz
