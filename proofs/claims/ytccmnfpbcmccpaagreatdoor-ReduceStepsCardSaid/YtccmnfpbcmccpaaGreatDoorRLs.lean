/- The names in use, and the arm that is chosen, by the program, walked. -/
import Derived.Test.YtccmnfpbcmccpaaGreatDoorRKs
set_option linter.unusedSimpArgs false
set_option linter.unusedVariables false
set_option linter.deprecated false
set_option maxRecDepth 9999
set_option maxHeartbeats 64000000
set_option maxRecDepth 10000
namespace Go.Vs.Tryz
open Go Go.Vs
variable {A:Zab}
def Zgg (e:Exp)(i:Nat):List Str:=e.name::((e.arms.take i).map fun a=>a.1.vars).flatten
def ZhB (e:Exp)(i:Nat):List Str:=Zgg e e.arms.length++((e.children.take i).map Zav).flatten
theorem Zqt {e:Exp}{i:Nat}{a:ArmH×Exp}(h:e.arms[i]?=some a):Zgg e (i+1)=Zgg e i++a.1.vars:=by
 unfold Zgg;rw[Zam h];simp
theorem Zqj {e x:Exp}{i:Nat}(h:e.children[i]?=some x):ZhB e (i+1)=ZhB e i++Zav x:=by
 unfold ZhB;rw[Zam h];simp
theorem ZuX (e:Exp):ZhB e (e.kids.length+e.arms.length)=Zav e:=by
 unfold ZhB Zgg;rw[Zes,qf (qe _),qf (by rw[e.children_len];exact qe _)];simp
theorem ZsI (e:Exp)(i:Nat):(Zgg e i).length<=e.weight:=by
 have h1:(((e.arms.take i).map fun a=>a.1.vars).flatten).length<=(e.arms.map fun a=>a.1.vars.length).sum:=by
  rw[qaH,qam,qau];exact ZcS
 have h2:=e.weight_eq;unfold Zgg;rw[qG];omega
theorem Zvq (e:Exp)(i:Nat):(ZhB e i).length<=e.weight:=by
 have h1:=Zkl e;have h3:(((e.children.take i).map Zav).flatten).length<=((e.children.map Zav).flatten).length:=by
  rw[qaH,qaH,qam,qam,qau];exact ZcS
 have h4:Zgg e e.arms.length=e.name::(e.arms.map fun a=>a.1.vars).flatten:=by unfold Zgg;rw[qf (qe _)]
 rw[Zes,qG,qv]at h1;unfold ZhB;rw[qv,h4,qG];omega
theorem ZAV (e:Exp):e.wf->e.weight<=1073741824->(K A).call 205 [expV e] []=some (Za3 (Zav e),[]):=by
 induction e using Exp.ind with
 |h e ih=>
 intro hwf hl;refine fnO v205 ?_;have hle:=e.children_le;rw[e.children_len]at hle;have h0:Zgg e 0=[e.name]:=rfl;have hr:wr (Zai [e.name])=[[W.c (.str e.name)]]:=rfl;have hkt:ZhB e 0=Zgg e e.arms.length:=by simp[ZhB]
 have hend:=ZuX e;unfold v205;simp(maxSteps:=4000000) (disch:=first|exact zd|fail) [-getElem?_pos];refine Zak (fun i=>⟨[(1,.sc (.ptr 64 0)),(3,.sc (.arr 320 (Zgg e i).length)),(12,.sc (.c (.sl (Exp.armRows e.arms)))),(13,intV e.arms.length),(14,intV i)],[(64,some (.box (wc e.row))),(320,some (.arr 1 (wr (Zai (Zgg e i))) 0))]⟩) e.arms.length ?_ ?_ ?_
 .simp[h0,hr]
 .intro i hi
  obtain⟨a,ha⟩:=Zaa hi;have hs:=Zqt ha;have hlen:=ZsI e (i+1);rw[hs,qv]at hlen;rw[hs];generalize Zgg e i=ai at *
  unfold Zmp;simp(maxSteps:=4000000) (disch:=first|exact zd|fail) [hi,ha,-getElem?_pos]
 .rw [<-hkt]
  by_cases hkids:e.kids=[]
  .have harms:e.arms=[]:=qP fun h=>by
    have h8:e.kind=8:=qP fun h8=>h (hwf.one.2.1 h8);have:=hwf.one.1 h8;rw[hkids]at this;simp at this
   have hc:=ZaT (A:=A) e hkids harms;rw[hkids,harms]at hend;simp only[qT,qa7]at hend;rw[hend];unfold Zmp;simp(maxSteps:=4000000) (disch:=first|exact zd|fail) [hc,-getElem?_pos];refine Zak (fun i=>⟨[(3,.sc (.arr 320 (Zav e).length)),(24,.sc (.full [])),(25,intV 0),(26,intV i)],[(64,some (.box (wc e.row))),(320,some (.arr 1 (wr (Zai (Zav e))) 0))]⟩) 0 ?_ (fun i hi=>by omega) ?_
   .simp
   .unfold Zpd
    simp(maxSteps:=4000000) (disch:=first|exact zd|fail) [-getElem?_pos]
  .have hc:=ZaP (A:=A) e hkids hl
   rw[e.children_len]at hc;unfold Zmp;simp(maxSteps:=4000000) (disch:=first|exact zd|fail) [hc,-getElem?_pos]
   refine Zak (fun i=>⟨[(3,.sc (.arr 320 (ZhB e i).length)),(24,.sc (.arr 1568 (e.kids.length+e.arms.length))),(25,intV ((e.kids.length:Int)+e.arms.length)),(26,intV i)],[(64,some (.box (wc e.row))),(320,some (.arr 1 (wr (Zai (ZhB e i))) 0)),(1568,some (.arr 11 (wr (Exp.rows e.children)) 0))]⟩) (e.kids.length+e.arms.length) ?_ ?_ ?_
   .simp
   .intro i hi
    have hi2:(i:Int)<(e.kids.length:Int)+e.arms.length:=(by omega);obtain⟨x,hx⟩:=Zaa (l:=e.children) (i:=i) (by rw[e.children_len];exact hi);have hm:=qa hx;have hrec:=ih x hm (hwf.child hm) (by have:=Exp.child_lt hm;omega);have hs:=Zqj hx;have hlen:=Zvq e (i+1);rw[hs,qv]at hlen;rw[hs];generalize ZhB e i=ai at *
    generalize Zav x=ux at *
    unfold Zpd;simp(maxSteps:=4000000) (disch:=first|exact zd|fail) [hi,hi2,hx,hrec,-getElem?_pos]
   .rw [hend]
    unfold Zpd;simp(maxSteps:=4000000) (disch:=first|exact zd|fail) [-getElem?_pos]
theorem con204 (a:ArmH×Exp)(h:Exp):(K A).call 204 [.ag (wc (Zaw a)),.sc (.ptr 0 0)] [.box (wc h.row)]=some (Zae (decide (a.1.con=h.name)),[.box (wc h.row)]):=by
 refine fnO v204 ?_;unfold v204;simp(disch:=first|exact zd|fail) [-getElem?_pos]
def Zg9 (l:List (ArmH×Exp))(s:Str):Int:=match l.findIdx? (fun a=>a.1.con==s)with
 |some i=>i
 |none=>-1
theorem ZrO {l:List (ArmH×Exp)}{s:Str}{i:Nat}{a:ArmH×Exp}(h:l[i]?=some a)(ha:a.1.con=s)(hn:∀(j:Nat) b,j<i->l[j]?=some b->b.1.con≠s):Zg9 l s=i:=by
 unfold Zg9;have:l.findIdx? (fun x=>x.1.con==s)=some i:=by
  rw[qaD];obtain⟨hi,he⟩:=qd.1 h;refine⟨hi,by rw[he];simpa using ha,fun j hj=>?_⟩;have:=hn j _ hj (qh (by omega));simpa using this
 rw[this]
theorem Zno {l:List (ArmH×Exp)}{s:Str}(hn:∀(j:Nat) b,j<l.length->l[j]?=some b->b.1.con≠s):Zg9 l s=-1:=by
 unfold Zg9;have:l.findIdx? (fun x=>x.1.con==s)=none:=by
  rw[List.findIdx?_eq_none_iff];intro x hx;obtain⟨j,hj,rfl⟩:=qM hx;have:=hn j _ hj (qh hj);simpa using this
 rw[this]
theorem Zwm (l:List (ArmH×Exp))(h:Exp)(hl:l.length<=1073741824):(K A).call 203 [.sc (.c (.sl (Exp.armRows l))),.sc (.clo 204 [true] [[.ptr 0 0]])] [.box (wc h.row)]=some (intV (Zg9 l h.name),[.box (wc h.row)]):=by
 refine fnO v203 ?_;unfold v203;simp(disch:=first|exact zd|fail) [-getElem?_pos];refine Zad (fun i s=>(∀(j:Nat) b,j<i->l[j]?=some b->b.1.con≠h.name)/\s=⟨[(0,.sc (.c (.sl (Exp.armRows l)))),(1,.sc (.clo 204 [true] [[.ptr 0 0]])),(7,intV l.length),(8,intV i)],[(0,some (.box (wc h.row)))]⟩) l.length ⟨by omega,by simp⟩ ?_ ?_
 .rintro i s hi ⟨hn,rfl⟩
  obtain⟨a,ha⟩:=Zaa hi;have hc:=con204 (A:=A) a h;unfold Zu5;by_cases hca:a.1.con=h.name
  .have hx:=ZrO ha hca hn
   simp(disch:=first|exact zd|fail) [hi,ha,hc,hca,hx,-getElem?_pos]
  .simp (disch:=first|exact zd|fail) [hi,ha,hc,hca,-getElem?_pos]
   intro j b x hj hb;by_cases hji:j<i
   .exact hn j (b,x) hji hb
   .obtain rfl:j=i:=by omega
    rw[ha]at hb;cases hb;exact hca
 .rintro s ⟨hn,rfl⟩
  have hx:=Zno hn;unfold Zu5;simp(disch:=first|exact zd|fail) [hx,-getElem?_pos]
theorem Znx {l:List (ArmH×Exp)}{s:Str}:(Zg9 l s=-1/\l.find? (fun a=>a.1.con==s)=none)\/∃(i:Nat) (a:ArmH×Exp),Zg9 l s=i/\l[i]?=some a/\l.find? (fun a=>a.1.con==s)=some a:=by
 unfold Zg9;cases h:l.findIdx? (fun x=>x.1.con==s)with
 |none=>
  refine .inl ⟨rfl,?_⟩;rw[List.findIdx?_eq_none_iff]at h;rw[List.find?_eq_none];intro x hx;simp[h x hx]
 |some i=>
  obtain⟨hi,h1,h2⟩:=qaD.1 h;refine .inr ⟨i,l[i],rfl,qh hi,?_⟩;rw[List.find?_eq_some_iff_getElem];exact⟨h1,i,hi,rfl,fun j hj=>by simpa using h2 j hj⟩
def Zkv (e:Exp)(o:Option (Exp×Nat)):V:=match o with
 |some p=>.tu [expV p.1,Zae true]
 |none=>.tu [expV e,Zae false]
def chB (T:List Str)(vars:List Str)(b:Exp)(i:Nat):Exp:=ZaV ((renL T vars).take i) b
def chS (T:List Str)(args:List Exp)(b:Exp)(i:Nat):Exp:=ZaV ((argL T args).take i) b
theorem Ziv (l:List (Str×Exp))(p:Str×Exp)(b:Exp):ZaV (l++[p]) b=subP (ZaV l b) p.1 p.2:=by rw[Zeq];rfl
theorem ZxU {T vars:List Str}{b:Exp}{i:Nat}{v:Str}(h:vars[i]?=some v):chB T vars b (i+1)=subP (chB T vars b i) v (varX (Zat i T)):=by
 have h2:(renL T vars)[i]?=some (v,varX (Zat i T)):=by unfold renL;simp[h]
 unfold chB;rw[Zam h2,Ziv]
theorem Zwp {T:List Str}{args:List Exp}{b:Exp}{i:Nat}{x:Exp}(h:args[i]?=some x):chS T args b (i+1)=subP (chS T args b i) (Zat i T) x:=by
 have h2:(argL T args)[i]?=some (Zat i T,x):=by unfold argL;simp[h]
 unfold chS;rw[Zam h2,Ziv]
theorem Zxq (e:Exp):lowE e->∀s∈Zav e,s.length<=1000:=by
 induction e using Exp.ind with
 |h e ih=>
  intro h s hs;rw[Zes]at hs;rcases qz.1 hs with rfl|hs
  .exact Zk1 h
  .rcases ql.1 hs with hs|hs
   .obtain ⟨l,hl,hs⟩:=List.mem_flatten.1 hs
    obtain⟨a,ha,rfl⟩:=qH.1 hl;exact qu (h.one.2.2.2 a ha s hs).1 (by decide)
   .obtain ⟨l,hl,hs⟩:=List.mem_flatten.1 hs
    obtain⟨x,hx,rfl⟩:=qH.1 hl;exact ih x hx (h.child hx) s hs
theorem ZrF (e k:Exp)(hk:e.kids=[k])(he:okE e)(hl:lfE e)(hw:e.weight<=6000):(K A).call 159 [expV e] []=some (Zkv e (ZbB subP Zav e (Zao k).1.name (Zao k).2),[]):=by
 have hkm:k∈e.children:=Zal (by rw[hk];simp);have hkl:=Exp.child_lt hkm;have hsk:=(he.child hkm).1;have hsp:=Zsq (A:=A) k hsk (by omega);have hal:=e.children_le;rw[e.children_len]at hal;have hix:=Zwm (A:=A) e.arms (Zao k).1 (by omega);have hsl:=Zgo k hsk;have hus:=ZAV (A:=A) e he.1.wf (by omega);have hul:=Zkl e;refine fnO v159 ?_;unfold v159 ZbB
 rcases Znx (l:=e.arms) (s:=(Zao k).1.name)with ⟨h1,h2⟩|⟨i,a,h1,hai,h2⟩
 .rw [h1] at hix
  rw[h2];simp(maxSteps:=4000000) (disch:=first|exact zd|fail) [hk,Zq7,hsp,hix,Zkv,-getElem?_pos]
 .rw [h1] at hix
  rw[h2];have hi0:=(qd.1 hai).1;have hin:¬(i:Int)<0:=by omega
  simp only;by_cases hv:a.1.vars.length=(Zao k).2.length
  .rw [if_pos hv]
   have hC:CaseOk e k a:=⟨he,hl,hw,hk,qa hai⟩;have hsum:=hC.sum;have hch:ZpJ subP (Zh6 (Zav e) a.1.vars (Zao k).2) a.2=chS (Zav e) (Zao k).2 (chB (Zav e) a.1.vars a.2 a.1.vars.length) (Zao k).2.length:=by
    unfold chS chB;rw[qf (show(renL (Zav e) a.1.vars).length<=_ by simp[renL]),qf (show(argL (Zav e) (Zao k).2).length<=_ by simp[argL]),<-Zeq];rfl
   have hnmT:∀s∈Zav e,s.length<=281474976710656:=fun s hs=>qu (Zxq e hl.1 s hs) (by decide);rw[hch];simp(maxSteps:=4000000) (disch:=first|exact zd|fail) [hk,Zq7,hsp,hix,hin,hai,hi0,hv,hus,Zkv,-getElem?_pos];have hfr:∀i:Nat,i<=6000->(K A).call 207 [intV i,Za3 (Zav e)] []=some (strV (Zat i (Zav e)),[]):=fun i hi=>Zuc (A:=A) i i (by omega) (by omega) (Zav e) (by omega) (by omega) hnmT
   have hfl:∀i:Nat,i<=6000->(Zat i (Zav e)).length<=1000:=fun i hi=>ZiM i (Zav e) (by omega);refine Zak (fun i=>⟨[(2,.sc (.ptr 128 0)),(5,Zen (Zao k).2),(7,.sc (.ptr 2880 0)),(8,Za3 (Zav e)),(53,Za3 a.1.vars),(54,intV (Zao k).2.length),(55,intV i)],
    [(64,some (.box (wc e.row))),(128,some (.box [zi,zi,zs,zi,.nil,.nil,zi,zs,zi,zi,.nil])),(768,some (.box (wc (Zao k).1.row))),(2880,some (.box (wc (chB (Zav e) a.1.vars a.2 i).row)))]⟩) (Zao k).2.length ?_ ?_ ?_
   .simp[chB,ZaV]
   .intro i hi
    obtain⟨v,hvi⟩:=Zaa (l:=a.1.vars) (i:=i) (by omega);obtain⟨r1,r2,r3⟩:=hC.ren i;have hvl:v.length<=1000:=qu (hl.1.one.2.2.2 a hC.am v (qa hvi)).1 (by decide);have hren:=Zw4 (A:=A) (chB (Zav e) a.1.vars a.2 i) v (Zat i (Zav e)) hvl (hfl i (by omega)) (show _<=_ from qu r3 (by omega)) r1.1 r1.2.1 (Zlk r2.1);rw[<-ZxU hvi]at hren;have hf:=hfr i (by omega);have hi2:i<a.1.vars.length:=(by omega);unfold ZpT
    simp(maxSteps:=4000000) (disch:=first|exact zd|fail) [hi,hi2,hvi,hf,hren,-getElem?_pos]
   .have hB:chB (Zav e) a.1.vars a.2 (Zao k).2.length=ZaV (renL (Zav e) a.1.vars) a.2:=by
     unfold chB;rw[qf (by simp[renL];omega)]
    rw[hB];unfold ZpT;simp(maxSteps:=4000000) (disch:=first|exact zd|fail) [-getElem?_pos];refine Zak (fun i=>⟨[(2,.sc (.ptr 128 0)),(7,.sc (.ptr 2880 0)),(8,Za3 (Zav e)),(67,Zen (Zao k).2),(68,intV (Zao k).2.length),(69,intV i)],
     [(64,some (.box (wc e.row))),(128,some (.box [zi,zi,zs,zi,.nil,.nil,zi,zs,zi,zi,.nil])),(768,some (.box (wc (Zao k).1.row))),(2880,some (.box (wc (chS (Zav e) (Zao k).2 (ZaV (renL (Zav e) a.1.vars) a.2) i).row)))]⟩) (Zao k).2.length ?_ ?_ ?_
    .simp[chS,ZaV]
    .intro i hi
     obtain⟨x,hx⟩:=Zaa (l:=(Zao k).2) (i:=i) hi;obtain⟨s1,s2,s3,s4⟩:=hC.sub i;obtain⟨x1,x2,x3,_⟩:=hC.args x (qa hx);have hsu:=ZoQ (A:=A) (chS (Zav e) (Zao k).2 (ZaV (renL (Zav e) a.1.vars) a.2) i) (Zat i (Zav e)) x s1 x1 s2 x2 (qu s3 s4) (by omega) (hfl i (by omega));rw[<-Zwp hx]at hsu;have hf:=hfr i (by omega);unfold ZsN;simp(maxSteps:=4000000) (disch:=first|exact zd|fail) [hi,hx,hf,hsu,-getElem?_pos]
    .unfold ZsN
     simp(maxSteps:=4000000) (disch:=first|exact zd|fail) [-getElem?_pos]
  .rw [if_neg hv]
   have hv':¬(a.1.vars.length:Int)=(Zao k).2.length:=(by omega);simp(maxSteps:=4000000) (disch:=first|exact zd|fail) [hk,Zq7,hsp,hix,hin,hai,hi0,hv,hv',Zkv,-getElem?_pos]
variable {A:Zab}
def StepR (o:Option (Exp×Nat))(r:V×List Obj):Prop:=match o with
 |some p=>r=(.tu [expV p.1,intV p.2,Zae true],[])
 |none=>∃(x:Exp) (m:Int),r=(.tu [expV x,intV m,Zae false],[])
def Zdw (e:Exp)(i:Nat):St:=⟨[(1,.sc (.ptr 64 0)),(2,.sc (.ptr 128 0)),(13,.sc (.arr 352 6)),(14,intV 6),(15,intV i)],
 [(64,some (.box (wc e.row))),(128,some (.box [zi,zi,zs,zi,.nil,.nil,zi,zs,zi,zi,.nil])),(352,some (.arr 2 (Zau 353 354 355 356) 0)),(353,some (.box [.c (.int .i64 6)])),(354,some (.box [.c (.int .i64 7)])),(355,some (.box [.c (.int .i64 9)])),(356,some (.box [.c (.int .i64 11)]))]⟩
def Zez (e:Exp)(i:Nat):Prop:=(i=0/\e.kind=5/\∃f,e.kids[0]?=some f/\f.kind=4)\/(i=1/\e.kind=6)\/(i=2/\e.kind=7)\/(i=3/\e.kind=8/\∃k,e.kids[0]?=some k/\(Zao k).1.kind=2)\/(i=4/\e.kind=9)\/(i=5/\e.kind=11)
theorem ZnI (e:Exp)(hs:shp e)(hl:e.weight<=1073741824)(i:Nat)(hi:i<6)(hno:¬Zez e i):wp (K A) Zfn (fun x s'=>x=.normal/\s'=Zdw e (i+1)) (Zdw e i):=by
 have h0:=Zs6 (A:=A) e hs;have h3:=Ztw (A:=A) e hs hl;have h1:=fun k=>ZuG (A:=A) k e;have hi6:(i:Int)<6:=by omega
 unfold Zez at hno;have:i=0\/i=1\/i=2\/i=3\/i=4\/i=5:=by omega
 have g0:(Zau 353 354 355 356)[0]?=some [.c (.fn 153 [] []),.c (.fn 154 [] [])]:=rfl;have g1:(Zau 353 354 355 356)[1]?=some [.clo 151 [true] [[.ptr 353 0]],.c (.fn 156 [] [])]:=rfl;have g2:(Zau 353 354 355 356)[2]?=some [.clo 151 [true] [[.ptr 354 0]],.c (.fn 157 [] [])]:=rfl;have g3:(Zau 353 354 355 356)[3]?=some [.c (.fn 158 [] []),.c (.fn 159 [] [])]:=rfl
 have g4:(Zau 353 354 355 356)[4]?=some [.clo 151 [true] [[.ptr 355 0]],.c (.fn 152 [] [])]:=rfl;have g5:(Zau 353 354 355 356)[5]?=some [.clo 151 [true] [[.ptr 356 0]],.c (.fn 152 [] [])]:=rfl;have gl:(Zau 353 354 355 356).length=6:=rfl;have gren:(Zau 353 354 355 356).map (fun x=>x.map (W.ren (Zdu [768,1184,1185,1186,1440,1441,1442,1664]) 4))=Zau 353 354 355 356:=rfl
 have m2:Zap (intV 2) 6=some 2:=rfl;have m3:Zap (intV 3) 6=some 3:=rfl;have m4:Zap (intV 4) 6=some 4:=rfl;have m5:Zap (intV 5) 6=some 5:=rfl;rcases this with rfl|rfl|rfl|rfl|rfl|rfl
 .have hd:decide (e.kind=5/\∃ f,e.kids[0]?=some f/\f.kind=4)=false:=by simpa using hno
  rw[hd]at h0;unfold Zfn Zdw;generalize Zau 353 354 355 356=RR at *
  simp(maxSteps:=4000000) (disch:=first|exact zd|fail) [h0,g0,gl,gren,m2,m3,m4,m5,-getElem?_pos]
 .have hd:¬e.kind=6:=by simpa using hno
  have hc:=h1 6;unfold Zfn Zdw;generalize Zau 353 354 355 356=RR at *
  simp(maxSteps:=4000000) (disch:=first|exact zd|fail) [hc,hd,g1,gl,gren,m2,m3,m4,m5,-getElem?_pos]
 .have hd:¬e.kind=7:=by simpa using hno
  have hc:=h1 7;unfold Zfn Zdw;generalize Zau 353 354 355 356=RR at *
  simp(maxSteps:=4000000) (disch:=first|exact zd|fail) [hc,hd,g2,gl,gren,m2,m3,m4,m5,-getElem?_pos]
 .have hd:decide (e.kind=8/\∃ k,e.kids[0]?=some k/\(Zao k).1.kind=2)=false:=by simpa using hno
  rw[hd]at h3;unfold Zfn Zdw;generalize Zau 353 354 355 356=RR at *
  simp(maxSteps:=4000000) (disch:=first|exact zd|fail) [h3,g3,gl,gren,m2,m3,m4,m5,-getElem?_pos]
 .have hd:¬e.kind=9:=by simpa using hno
  have hc:=h1 9;unfold Zfn Zdw;generalize Zau 353 354 355 356=RR at *
  simp(maxSteps:=4000000) (disch:=first|exact zd|fail) [hc,hd,g4,gl,gren,m2,m3,m4,m5,-getElem?_pos]
 .have hd:¬e.kind=11:=by simpa using hno
  have hc:=h1 11;unfold Zfn Zdw;generalize Zau 353 354 355 356=RR at *
  simp(maxSteps:=4000000) (disch:=first|exact zd|fail) [hc,hd,g5,gl,gren,m2,m3,m4,m5,-getElem?_pos]
def aidN (i:Nat):Nat:=if i=0 then 154 else if i=1 then 156 else if i=2 then 157 else if i=3 then 159 else 152
theorem Zfu (e:Exp)(hs:shp e)(hl:e.weight<=1073741824)(i:Nat)(hi:i<6)(hno:∀j,j<i->¬Zez e j)(ha:Zez e i)(x:Exp)(b:Bool)(hc:(K A).call (aidN i) [expV e] []=some (.tu [expV x,Zae b],[])):
 (K A).call 48 [expV e] []=some (.tu [expV x,intV (i+1),Zae b],[]):=by
 have hrl:=ZkV (A:=A);have h0:=Zs6 (A:=A) e hs;have h3:=Ztw (A:=A) e hs hl;have h1:=fun k=>ZuG (A:=A) k e;have g0:(Zau 353 354 355 356)[0]?=some [.c (.fn 153 [] []),.c (.fn 154 [] [])]:=rfl;have g1:(Zau 353 354 355 356)[1]?=some [.clo 151 [true] [[.ptr 353 0]],.c (.fn 156 [] [])]:=rfl;have g2:(Zau 353 354 355 356)[2]?=some [.clo 151 [true] [[.ptr 354 0]],.c (.fn 157 [] [])]:=rfl
 have g3:(Zau 353 354 355 356)[3]?=some [.c (.fn 158 [] []),.c (.fn 159 [] [])]:=rfl;have g4:(Zau 353 354 355 356)[4]?=some [.clo 151 [true] [[.ptr 355 0]],.c (.fn 152 [] [])]:=rfl;have g5:(Zau 353 354 355 356)[5]?=some [.clo 151 [true] [[.ptr 356 0]],.c (.fn 152 [] [])]:=rfl;have gl:(Zau 353 354 355 356).length=6:=rfl
 have gr:(Zau 1 2 3 4).map (fun x=>x.map (W.ren (nthN [352,353,354,355,356]) 4))=Zau 353 354 355 356:=rfl;have m2:Zap (intV 2) 6=some 2:=rfl;have m3:Zap (intV 3) 6=some 3:=rfl;have m4:Zap (intV 4) 6=some 4:=rfl;have m5:Zap (intV 5) 6=some 5:=rfl;refine fnO v48 ?_;unfold v48;simp(maxSteps:=4000000) (disch:=first|exact zd|fail) [hrl,gl,gr,-getElem?_pos]
 refine Zak (Zdw e) i (by simp[Zdw]) (fun j hj=>ZnI e hs hl j (by omega) (hno j hj)) ?_;clear hrl gr;have hi6:i=0\/i=1\/i=2\/i=3\/i=4\/i=5:=by omega
 unfold Zez at ha;rcases hi6 with rfl|rfl|rfl|rfl|rfl|rfl
 .replace hc:(K A).call 154 [expV e] []=some (.tu [expV x,Zae b],[]):=hc
  have hd:decide (e.kind=5/\∃f,e.kids[0]?=some f/\f.kind=4)=true:=by simpa using ha
  rw[hd]at h0;unfold Zfn Zdw;generalize Zau 353 354 355 356=RR at *
  simp(maxSteps:=4000000) (disch:=first|exact zd|fail) [h0,hc,g0,gl,m2,m3,m4,m5,-getElem?_pos]
 .replace hc:(K A).call 156 [expV e] []=some (.tu [expV x,Zae b],[]):=hc
  have hd:e.kind=6:=by simpa using ha
  have hk:=h1 6;unfold Zfn Zdw;generalize Zau 353 354 355 356=RR at *
  simp(maxSteps:=4000000) (disch:=first|exact zd|fail) [hk,hd,hc,g1,gl,m2,m3,m4,m5,-getElem?_pos]
 .replace hc:(K A).call 157 [expV e] []=some (.tu [expV x,Zae b],[]):=hc
  have hd:e.kind=7:=by simpa using ha
  have hk:=h1 7;unfold Zfn Zdw;generalize Zau 353 354 355 356=RR at *
  simp(maxSteps:=4000000) (disch:=first|exact zd|fail) [hk,hd,hc,g2,gl,m2,m3,m4,m5,-getElem?_pos]
 .replace hc:(K A).call 159 [expV e] []=some (.tu [expV x,Zae b],[]):=hc
  have hd:decide (e.kind=8/\∃k,e.kids[0]?=some k/\(Zao k).1.kind=2)=true:=by simpa using ha
  rw[hd]at h3;unfold Zfn Zdw;generalize Zau 353 354 355 356=RR at *
  simp(maxSteps:=4000000) (disch:=first|exact zd|fail) [h3,hc,g3,gl,m2,m3,m4,m5,-getElem?_pos]
 .replace hc:(K A).call 152 [expV e] []=some (.tu [expV x,Zae b],[]):=hc
  have hd:e.kind=9:=by simpa using ha
  have hk:=h1 9;unfold Zfn Zdw;generalize Zau 353 354 355 356=RR at *
  simp(maxSteps:=4000000) (disch:=first|exact zd|fail) [hk,hd,hc,g4,gl,m2,m3,m4,m5,-getElem?_pos]
 .replace hc:(K A).call 152 [expV e] []=some (.tu [expV x,Zae b],[]):=hc
  have hd:e.kind=11:=by simpa using ha
  have hk:=h1 11;unfold Zfn Zdw;generalize Zau 353 354 355 356=RR at *
  simp(maxSteps:=4000000) (disch:=first|exact zd|fail) [hk,hd,hc,g5,gl,m2,m3,m4,m5,-getElem?_pos]
theorem Zoo (e:Exp)(hs:shp e)(hl:e.weight<=1073741824)(hno:∀j,j<6->¬Zez e j)(h5:e.kind≠5)(h8:e.kind≠8):(K A).call 48 [expV e] []=some (.tu [expV e,intV 0,Zae false],[]):=by
 have hrl:=ZkV (A:=A);have gl:(Zau 353 354 355 356).length=6:=rfl;have gr:(Zau 1 2 3 4).map (fun x=>x.map (W.ren (nthN [352,353,354,355,356]) 4))=Zau 353 354 355 356:=rfl;refine fnO v48 ?_;unfold v48;simp(maxSteps:=4000000) (disch:=first|exact zd|fail) [hrl,gl,gr,-getElem?_pos];refine Zak (Zdw e) 6 (by simp[Zdw]) (fun j hj=>ZnI e hs hl j (by omega) (hno j hj)) ?_;clear hrl gr;unfold Zfn Zdw
 generalize Zau 353 354 355 356=RR at *
 simp(maxSteps:=4000000) (disch:=first|exact zd|fail) [h5,h8,gl,-getElem?_pos]
theorem ZAu (e f x:Exp)(m:Int)(b:Bool)(hs:shp e)(hl:e.weight<=1073741824)(hno:∀j,j<6->¬Zez e j)(h58:e.kind=5\/e.kind=8)(hf:e.kids[0]?=some f)(hc:(K A).call 48 [expV f] []=some (.tu [expV x,intV m,Zae b],[])):
 (K A).call 48 [expV e] []=some (.tu [expV (Za6 e (x::e.children.tail)),intV m,Zae b],[]):=by
 have hrl:=ZkV (A:=A);have gl:(Zau 353 354 355 356).length=6:=rfl;have gr:(Zau 1 2 3 4).map (fun x=>x.map (W.ren (nthN [352,353,354,355,356]) 4))=Zau 353 354 355 356:=rfl;have hkl:0<e.kids.length:=by
  cases hh:e.kids with
  |nil=>rw[hh]at hf;simp at hf
  |cons a l=>simp
 have hne:e.kids≠[]:=fun h=>by rw[h]at hkl;simp at hkl
 have hle:=e.children_le;rw[e.children_len]at hle;have hch:=ZaP (A:=A) e hne hl;have hcl:=e.children_len;have hset:e.children.set 0 x=x::e.children.tail:=by
  cases hh:e.children with
  |nil=>rw[hh]at hcl;simp at hcl;omega
  |cons a l=>rfl
 have hrs:setRow (wr (Exp.rows e.children)) 0 (wc x.row)=wr (Exp.rows (x::e.children.tail)):=by rw[Zce,hset]
 have hCl:(x::e.children.tail).length=e.kids.length+e.arms.length:=by rw[<-hset,List.length_set,hcl]
 have hw:=ZfK (A:=A) e (x::e.children.tail) hCl hl;have hg0:∃c,e.children[0]?=some c:=Zaa (by omega);obtain⟨c0,hg0⟩:=hg0;rw[hcl]at hch;have hrow':=Za7 e
 have hrowW:wc (Za6 e (x::e.children.tail)).row=[.c (.int .i64 e.kind),.c (.int .i64 e.pos),.c (.str e.name),.c (.int .i64 e.num),.c (.sl (Exp.rows ((x::e.children.tail).take e.kids.length))),.c (.sl (Exp.armRows (ZaX e.arms ((x::e.children.tail).drop e.kids.length)))),.c (.int .i64 e.ty.kind),.c (.str e.ty.name),.c (.int .i64 e.ty.id),.c (.int .i64 e.ty.home),.c (.sl (Ty.rows e.ty.args))]:=by rw[Exp.row_eq];rfl
 have hkW:((x::e.children.tail).take e.kids.length).length=e.kids.length:=by rw[qK,hCl];omega
 have haW:(ZaX e.arms ((x::e.children.tail).drop e.kids.length)).length=e.arms.length:=by rw[armsW_len,qV,hCl];omega
 refine fnO v48 ?_;unfold v48;simp(maxSteps:=4000000) (disch:=first|exact zd|fail) [hrl,gl,gr,-getElem?_pos];refine Zak (Zdw e) 6 (by simp[Zdw]) (fun j hj=>ZnI e hs hl j (by omega) (hno j hj)) ?_;clear hrl gr;unfold Zfn Zdw;generalize Zau 353 354 355 356=RR at *
 generalize x::e.children.tail=cs at *
 simp only[expV,hrow']at hch hw;rcases h58 with h5|h5
 .simp only [h5] at hch hw hrowW
  simp(maxSteps:=4000000) (disch:=first|exact zd|fail) [h5,gl,hf,hc,hch,hrs,hg0,hw,hrowW,hCl,hkW,haW,hrow',-getElem?_pos]
 .simp only [h5] at hch hw hrowW
  simp(maxSteps:=4000000) (disch:=first|exact zd|fail) [h5,gl,hf,hc,hch,hrs,hg0,hw,hrowW,hCl,hkW,haW,hrow',-getElem?_pos]
theorem ZhQ {e:Exp}(hs:shp e)(h:e.kind=5\/e.kind=6\/e.kind=7):∃f a,e.kids=[f,a]:=by
 have h1:=hs.one.2.2;unfold Zhv at h1;rw[if_pos h]at h1
 match hk:e.kids with
 |[f,a]=>exact⟨f,a,rfl⟩
 |[]=>rw[hk]at h1;simp at h1
 |[_]=>rw[hk]at h1;simp at h1
 |_::_::_::_=>rw[hk]at h1;simp at h1
theorem ZhM {e:Exp}(hs:shp e)(h:e.kind=4\/e.kind=8\/e.kind=9\/e.kind=11):∃k,e.kids=[k]:=by
 have h1:=hs.one.2.2;unfold Zhv at h1;rw[if_neg (by omega),if_pos h]at h1
 match hk:e.kids with
 |[f]=>exact⟨f,rfl⟩
 |[]=>rw[hk]at h1;simp at h1
 |_::_::_=>rw[hk]at h1;simp at h1
theorem Zts {e:Exp}(hs:shp e)(h:¬(e.kind=5\/e.kind=6\/e.kind=7))(h2:¬(e.kind=4\/e.kind=8\/e.kind=9\/e.kind=11)):e.kids=[]:=by
 have h1:=hs.one.2.2;unfold Zhv at h1;rw[if_neg h,if_neg h2]at h1;exact qL.1 h1
def ZyE (A:Zab)(n:Nat)(e:Exp):Prop:=∃(x:Exp) (m:Int) (b:Bool),(K A).call 48 [expV e] []=some (.tu [expV x,intV m,Zae b],[])/\
 ((b=true/\∃m':Nat,m=m'/\ZaO subP Zav ZaR n e=some (x,m'))\/(b=false/\ZaO subP Zav ZaR n e=none))
theorem Zyk:∀(n:Nat)(e:Exp),e.weight<=n->okE e->lfE e->e.weight<=6000->ZyE A n e
 |0,e,h,_,_,_=>by have:=e.weight_pos;omega
 |n+1,e,hn,he,hl,hw=>by
  have hs:=he.1;have hwl:e.weight<=1073741824:=by omega
  have down:∀f,e.kids[0]?=some f->(e.kind=5\/e.kind=8)->(∀j,j<6->¬Zez e j)->(ZaO subP Zav ZaR (n+1) e=(ZaO subP Zav ZaR n f).map fun p=>(Za6 e (p.1::e.children.tail),p.2))->ZyE A (n+1) e:=by
   intro f hf h58 hno hg;have hm:f∈e.children:=Zal (qa hf);have hlt:=Exp.child_lt hm;obtain⟨x,m,b,hc,hb⟩:=Zyk n f (by omega) (he.child hm) (hl.child hm) (by omega);refine⟨_,m,b,ZAu e f x m b hs hwl hno h58 hf hc,?_⟩;rw[hg];rcases hb with ⟨hb,m',hm',h1⟩|⟨hb,h1⟩
   .exact .inl ⟨hb,m',hm',by rw[h1];rfl⟩
   .exact .inr ⟨hb,by rw[h1];rfl⟩
  by_cases h2:e.kind=5\/e.kind=6\/e.kind=7
  .obtain ⟨f,a,hk⟩:=ZhQ hs h2
   have hf:e.kids[0]?=some f:=(by rw[hk];rfl);have hfm:f∈e.children:=Zal (qa hf);rcases h2 with h5|h6|h7
   .by_cases h4:f.kind=4
    .obtain ⟨k,hfk⟩:=ZhM (hs.child hfm) (.inl h4)
     refine⟨_,_,true,Zfu e hs hwl 0 (by omega) (fun j hj=>by omega) (.inl ⟨rfl,h5,f,hf,h4⟩) _ true (ZA1 e f a k hk hfk he hl hw),.inl ⟨rfl,1,rfl,?_⟩⟩;unfold ZaO;rw[hk];simp[h5,h4,hfk]
    .refine down f hf (.inl h5) (fun j _ ha => ?_) ?_
     .unfold Zez at ha
      rcases ha with ⟨_,_,g,hg,h⟩|⟨_,h⟩|⟨_,h⟩|⟨_,h,_⟩|⟨_,h⟩|⟨_,h⟩
      .rw[hf]at hg;obtain rfl:=qaL hg;exact h4 h
      all_goals omega
     .conv=>lhs;unfold ZaO
      rw[hk];simp[h5,h4]
   .refine ⟨_,_,true,Zfu e hs hwl 1 (by omega) (fun j hj ha => ?_) (.inr (.inl ⟨rfl,h6⟩)) _ true (let156 e f a hk he hl hw),.inl ⟨rfl,2,rfl,?_⟩⟩
    .unfold Zez at ha;omega
    .unfold ZaO
     rw[hk];simp[h6]
   .refine ⟨_,_,true,Zfu e hs hwl 2 (by omega) (fun j hj ha => ?_) (.inr (.inr (.inl ⟨rfl,h7⟩))) _ true (rec157 e f a h7 hk he hl hw),.inl ⟨rfl,3,rfl,?_⟩⟩
    .unfold Zez at ha;omega
    .unfold ZaO
     rw[hk];simp[h7]
  .by_cases h1:e.kind=4\/e.kind=8\/e.kind=9\/e.kind=11
   .obtain ⟨k,hk⟩:=ZhM hs h1
    have hf:e.kids[0]?=some k:=(by rw[hk];rfl);rcases h1 with h4|h8|h9|h11
    .refine ⟨_,_,false,Zoo e hs hwl (fun j hj ha => ?_) (by omega) (by omega),.inr ⟨rfl,?_⟩⟩
     .unfold Zez at ha;omega
     .unfold ZaO
      rw[hk];simp[h4]
    .by_cases hm:(Zao k).1.kind=2
     .have hc:=ZrF (A:=A) e k hk he hl hw
      have hg:ZaO subP Zav ZaR (n+1) e=ZbB subP Zav e (Zao k).1.name (Zao k).2:=by
       conv=>lhs;unfold ZaO
       rw[hk];have hsp:=ZeP k.weight k [] (qe _) (hs.child (Zal (qa hf)));simp[h8,hsp,hm]
      cases ho:ZbB subP Zav e (Zao k).1.name (Zao k).2 with
      |none=>
       rw[ho]at hc;exact⟨_,_,false,Zfu e hs hwl 3 (by omega) (fun j hj ha=>by unfold Zez at ha;omega) (.inr (.inr (.inr (.inl ⟨rfl,h8,k,hf,hm⟩)))) _ false hc,.inr ⟨rfl,by rw[hg,ho]⟩⟩
      |some p=>
       rw[ho]at hc;refine⟨_,_,true,Zfu e hs hwl 3 (by omega) (fun j hj ha=>by unfold Zez at ha;omega) (.inr (.inr (.inr (.inl ⟨rfl,h8,k,hf,hm⟩)))) _ true hc,.inl ⟨rfl,4,rfl,?_⟩⟩;rw[hg,ho];have h4:p.2=4:=by
        unfold ZbB at ho;split at ho
        .cases ho
        .split at ho
         .exact(congrArg Prod.snd (qaL ho)).symm
         .cases ho
       rw[<-h4]
     .refine down k hf (.inr h8) (fun j _ ha => ?_) ?_
      .unfold Zez at ha
       rcases ha with ⟨_,h,_⟩|⟨_,h⟩|⟨_,h⟩|⟨_,_,g,hg,h⟩|⟨_,h⟩|⟨_,h⟩
       .omega
       .omega
       .omega
       .rw[hf]at hg;obtain rfl:=qaL hg;exact hm h
       .omega
       .omega
      .conv=>lhs;unfold ZaO
       rw[hk];have hsp:=ZeP k.weight k [] (qe _) (hs.child (Zal (qa hf)));simp[h8,hsp,hm]
    .refine ⟨_,_,true,Zfu e hs hwl 4 (by omega) (fun j hj ha => ?_) (.inr (.inr (.inr (.inr (.inl ⟨rfl,h9⟩))))) _ true (Zyl e k hf),.inl ⟨rfl,5,rfl,?_⟩⟩
     .unfold Zez at ha;omega
     .unfold ZaO
      rw[hk];simp[h9]
    .refine ⟨_,_,true,Zfu e hs hwl 5 (by omega) (fun j hj ha => ?_) (.inr (.inr (.inr (.inr (.inr ⟨rfl,h11⟩))))) _ true (Zyl e k hf),.inl ⟨rfl,6,rfl,?_⟩⟩
     .unfold Zez at ha;omega
     .unfold ZaO
      rw[hk];simp[h11]
   .refine ⟨_,_,false,Zoo e hs hwl (fun j hj ha => ?_) (by omega) (by omega),.inr ⟨rfl,?_⟩⟩
    .unfold Zez at ha;omega
    .unfold ZaO
     rw[Zts hs h2 h1]
variable {A:Zab}
def Zdl (e:Exp)(o:Option (Exp×Nat)):V×List Obj:=match o with
 |some p=>(.tu [expV (Zan p.1),intV p.2,Zae true],[])
 |none=>(.tu [expV e,intV 0,Zae false],[])
theorem ZyN (u:List (List Cell))(e:Exp)(h:StE e)(hw:e.weight<=6000):(K A).call 16 [.sc (.c (.sl u)),expV e] []=some (Zdl e (ZaO subP Zav ZaR e.weight e)):=by
 have hv:=ZAw (A:=A) e h (by omega);obtain⟨x,m,b,hc,hb⟩:=Zyk (A:=A) e.weight e (qe _) h.ok h.lf hw;refine fnO v16 ?_;rcases hb with ⟨rfl,m',rfl,hs⟩|⟨rfl,hs⟩
 .have hx:=Zfg _ e _ (qe _) h.ok h.lf hw hs
  have hst:=Zz7 (A:=A) x (Zgr (fun e f he hk hf=>Zc0 he hk hf) _ e _ h.ok hs).1.wf (by
   have h1:=hx.2;have h2:e.weight*(2*e.weight+1)<=6000*(2*6000+1):=qaR hw (by omega);simp only at h1;omega)
  rw[hs];unfold v16 Zdl;simp(maxSteps:=4000000) (disch:=first|exact zd|fail) [hv,hc,hst,-getElem?_pos]
 .rw [hs]
  unfold v16 Zdl;simp(maxSteps:=4000000) (disch:=first|exact zd|fail) [hv,hc,-getElem?_pos]
theorem Zz0 (u:List (List Cell))(e:Exp)(h:StE e)(hw:e.weight<=6000):(K A).call 21 [.sc (.c (.sl u)),expV e] []=some (Zae (decide (ZaO subP Zav ZaR e.weight e=none/\¬valP e)),[]):=by
 have hc:=ZyN (A:=A) u e h hw;have hv:=Zua (A:=A) e h.ok.1 (by omega);refine fnO v21 ?_;cases hs:ZaO subP Zav ZaR e.weight e with
 |some p=>
  rw[hs]at hc;unfold Zdl at hc;unfold v21;simp(maxSteps:=4000000) (disch:=first|exact zd|fail) [hc,-getElem?_pos]
 |none=>
  rw[hs]at hc;unfold Zdl at hc;unfold v21;by_cases hp:valP e<;>simp(maxSteps:=4000000) (disch:=first|exact zd|fail) [hc,hv,hp,-getElem?_pos]
def ZiI (cur:Exp)(acc:List Exp):St:=if acc=[] then ⟨[(1,.sc (.ptr 64 0)),(2,.sc (.ptr 128 0)),(4,.sc .nil)],[(64,some (.box (wc cur.row))),(128,some (.box [zi,zi,zs,zi,.nil,.nil,zi,zs,zi,zi,.nil]))]⟩
 else ⟨[(1,.sc (.ptr 64 0)),(2,.sc (.ptr 128 0)),(4,Zen acc)],[(64,some (.box (wc cur.row))),(128,some (.box [zi,zi,zs,zi,.nil,.nil,zi,zs,zi,zi,.nil])),(768,some (.arr 11 (wr (Exp.rows acc)) acc.length))]⟩
theorem ZqA (x:Exp)(l:List Exp):wc x.row::wr (Exp.rows l)=wr (Exp.rows (x::l)):=by rw[Exp.rows];rfl
theorem Zoz (e:Exp)(hs:shp e)(hl:e.weight<=1073741824):(K A).call 56 [expV e] []=some (.tu [expV (Zao e).1,Zen (Zao e).2],[]):=by
 refine fnO v56 ?_;have s2:=Zgo e hs;unfold v56;simp(disch:=first|exact zd|fail) [-getElem?_pos];refine Zad (fun i s=>∃cur acc,shp cur/\acc.length=i/\Zao e=((Zao cur).1,(Zao cur).2++acc)/\s=ZiI cur acc) (Zao e).2.length ⟨e,[],hs,rfl,by simp,by simp[ZiI]⟩ ?_ ?_
 .rintro i s hi ⟨cur,acc,hc,ha,hsp,rfl⟩
  have h5:cur.kind=5:=by
   by_cases h5:cur.kind=5
   .exact h5
   .rw [hsp,Zda h5] at hi
    simp[ha]at hi
  obtain⟨f,x,hfx⟩:=ZhQ hc (.inl h5);have hf:shp f:=hc.child (Zal (by rw[hfx];simp));have hok:=okRows_exp acc;have hal:acc.length<=1073741824:=by omega
  have hcm:(acc.length+1==1+acc.length)=true:=by simp[qbk]
  refine ZaU (Q:=fun e' s'=>e'=.normal/\s'=ZiI f (x::acc)) ?_ ?_
  .rw [show ZiI f (x::acc)=_ from if_neg (List.cons_ne_nil x acc)]
   by_cases hn:acc=[]
   .subst hn
    rw[show ZiI cur []=_ from if_pos rfl];unfold ZxT;simp(disch:=first|exact zd|fail) [h5,hfx,qI,-getElem?_pos]
   .rw [show ZiI cur acc=_ from if_neg hn]
    unfold ZxT;simp(disch:=first|exact zd|fail) [h5,hfx,hok,ZqA,hcm,qI,-getElem?_pos]
  .rintro e' s' ⟨rfl,rfl⟩
   refine .inl ⟨rfl,f,x::acc,hf,by simp[ha],?_,rfl⟩;rw[hsp,Zdq h5 hfx];simp
 .rintro s ⟨cur,acc,hc,ha,hsp,rfl⟩
  have h5:¬cur.kind=5:=by
   intro h5;obtain⟨f,x,hfx⟩:=ZhQ hc (.inl h5);rw[hsp,Zdq h5 hfx]at ha;simp at ha;omega
  have hr:(Zao e).2=acc:=by rw[hsp,Zda h5];simp
  have hc1:(Zao e).1=cur:=by rw[hsp,Zda h5]
  rw[hr,hc1];unfold ZxT ZiI;cases acc with
  |nil=>simp(disch:=first|exact zd|fail) [h5,-getElem?_pos]
  |cons y r=>simp(disch:=first|exact zd|fail) [h5,-getElem?_pos]
theorem Zsz (e:Exp)(hs:shp e)(hl:e.weight<=1073741824):(K A).call 20 [expV e] []=some (Zae (decide (valP e)),[]):=by
 have hc:=Zoz (A:=A) e hs hl;refine fnO v20 ?_;unfold v20 valP;by_cases h3:e.kind=3
 .simp(maxSteps:=4000000) (disch:=first|exact zd|fail) [hc,h3,-getElem?_pos]
 .by_cases h4:e.kind=4
  .simp(maxSteps:=4000000) (disch:=first|exact zd|fail) [hc,h4,-getElem?_pos]
  .simp(maxSteps:=4000000) (disch:=first|exact zd|fail) [hc,h3,h4,-getElem?_pos]
theorem ZBq (e:Exp):e.wf->e.weight<=1073741824->(K A).call 15 [expV e] []=some (intV (ZbX e),[]):=by
 induction e using Exp.ind with
 |h e ih=>
 intro hwf hl;refine fnO v15 ?_;have hle:=e.children_le;rw[e.children_len]at hle;have hch:=ZbS (A:=A) e (by omega);unfold v15;simp(disch:=first|exact zd|fail) [hch,-getElem?_pos];have hnw:=ZmQ e;have hne:=Zie e;have hsum:∀i,((e.children.map ZbX).take i).sum<=(e.children.map ZbX).sum:=fun i=>ZcS
 refine Zak (fun i=>⟨[(3,intV ((1+((e.children.map ZbX).take i).sum:Nat):Int)),(4,.sc (.arr 352 (e.kids.length+e.arms.length))),(5,intV i)],[(352,some (.arr 11 (wr (Exp.rows e.children)) 0))]⟩) (e.kids.length+e.arms.length) ?_ ?_ ?_
 .simp
 .intro i hi
  have hi2:(i:Int)<(e.kids.length:Int)+e.arms.length:=by omega
  obtain⟨x,hx⟩:=Zaa (l:=e.children) (i:=i) (by rw[e.children_len];exact hi);have hm:=qa hx;have hrec:=ih x hm (hwf.child hm) (by have:=Exp.child_lt hm;omega);have hxm:(e.children.map ZbX)[i]?=some (ZbX x):=by rw[qi,hx];rfl
  have hs1:((e.children.map ZbX).take (i+1)).sum=((e.children.map ZbX).take i).sum+ZbX x:=by rw[Zam hxm];simp
  have hs2:=hsum (i+1);have hib:(i:Int)+1<=1073741824:=by have:=e.children_len;omega
  rw[hs1];generalize ((e.children.map ZbX).take i).sum=S at *
  have hadd:IntKind.i64.wrap (((1+S:Nat):Int)+(ZbX x:Int))=((1+(S+ZbX x):Nat):Int):=by rw[ZgJ _ (by omega)];omega
  unfold ZAo;simp(maxSteps:=4000000) (disch:=first|exact zd|fail) [hi,hi2,hx,hrec,hadd,-getElem?_pos]
  try omega
 .have hall:(e.children.map ZbX).take (e.kids.length+e.arms.length)=e.children.map ZbX:=qf (by rw [qan,e.children_len];omega)
  rw[hall,<-hne];unfold ZAo;simp(maxSteps:=4000000) (disch:=first|exact zd|fail) [-getElem?_pos]
variable {A:Zab}
def Zps (e:Exp)(o:Option (Exp×Nat)):V:=match o with
 |some p=>.tu [expV p.1,intV 4,Zae true]
 |none=>.tu [expV e,intV 0,Zae false]
def chBR (T:List Str)(vars:List Str)(b:Exp)(i:Nat):Exp:=ZcG ((renL T vars).take i) b
def chSR (T:List Str)(args:List Exp)(b:Exp)(i:Nat):Exp:=ZcG ((argL T args).take i) b
theorem Zgv (l m:List (Str×Exp))(e:Exp):ZcG (l++m) e=ZcG m (ZcG l e):=by
 unfold ZcG;rw[qaS]
theorem Zjb (l:List (Str×Exp))(p:Str×Exp)(b:Exp):ZcG (l++[p]) b=refP (ZcG l b) p.1 p.2:=by rw[Zgv];rfl
theorem ZrY {T vars:List Str}{b:Exp}{i:Nat}{v:Str}(h:vars[i]?=some v):chBR T vars b (i+1)=refP (chBR T vars b i) v (varX (Zat i T)):=by
 have h2:(renL T vars)[i]?=some (v,varX (Zat i T)):=by unfold renL;simp[h]
 unfold chBR;rw[Zam h2,Zjb]
theorem Zvs {T:List Str}{args:List Exp}{b:Exp}{i:Nat}{x:Exp}(h:args[i]?=some x):chSR T args b (i+1)=refP (chSR T args b i) (Zat i T) x:=by
 have h2:(argL T args)[i]?=some (Zat i T,x):=by unfold argL;simp[h]
 unfold chSR;rw[Zam h2,Zjb]
theorem ZlW (e:Exp)(vars:List Str):renL (Zav e) vars=renL (ZaB e) vars:=by
 unfold renL;simp only[ZgM]
theorem Zvi (e:Exp)(args:List Exp):argL (Zav e) args=argL (ZaB e) args:=by
 unfold argL;simp only[ZgM]
theorem Zpv (T vars:List Str):∀p∈renL T vars,okE p.2:=by
 intro p hp;obtain⟨q,_,rfl⟩:=qH.1 hp;exact Zdy _
theorem Zwc {T:List Str}{args:List Exp}(h:∀a∈args,okE a):∀p∈argL T args,okE p.2:=by
 intro p hp;obtain⟨⟨y,i⟩,hq,rfl⟩:=qH.1 hp;exact h y (qa (qaT.1 hq))
theorem CaseOk.renR {e k:Exp}{a:ArmH×Exp}(h:CaseOk e k a)(j:Nat):shp (chBR (ZaB e) a.1.vars a.2 j)/\(chBR (ZaB e) a.1.vars a.2 j).weight<=a.2.weight:=by
 obtain⟨r1,r2,r3⟩:=h.ren j;have hs:=(ZcO ((renL (ZaB e) a.1.vars).take j) a.2 a.2 (ZaN _) (h.ok.child (Zbt h.am)) fun p hp=>Zpv _ _ p (qak hp)).1;rw[ZlW]at r1 r3;have hw:=sameP.weight _ _ hs;exact⟨sameP.shp _ _ hs r1.1,by unfold chBR;omega⟩
theorem CaseOk.subR {e k:Exp}{a:ArmH×Exp}(h:CaseOk e k a)(j:Nat):shp (chSR (ZaB e) (Zao k).2 (ZcG (renL (ZaB e) a.1.vars) a.2) j)/\(chSR (ZaB e) (Zao k).2 (ZcG (renL (ZaB e) a.1.vars) a.2) j).weight<=16777216:=by
 obtain⟨s1,s2,s3,s4⟩:=h.sub j;obtain⟨q1,q2⟩:=ZcO (renL (ZaB e) a.1.vars) a.2 a.2 (ZaN _) (h.ok.child (Zbt h.am)) (Zpv _ _);have hs:=(ZcO ((argL (ZaB e) (Zao k).2).take j) _ _ q1 q2 fun p hp=>Zwc (fun x hx=>(h.args x hx).1) p (qak hp)).1;rw[ZlW,Zvi]at s1 s3;have hw:=sameP.weight _ _ hs;exact⟨sameP.shp _ _ hs s1.1,by unfold chSR;omega⟩
theorem ZwI (e:Exp)(x:Str)(b:Exp)(hl:e.weight<=16777216)(hs:shp e)(hb:b.wf)(hbw:b.weight<=16777216):(K A).call 103 [expV e,strV x,expV b] []=some (expV (refP e x b),[]):=Zm7 e.weight e x b (qe _) hl hs hb hbw
def Zjo (e:Exp)(con:Str)(args:List Exp)(i:Nat):St:=⟨[(1,strV con),(2,Zen args),(3,.sc (.ptr 64 0)),(6,.sc (.ptr 128 0)),(9,intV i)],[(64,some (.box (wc e.row))),(128,some (.box [zi,zi,zs,zi,.nil,.nil,zi,zs,zi,zi,.nil]))]⟩
theorem Zmu (e:Exp)(con:Str)(args:List Exp)(hw:e.weight<=1073741824)(i:Nat)(a:ArmH×Exp)(ha:e.arms[i]?=some a)(hn:a.1.con≠con):wp (K A) ZjC (fun x s'=>x=.normal/\s'=Zjo e con args (i+1)) (Zjo e con args i):=by
 have hi:=(qd.1 ha).1;have hal:=e.children_le;rw[e.children_len]at hal;unfold ZjC Zjo;simp(maxSteps:=4000000) (disch:=first|exact zd|fail) [hi,ha,hn,-getElem?_pos]
theorem Zxb (e k:Exp)(hk:e.kids=[k])(he:okE e)(hl:lfE e)(hw:e.weight<=6000):(K A).call 105 [expV e,strV (Zao k).1.name,Zen (Zao k).2] []=some (Zps e (ZbB refP ZaB e (Zao k).1.name (Zao k).2),[]):=by
 have hkm:k∈e.children:=Zal (by rw[hk];simp);have hkl:=Exp.child_lt hkm;have hsk:=(he.child hkm).1;have hal:=e.children_le;rw[e.children_len]at hal;have hsl:=Zgo k hsk;have hus:=Zxz (A:=A) e (by omega);have hul:=Zd6 e;refine fnO v105 ?_;unfold v105;simp(maxSteps:=4000000) (disch:=first|exact zd|fail) [-getElem?_pos];cases hf:e.arms.find? fun a=>a.1.con==(Zao k).1.name with
 |none=>
  refine Zak (Zjo e (Zao k).1.name (Zao k).2) e.arms.length (by simp[Zjo]) (fun i hi=>?_) ?_
  .obtain ⟨a,ha⟩:=Zaa hi
   refine Zmu e _ _ (by omega) i a ha fun hc=>?_;have:=List.find?_eq_none.1 hf a (qa ha);simp[hc]at this
  .unfold ZbB
   rw[hf];unfold ZjC Zjo Zps;simp(maxSteps:=4000000) (disch:=first|exact zd|fail) [-getElem?_pos]
 |some a=>
  obtain⟨hp,i,hi,hai,hlt⟩:=List.find?_eq_some_iff_getElem.1 hf;have hai':e.arms[i]?=some a:=by rw[qh hi,hai]
  refine Zak (Zjo e (Zao k).1.name (Zao k).2) i (by simp[Zjo]) (fun j hj=>?_) ?_
  .obtain ⟨b,hb⟩:=Zaa (l:=e.arms) (i:=j) (by omega)
   refine Zmu e _ _ (by omega) j b hb fun hc=>?_;have h1:=hlt j hj;have h2:e.arms[j]'(by omega)=b:=(qd.1 hb).2;rw[h2]at h1;simp[hc]at h1
  .have hcon:a.1.con=(Zao k).1.name:=by simpa using hp
   unfold ZbB;rw[hf];simp only;by_cases hv:a.1.vars.length=(Zao k).2.length
   .rw [if_pos hv]
    have hC:CaseOk e k a:=⟨he,hl,hw,hk,qa hai'⟩;have hsum:=hC.sum;have hch:ZpJ refP (Zh6 (ZaB e) a.1.vars (Zao k).2) a.2=chSR (ZaB e) (Zao k).2 (chBR (ZaB e) a.1.vars a.2 a.1.vars.length) (Zao k).2.length:=by
     unfold chSR chBR;rw[qf (show(renL (ZaB e) a.1.vars).length<=_ by simp[renL]),qf (show(argL (ZaB e) (Zao k).2).length<=_ by simp[argL]),<-Zgv];rfl
    rw[hch];have hfr:∀i:Nat,i<=6000->(K A).call 110 [intV i,Za3 (ZaB e)] []=some (strV (Zat i (ZaB e)),[]):=fun i hi=>Zrs (A:=A) i (ZaB e) (by omega) (by omega);unfold ZjC Zjo Zps;simp(maxSteps:=4000000) (disch:=first|exact zd|fail) [hi,hai',hcon,hv,hus,-getElem?_pos];refine Zak (fun i=>⟨[(2,Zen (Zao k).2),(6,.sc (.ptr 128 0)),(10,.sc (.ptr 1024 0)),(12,.sc (.ptr 2304 0)),(11,Za3 (ZaB e)),(13,intV i)],
     [(128,some (.box [zi,zi,zs,zi,.nil,.nil,zi,zs,zi,zi,.nil])),(1024,some (.box (wc (Zaw a)))),(2304,some (.box (wc (chBR (ZaB e) a.1.vars a.2 i).row)))]⟩) (Zao k).2.length ?_ ?_ ?_
    .simp[chBR,ZcG]
    .intro i hi
     obtain⟨v,hvi⟩:=Zaa (l:=a.1.vars) (i:=i) (by omega);obtain⟨r1,r3⟩:=hC.renR i;have hren:=Zxt (A:=A) (chBR (ZaB e) a.1.vars a.2 i) v (Zat i (ZaB e)) (by omega) r1;rw[show refS _ _ _ _=_ from(ZrY hvi).symm]at hren;have hf:=hfr i (by omega);have hi2:i<a.1.vars.length:=(by omega);unfold Zly;simp(maxSteps:=4000000) (disch:=first|exact zd|fail) [hi,hi2,hvi,hf,hren,-getElem?_pos]
    .have hB:chBR (ZaB e) a.1.vars a.2 (Zao k).2.length=ZcG (renL (ZaB e) a.1.vars) a.2:=by
      unfold chBR;rw[qf (by simp[renL];omega)]
     rw[hB];unfold Zly;simp(maxSteps:=4000000) (disch:=first|exact zd|fail) [-getElem?_pos];refine Zak (fun i=>⟨[(2,Zen (Zao k).2),(6,.sc (.ptr 128 0)),(12,.sc (.ptr 2304 0)),(11,Za3 (ZaB e)),(14,intV i)],
      [(128,some (.box [zi,zi,zs,zi,.nil,.nil,zi,zs,zi,zi,.nil])),(1024,some (.box (wc (Zaw a)))),(2304,some (.box (wc (chSR (ZaB e) (Zao k).2 (ZcG (renL (ZaB e) a.1.vars) a.2) i).row)))]⟩) (Zao k).2.length ?_ ?_ ?_
     .simp[chSR,ZcG]
     .intro i hi
      obtain⟨x,hx⟩:=Zaa (l:=(Zao k).2) (i:=i) hi;obtain⟨s1,s2⟩:=hC.subR i;obtain⟨x1,x2,x3,_⟩:=hC.args x (qa hx);have hsu:=ZwI (A:=A) (chSR (ZaB e) (Zao k).2 (ZcG (renL (ZaB e) a.1.vars) a.2) i) (Zat i (ZaB e)) x s2 s1 x1.1.wf (by omega);rw[<-Zvs hx]at hsu;have hf:=hfr i (by omega);unfold Zou;simp(maxSteps:=4000000) (disch:=first|exact zd|fail) [hi,hx,hf,hsu,-getElem?_pos]
     .unfold Zou
      simp(maxSteps:=4000000) (disch:=first|exact zd|fail) [-getElem?_pos]
   .rw [if_neg hv]
    have hv':¬(a.1.vars.length:Int)=(Zao k).2.length:=(by omega);unfold ZjC Zjo Zps;simp(maxSteps:=4000000) (disch:=first|exact zd|fail) [hi,hai',hcon,hv,hv',-getElem?_pos]
variable {A:Zab}
theorem Zpk (e f x:Exp)(m:Int)(b:Bool)(hl:e.weight<=1073741824)(hf:e.kids[0]?=some f)(hc:(K A).call 50 [expV f] []=some (.tu [expV x,intV m,Zae b],[])):
 (K A).call 104 [expV e] []=some (.tu [expV (Za6 e (x::e.children.tail)),intV m,Zae b],[]):=by
 have hkl:0<e.kids.length:=by
  cases hh:e.kids with
  |nil=>rw[hh]at hf;simp at hf
  |cons a l=>simp
 have hle:=e.children_le;rw[e.children_len]at hle;have hch:=ZbS (A:=A) e (by omega);have hcl:=e.children_len;have hset:e.children.set 0 x=x::e.children.tail:=by
  cases hh:e.children with
  |nil=>rw[hh]at hcl;simp at hcl;omega
  |cons a l=>rfl
 have hrs:setRow (wr (Exp.rows e.children)) 0 (wc x.row)=wr (Exp.rows (x::e.children.tail)):=by rw[Zce,hset]
 have hCl:(x::e.children.tail).length=e.kids.length+e.arms.length:=by rw[<-hset,List.length_set,hcl]
 have hw:=Zym (A:=A) e (x::e.children.tail) hCl hl;obtain⟨c0,hg0⟩:∃c,e.children[0]?=some c:=Zaa (by omega);rw[hcl]at hch;have hrow':=Za7 e
 have hrowW:wc (Za6 e (x::e.children.tail)).row=[.c (.int .i64 e.kind),.c (.int .i64 e.pos),.c (.str e.name),.c (.int .i64 e.num),.c (.sl (Exp.rows ((x::e.children.tail).take e.kids.length))),.c (.sl (Exp.armRows (ZaX e.arms ((x::e.children.tail).drop e.kids.length)))),.c (.int .i64 e.ty.kind),.c (.str e.ty.name),.c (.int .i64 e.ty.id),.c (.int .i64 e.ty.home),.c (.sl (Ty.rows e.ty.args))]:=by rw[Exp.row_eq];rfl
 have hkW:((x::e.children.tail).take e.kids.length).length=e.kids.length:=by rw[qK,hCl];omega
 have haW:(ZaX e.arms ((x::e.children.tail).drop e.kids.length)).length=e.arms.length:=by rw[armsW_len,qV,hCl];omega
 refine fnO v104 ?_;unfold v104;generalize x::e.children.tail=cs at *
 simp only[expV,hrow']at hch hw;simp(maxSteps:=4000000) (disch:=first|exact zd|fail) [hf,hc,hch,hrs,hg0,hw,hrowW,hCl,hkW,haW,hrow',-getElem?_pos]
theorem get0 {α:Type}(x:α)(l:List α):(x::l)[0]?=some x:=rfl
theorem get1 {α:Type}(x y:α)(l:List α):(x::y::l)[1]?=some y:=rfl
def Zzj (A:Zab)(n:Nat)(e:Exp):Prop:=∃(x:Exp) (m:Int) (b:Bool),(K A).call 50 [expV e] []=some (.tu [expV x,intV m,Zae b],[])/\
 ((b=true/\∃m':Nat,m=m'/\ZaO refP ZaB Zcb n e=some (x,m'))\/(b=false/\ZaO refP ZaB Zcb n e=none))
theorem Zdh {n:Nat}{e x:Exp}{m:Nat}(h:(K A).call 50 [expV e] []=some (.tu [expV x,intV m,Zae true],[]))(hs:ZaO refP ZaB Zcb n e=some (x,m)):Zzj A n e:=⟨x,m,true,h,.inl ⟨rfl,m,rfl,hs⟩⟩
theorem Zgz {n:Nat}{e x:Exp}{m:Int}(h:(K A).call 50 [expV e] []=some (.tu [expV x,intV m,Zae false],[]))(hs:ZaO refP ZaB Zcb n e=none):Zzj A n e:=⟨x,m,false,h,.inr ⟨rfl,hs⟩⟩
theorem ZpI:∀(n:Nat)(e:Exp),e.weight<=n->okE e->lfE e->recZ e->e.weight<=6000->Zzj A n e
 |0,e,h,_,_,_,_=>by have:=e.weight_pos;omega
 |n+1,e,hn,he,hl,hz,hw=>by
  have hs:=he.1;by_cases h2:e.kind=5\/e.kind=6\/e.kind=7
  .obtain ⟨f,a,hk⟩:=ZhQ hs h2
   have hf:e.kids[0]?=some f:=(by rw[hk];rfl);have hfm:f∈e.children:=Zal (qa hf);have ham:a∈e.children:=Zal (by rw[hk];simp);have hlf:=Exp.child_lt hfm;have hla:=Exp.child_lt ham;rcases h2 with h5|h6|h7
   .by_cases h4:f.kind=4
    .obtain ⟨k,hfk⟩:=ZhM (hs.child hfm) (.inl h4)
     have hkm:k∈f.children:=Zal (by rw[hfk];simp);have hlk:=Exp.child_lt hkm;have hsu:=ZwI (A:=A) k f.name a (by omega) ((hs.child hfm).child hkm) (hs.child ham).wf (by omega);refine Zdh (m:=1) (x:=refP k f.name a) ?_ (by unfold ZaO;rw[hk];simp[h5,h4,hfk]);refine fnO v50 ?_;unfold v50;simp(maxSteps:=4000000) (disch:=first|exact zd|fail) [h5,hk,h4,hfk,get0,get1,hsu,-getElem?_pos]
    .obtain ⟨x,m,b,hc,hb⟩:=ZpI n f (by omega) (he.child hfm) (hl.child hfm) (hz.child hfm) (by omega)
     have hfi:=Zpk (A:=A) e f x m b (by omega) hf hc;refine⟨Za6 e (x::e.children.tail),m,b,?_,?_⟩
     .refine fnO v50 ?_
      unfold v50;simp(maxSteps:=4000000) (disch:=first|exact zd|fail) [h5,hk,h4,get0,get1,hfi,-getElem?_pos]
     .have hg:ZaO refP ZaB Zcb (n+1) e=(ZaO refP ZaB Zcb n f).map fun p=>(Za6 e (p.1::e.children.tail),p.2):=by
       conv=>lhs;unfold ZaO
       rw[hk];simp[h5,h4]
      rw[hg];rcases hb with ⟨hb,m',hm',h1⟩|⟨hb,h1⟩
      .exact .inl ⟨hb,m',hm',by rw[h1];rfl⟩
      .exact .inr ⟨hb,by rw[h1];rfl⟩
   .have hsu:=ZwI (A:=A) a e.name f (by omega) (hs.child ham) (hs.child hfm).wf (by omega)
    refine Zdh (m:=2) (x:=refP a e.name f) ?_ (by unfold ZaO;rw[hk];simp[h6]);refine fnO v50 ?_;unfold v50;simp(maxSteps:=4000000) (disch:=first|exact zd|fail) [h6,hk,get0,get1,hsu,-getElem?_pos]
   .have hag:=Zc0 he h7 hfm
    have hsm:=Zjr (f:=f) hs hz h7;have hsu:=ZwI (A:=A) a e.name (Zcb e f) (by omega) (hs.child ham) (sameP.shp _ _ hsm hag.1).wf (by have:=sameP.weight _ _ hsm;have:=ZeF (f:=f) he h7;omega)
    rw[show expV (Zcb e f)=.ag [.c (.int .i64 7),.c (.int .i64 0),.c (.str e.name),.c (.int .i64 0),.c (.sl [f.row,f.row]),.c (.sl []),.c (.int .i64 0),.c (.str []),.c (.int .i64 0),.c (.int .i64 0),.c (.sl [])] by unfold Zcb;simp only[expV,Exp.row_eq (Exp.mk _ _ _ _ _ _ _)];rfl]at hsu;refine Zdh (m:=3) (x:=refP a e.name (Zcb e f)) ?_ (by unfold ZaO;rw[hk];simp[h7]);refine fnO v50 ?_;unfold v50
    simp(maxSteps:=4000000) (disch:=first|exact zd|fail) [h7,hk,get0,get1,hsu,-getElem?_pos]
  .by_cases h1:e.kind=4\/e.kind=8\/e.kind=9\/e.kind=11
   .obtain ⟨k,hk⟩:=ZhM hs h1
    have hf:e.kids[0]?=some k:=(by rw[hk];rfl);have hkm:k∈e.children:=Zal (qa hf);have hlk:=Exp.child_lt hkm;rcases h1 with h4|h8|h9|h11
    .refine Zgz (m:=0) (x:=e) ?_ (by unfold ZaO;rw [hk];simp [h4])
     refine fnO v50 ?_;unfold v50;simp(maxSteps:=4000000) (disch:=first|exact zd|fail) [h4,-getElem?_pos]
    .have hsp:=Zoz (A:=A) k (hs.child hkm) (by omega)
     have hspq:=ZeP k.weight k [] (qe _) (hs.child hkm);by_cases hm:(Zao k).1.kind=2
     .have hc:=Zxb (A:=A) e k hk he hl hw
      have hg:ZaO refP ZaB Zcb (n+1) e=ZbB refP ZaB e (Zao k).1.name (Zao k).2:=by
       conv=>lhs;unfold ZaO
       rw[hk];simp[h8,hspq,hm]
      cases ho:ZbB refP ZaB e (Zao k).1.name (Zao k).2 with
      |none=>
       rw[ho]at hc;replace hc:(K A).call 105 [expV e,strV (Zao k).1.name,Zen (Zao k).2] []=some (.tu [expV e,intV 0,Zae false],[]):=hc;refine Zgz (m:=0) (x:=e) ?_ (by rw[hg,ho]);refine fnO v50 ?_;unfold v50;simp(maxSteps:=4000000) (disch:=first|exact zd|fail) [h8,hk,get0,hsp,hm,hc,-getElem?_pos]
      |some p=>
       rw[ho]at hc;replace hc:(K A).call 105 [expV e,strV (Zao k).1.name,Zen (Zao k).2] []=some (.tu [expV p.1,intV 4,Zae true],[]):=hc;have h4:p.2=4:=by
        unfold ZbB at ho;split at ho
        .cases ho
        .split at ho
         .exact(congrArg Prod.snd (qaL ho)).symm
         .cases ho
       refine Zdh (m:=4) (x:=p.1) ?_ (by rw[hg,ho,<-h4]);refine fnO v50 ?_;unfold v50;simp(maxSteps:=4000000) (disch:=first|exact zd|fail) [h8,hk,get0,hsp,hm,hc,-getElem?_pos]
     .obtain ⟨x,m,b,hc,hb⟩:=ZpI n k (by omega) (he.child hkm) (hl.child hkm) (hz.child hkm) (by omega)
      have hfi:=Zpk (A:=A) e k x m b (by omega) hf hc;refine⟨Za6 e (x::e.children.tail),m,b,?_,?_⟩
      .refine fnO v50 ?_
       unfold v50;simp(maxSteps:=4000000) (disch:=first|exact zd|fail) [h8,hk,get0,hsp,hm,hfi,-getElem?_pos]
      .have hg:ZaO refP ZaB Zcb (n+1) e=(ZaO refP ZaB Zcb n k).map fun p=>(Za6 e (p.1::e.children.tail),p.2):=by
        conv=>lhs;unfold ZaO
        rw[hk];simp[h8,hspq,hm]
       rw[hg];rcases hb with ⟨hb,m',hm',h1⟩|⟨hb,h1⟩
       .exact .inl ⟨hb,m',hm',by rw[h1];rfl⟩
       .exact .inr ⟨hb,by rw[h1];rfl⟩
    .refine Zdh (m:=5) (x:=k) ?_ (by unfold ZaO;rw [hk];simp [h9])
     refine fnO v50 ?_;unfold v50;simp(maxSteps:=4000000) (disch:=first|exact zd|fail) [h9,hk,get0,-getElem?_pos]
    .refine Zdh (m:=6) (x:=k) ?_ (by unfold ZaO;rw [hk];simp [h11])
     refine fnO v50 ?_;unfold v50;simp(maxSteps:=4000000) (disch:=first|exact zd|fail) [h11,hk,get0,-getElem?_pos]
   .refine Zgz (m:=0) (x:=e) ?_ (by unfold ZaO;rw [Zts hs h2 h1])
    have k5:¬e.kind=5:=(by omega);have k6:¬e.kind=6:=(by omega);have k7:¬e.kind=7:=(by omega);have k8:¬e.kind=8:=(by omega);have k9:¬e.kind=9:=(by omega);have k11:¬e.kind=11:=(by omega);refine fnO v50 ?_;unfold v50;simp(maxSteps:=4000000) (disch:=first|exact zd|fail) [k5,k6,k7,k8,k9,k11,-getElem?_pos]
end Go.Vs.Tryz
