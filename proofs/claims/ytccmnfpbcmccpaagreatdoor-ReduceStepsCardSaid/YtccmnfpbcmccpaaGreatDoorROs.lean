/- Whether an expression has a kind, and lets, walked. -/
import Derived.Test.YtccmnfpbcmccpaaGreatDoorRNs
import Derived.Test.YtccmnfpbcmccpaaGreatDoorRLs
set_option linter.unusedSimpArgs false
set_option linter.unusedVariables false
set_option linter.deprecated false
set_option maxRecDepth 9999
set_option maxHeartbeats 32000000
set_option maxRecDepth 10000
namespace Go.Vs.Tryz
open Go Go.Vs
variable {A:Zab}
theorem has68 (k:Int)(e:Exp):e.weight<=1073741824->∃r,ZxR r/\(K A).call 68 [expV e,intV k] []=some r:=by
 induction e using Exp.ind with
 |h e ih=>
 intro hl;have hle:=e.children_le;rw[e.children_len]at hle;have hc:=ZbS (A:=A) e (by omega);refine fnE v68 ?_;unfold v68;by_cases hk:e.kind=k
 .simp (disch:=first|exact zd|fail) [hk,-getElem?_pos]
  exact⟨true,rfl⟩
 .simp (disch:=first|exact zd|fail) [hk,hc,-getElem?_pos]
  refine Zad (fun i s=>s=⟨[(1,intV k),(5,.sc (.arr 608 e.children.length)),(6,intV i)],[(608,some (.arr 11 (wr (Exp.rows e.children)) 0))]⟩) e.children.length (by simp) ?_ ?_
  .rintro i s hi rfl
   obtain⟨x,hx⟩:=Zaa hi;have hmem:=qa hx;obtain⟨_,⟨b,rfl⟩,h68⟩:=ih x hmem (by have:=Exp.child_lt hmem;omega);rw[e.children_len]at hi;have hi':(i:Int)<(e.kids.length:Int)+e.arms.length:=(by omega);unfold ZBg;cases b with
   |true=>
    simp(disch:=first|exact zd|fail) [hi',hx,h68,-getElem?_pos];exact⟨true,rfl⟩
   |false=>simp(disch:=first|exact zd|fail) [hi',hx,h68,-getElem?_pos]
  .rintro s rfl
   unfold ZBg;simp(disch:=first|exact zd|fail) [-getElem?_pos];exact⟨false,rfl⟩
theorem mk_let {ds:List DataD}{k:Int}{s:Str}(hk:k=6\/k=7)(hs:s∈ZbK){e x:Exp}(he:mkE ds e)(hx:mkE ds x):mkE ds (.mk k 0 s 0 [e,x] [] tz):=by
 rw[ZjE];refine⟨?_,?_,by simp⟩
 .refine ⟨rfl,by simp [Exp.arms],by simp [Exp.ty,tz,Ty.size_leaf],⟨fun _=>rfl,fun h=>absurd (show k=9 from h) (by omega)⟩,⟨fun _=>rfl,by show (0:Int)<=0;decide,by show (0:Int)<=999;decide⟩,?_⟩
  exact .inr (.inr (.inr (.inr (.inr (.inl ⟨hk,hs,⟨e,x,rfl⟩,rfl⟩)))))
 .intro y hy
  simp only[qz,qU,or_false]at hy;rcases hy with rfl|rfl
  .exact he
  .exact hx
theorem Zc1 (k:Int)(s:Str)(e x:Exp):(Exp.mk k 0 s 0 [e,x] [] tz).row=[.int .i64 k,.int .i64 0,.str s,.int .i64 0,.sl [e.row,x.row],.sl [],.int .i64 0,.str [],.int .i64 0,.int .i64 0,.sl []]:=by
 simp[Exp.row,tz,Ty.kind,Ty.name,Ty.id,Ty.home,Ty.args]
theorem Zqz (k:Int)(s:Str)(e x:Exp):(Exp.mk k 0 s 0 [e,x] [] tz).weight=1+(e.weight+x.weight):=by
 rw[Zbh];simp
def ZlY:List Ty:=[.mk 3 [] 0 99 [],.mk 3 [] 1 99 []]
theorem Zwn:∀x∈ZlY,tyG x/\x.size=1:=by
 intro x hx;simp only[ZlY,qz,qU,or_false]at hx;rcases hx with rfl|rfl
 .exact⟨⟨ZlT,Ty.all_iff.2 ⟨fun _=>by decide,fun x hx=>by cases hx⟩⟩,Ty.size_leaf⟩
 .exact⟨⟨ZlT,Ty.all_iff.2 ⟨fun _=>by decide,fun x hx=>by cases hx⟩⟩,Ty.size_leaf⟩
theorem Zj5:Ty.rows ZlY=[(Ty.mk 3 [] 0 99 []).row,(Ty.mk 3 [] 1 99 []).row]:=by simp[ZlY,Ty.rows]
theorem let86 (L:List Int)(ds:List DataD)(hL:L.length<=1073741824)(hds:fitDs ds)(d:Nat)(hd:d<=6)(ih:Zp7 A L ds d)(ctx:List EntD)(goal:Ty)(I:Nat)(hctx:ctxOk (1000-4*(d+1)) 50000 ctx)(hg:tyS 0 goal)(hgl:goal.size+10*(d+1)<=50000)(hI:I<=L.length):
 ∃r,MkR L ds (wD (d+1)) r/\(K A).call 86 [.sc (.ptr 0 0),Zar ds,Zc5 ctx,tyV goal,intV (d+1)] [ZaK L I]=some r:=by
 have hp:=Zma d;have h32:wD (d+1)=(7*wD d+25):=rfl;rw[h32];obtain⟨k2,J1,hk2,hJ1,hc1⟩:=ZbH (A:=A) L I 2 hI hL (by omega) (by omega);obtain⟨s,J2,hs,hJ2,hc2⟩:=Zck (A:=A) L J1 hJ1 hL;obtain⟨b,J3,hb,hJ3,hc3⟩:=ZbH (A:=A) L J2 2 hJ2 hL (by omega) (by omega);have hsA:=Zb0 hs;have hr0:=Ztd (A:=A) 99 0;have hr1:=Ztd (A:=A) 99 1;have hint:=ZmV (A:=A)
 obtain⟨_,⟨x,J4,hxG,hxz,hJ4,rfl⟩,hx0⟩:∃r,Zn6 L 25 r/\(K A).call 45 [.sc (.ptr 0 0),Zar ds,.sc (.c (.sl (if b=0 then Ty.rows ZlY else []))),intV 2] [ZaK L J3]=some r:=by
  by_cases hb0:b=0
  .obtain ⟨r,h1,h2⟩:=Zzw (A:=A) L ds ZlY hL hds (by simp [ZlY]) (by simp [ZlY]) Zwn 2 J3 (by omega) hJ3
   exact⟨r,h1,by rw[if_pos hb0];exact h2⟩
  .obtain ⟨r,h1,h2⟩:=ZkA (A:=A) L ds hL hds 2 J3 (by omega) hJ3
   exact⟨r,h1,by rw[if_neg hb0];exact h2⟩
 have hmx:=Zpa (A:=A) x;have hpx:=ZlD (A:=A) ctx s 0 x (by have:=hctx.1;omega);have hin:ctxOk (1000-4*d) 50000 (if k2=1 then ctx++[⟨s,0,x⟩] else ctx):=by
  split
  .exact hctx.push (c:=0) (by omega) hsA (by omega) hxG.1 (by omega)
  .exact hctx.up (by omega)
 obtain⟨_,⟨e1,J5,g1,g2,g3,rfl⟩,ht1⟩:=ih _ x J4 hin hxG.1 (by omega) hJ4;obtain⟨_,⟨c,u,u1,u2,u3,rfl⟩,hcl⟩:=ZvV (A:=A) x (by omega) hxG.1 hxG.2;have hw1:e1.weight<=1073741824:=qu g2 (qu (wD_le hd) (by decide));obtain⟨_,⟨p,rfl⟩,hh1⟩:=has68 (A:=A) 10 e1 hw1;obtain⟨_,⟨q,rfl⟩,hh2⟩:=has68 (A:=A) 11 e1 hw1;have hmi:=Zpa (A:=A) (.mk 4 [73,110,116] 0 0 []);have hp1:=ZlD (A:=A) ctx s c u (by have:=hctx.1;omega)
 have hp2:=ZlD (A:=A) ctx s 0 (.mk 4 [73,110,116] 0 0 []) (by have:=hctx.1;omega);obtain⟨_,⟨e2,J6,y1,y2,y3,rfl⟩,ht2⟩:=ih (ctx++[⟨s,c,u⟩]) goal J5 (hctx.push (by omega) hsA (by omega) u2 (by omega)) hg (by omega) g3;obtain⟨_,⟨e3,J7,z1,z2,z3,rfl⟩,ht3⟩:=ih (ctx++[⟨s,0,.mk 4 [73,110,116] 0 0 []⟩]) goal J5 (hctx.push (c:=0) (by omega) hsA (by omega) Zuu (by rw[Ty.size_leaf];omega)) hg (by omega) g3
 have res:∀(k:Int) (f:Exp) (J:Nat),k=6\/k=7->mkE ds f->f.weight<=wD d->J<=L.length->MkR L ds ((7*wD d+25)) (expV (.mk k 0 s 0 [e1,f] [] tz),[ZaK L J]):=
  fun k f J hk hf hw hJ=>⟨_,J,mk_let hk hsA g1 hf,by rw[Zqz];omega,hJ,rfl⟩
 refine fnE v86 ?_;unfold v86;obtain rfl|rfl:k2=0\/k2=1:=by omega
 .rw [if_neg (by decide)] at ht1
  obtain rfl|rfl:b=0\/b=1:=by omega
  .rw [if_pos (by decide),Zj5] at hx0
   cases p with
   |true=>
    simp(maxSteps:=4000000) (disch:=first|exact zd|fail) [hc1,hc2,hc3,hr0,hr1,hint,hx0,hmx,hpx,ht1,hcl,hh1,hh2,hmi,hp1,hp2,ht2,ht3,-getElem?_pos];have:=res 6 e3 J7 (by omega) z1 z2 z3;simpa[expV,Zc1]using this
   |false=>
    cases q with
    |true=>
     simp(maxSteps:=4000000) (disch:=first|exact zd|fail) [hc1,hc2,hc3,hr0,hr1,hint,hx0,hmx,hpx,ht1,hcl,hh1,hh2,hmi,hp1,hp2,ht2,ht3,-getElem?_pos];have:=res 6 e3 J7 (by omega) z1 z2 z3;simpa[expV,Zc1]using this
    |false=>
     simp(maxSteps:=4000000) (disch:=first|exact zd|fail) [hc1,hc2,hc3,hr0,hr1,hint,hx0,hmx,hpx,ht1,hcl,hh1,hh2,hmi,hp1,hp2,ht2,ht3,-getElem?_pos];have:=res 6 e2 J6 (by omega) y1 y2 y3;simpa[expV,Zc1]using this
  .rw [if_neg (by decide)] at hx0
   cases p with
   |true=>
    simp(maxSteps:=4000000) (disch:=first|exact zd|fail) [hc1,hc2,hc3,hr0,hr1,hint,hx0,hmx,hpx,ht1,hcl,hh1,hh2,hmi,hp1,hp2,ht2,ht3,-getElem?_pos];have:=res 6 e3 J7 (by omega) z1 z2 z3;simpa[expV,Zc1]using this
   |false=>
    cases q with
    |true=>
     simp(maxSteps:=4000000) (disch:=first|exact zd|fail) [hc1,hc2,hc3,hr0,hr1,hint,hx0,hmx,hpx,ht1,hcl,hh1,hh2,hmi,hp1,hp2,ht2,ht3,-getElem?_pos];have:=res 6 e3 J7 (by omega) z1 z2 z3;simpa[expV,Zc1]using this
    |false=>
     simp(maxSteps:=4000000) (disch:=first|exact zd|fail) [hc1,hc2,hc3,hr0,hr1,hint,hx0,hmx,hpx,ht1,hcl,hh1,hh2,hmi,hp1,hp2,ht2,ht3,-getElem?_pos];have:=res 6 e2 J6 (by omega) y1 y2 y3;simpa[expV,Zc1]using this
 .rw [if_pos (by decide)] at ht1
  obtain rfl|rfl:b=0\/b=1:=by omega
  .rw [if_pos (by decide),Zj5] at hx0
   cases p with
   |true=>
    simp(maxSteps:=4000000) (disch:=first|exact zd|fail) [hc1,hc2,hc3,hr0,hr1,hint,hx0,hmx,hpx,ht1,hcl,hh1,hh2,hmi,hp1,hp2,ht2,ht3,-getElem?_pos];have:=res 7 e3 J7 (by omega) z1 z2 z3;simpa[expV,Zc1]using this
   |false=>
    cases q with
    |true=>
     simp(maxSteps:=4000000) (disch:=first|exact zd|fail) [hc1,hc2,hc3,hr0,hr1,hint,hx0,hmx,hpx,ht1,hcl,hh1,hh2,hmi,hp1,hp2,ht2,ht3,-getElem?_pos];have:=res 7 e3 J7 (by omega) z1 z2 z3;simpa[expV,Zc1]using this
    |false=>
     simp(maxSteps:=4000000) (disch:=first|exact zd|fail) [hc1,hc2,hc3,hr0,hr1,hint,hx0,hmx,hpx,ht1,hcl,hh1,hh2,hmi,hp1,hp2,ht2,ht3,-getElem?_pos];have:=res 7 e2 J6 (by omega) y1 y2 y3;simpa[expV,Zc1]using this
  .rw [if_neg (by decide)] at hx0
   cases p with
   |true=>
    simp(maxSteps:=4000000) (disch:=first|exact zd|fail) [hc1,hc2,hc3,hr0,hr1,hint,hx0,hmx,hpx,ht1,hcl,hh1,hh2,hmi,hp1,hp2,ht2,ht3,-getElem?_pos];have:=res 7 e3 J7 (by omega) z1 z2 z3;simpa[expV,Zc1]using this
   |false=>
    cases q with
    |true=>
     simp(maxSteps:=4000000) (disch:=first|exact zd|fail) [hc1,hc2,hc3,hr0,hr1,hint,hx0,hmx,hpx,ht1,hcl,hh1,hh2,hmi,hp1,hp2,ht2,ht3,-getElem?_pos];have:=res 7 e3 J7 (by omega) z1 z2 z3;simpa[expV,Zc1]using this
    |false=>
     simp(maxSteps:=4000000) (disch:=first|exact zd|fail) [hc1,hc2,hc3,hr0,hr1,hint,hx0,hmx,hpx,ht1,hcl,hh1,hh2,hmi,hp1,hp2,ht2,ht3,-getElem?_pos];have:=res 7 e2 J6 (by omega) y1 y2 y3;simpa[expV,Zc1]using this
variable {A:Zab}
abbrev zE:List W:=[zi,zi,zs,zi,.nil,.nil,zi,zs,zi,zi,.nil]
def ArgA (L:List Int)(ds:List DataD)(ctx:List EntD)(goal:Ty)(dd:DataD)(d i:Nat)(s:St):Prop:=∃tys J,tys.length=i/\(∀x∈tys,tyG x/\x.size<=5)/\J<=L.length/\
 s=⟨[(0,.sc (.ptr 0 0)),(1,Zar ds),(2,Zc5 ctx),(4,intV (d+1)),(8,.sc (.ptr 64 0)),(10,.sc (.ptr 128 0)),(11,.sc (.ptr 1216 0)),(12,.sc (.arr 1345 i)),(13,intV i)],
  [(0,some (ZaK L J)),(64,some (.box (wc goal.row))),(128,some (.box zE)),(1216,some (.box (wc (ZaF dd)))),(1345,some (.arr 5 (wr (Ty.rows tys)) 0))]⟩
def ArmA (L:List Int)(ds:List DataD)(ctx:List EntD)(goal:Ty)(dd:DataD)(tys:List Ty)(x:Exp)(B d i:Nat)(s:St):Prop:=∃arms J,arms.length=i/\J<=L.length/\(∀a∈arms,armM ds a/\mkE ds a.2/\a.2.weight<=B)/\
 s=⟨[(0,.sc (.ptr 0 0)),(1,Zar ds),(2,Zc5 ctx),(4,intV (d+1)),(8,.sc (.ptr 64 0)),(10,.sc (.ptr 128 0)),(11,.sc (.ptr 1216 0)),(12,.sc (.arr 1345 tys.length)),(14,.sc (.ptr 3200 0)),(15,intV i)],
  [(0,some (ZaK L J)),(64,some (.box (wc goal.row))),(128,some (.box zE)),(1216,some (.box (wc (ZaF dd)))),(1345,some (.arr 5 (wr (Ty.rows tys)) tys.length)),(3072,some (.arr 11 [wc x.row] 0)),
    (3200,some (.box [.c (.int .i64 8),zi,zs,zi,.arr 3072 1,.arr 3270 i,zi,zs,zi,zi,.nil])),(3270,some (.arr 14 (wr (Exp.armRows arms)) 0))]⟩
def xyzw:List Str:=[[120],[121],[122],[119]]
def VarA (L:List Int)(ds:List DataD)(ctx:List EntD)(goal:Ty)(dd:DataD)(tys:List Ty)(x:Exp)(arms:List (ArmH×Exp))(con:Str)(f:List Ty)(J d n i j:Nat)(s:St):Prop:=∃vars inner,vars.length=j/\vars=xyzw.take j/\ctxOk (n+j) 50000 inner/\
 s=⟨[(0,.sc (.ptr 0 0)),(1,Zar ds),(2,Zc5 ctx),(4,intV (d+1)),(8,.sc (.ptr 64 0)),(10,.sc (.ptr 128 0)),(11,.sc (.ptr 1216 0)),(12,.sc (.arr 1345 tys.length)),(14,.sc (.ptr 3200 0)),(15,intV i),
  (16,tysV f),(18,.sc (.ptr 5056 0)),(19,Zc5 inner),(20,intV j)],
  [(0,some (ZaK L J)),(64,some (.box (wc goal.row))),(128,some (.box zE)),(1216,some (.box (wc (ZaF dd)))),(1345,some (.arr 5 (wr (Ty.rows tys)) tys.length)),(3072,some (.arr 11 [wc x.row] 0)),
    (3200,some (.box [.c (.int .i64 8),zi,zs,zi,.arr 3072 1,.arr 3270 i,zi,zs,zi,zi,.nil])),(3270,some (.arr 14 (wr (Exp.armRows arms)) 0)),
    (5056,some (.box [zi,.c (.str con),.arr 5123 j,zi,zi,zs,zi,.nil,.nil,zi,zs,zi,zi,.nil])),(5123,some (.arr 1 (wr (Zai vars)) 0))]⟩
theorem Zqn (L:List Int)(ds:List DataD)(hL:L.length<=1073741824)(hds:fitDs ds)(d:Nat)(hd:d<=6)(ih:Zp7 A L ds d)(ctx:List EntD)(goal:Ty)(I:Nat)(hctx:ctxOk (1000-4*(d+1)) 50000 ctx)(hg:tyS 0 goal)(hgl:goal.size+10*(d+1)<=50000)(hI:I<=L.length):
 ∃r,MkR L ds (wD (d+1)) r/\(K A).call 87 [.sc (.ptr 0 0),Zar ds,Zc5 ctx,tyV goal,intV (d+1)] [ZaK L I]=some r:=by
 have hp:=Zma d;have h32:wD (d+1)=(7*wD d+25):=rfl;rw[h32];refine fnE v87 ?_;unfold v87;by_cases hz:ds=[]
 .subst hz
  obtain⟨_,⟨e,J,g1,g2,g3,rfl⟩,hleaf⟩:=ZpE (A:=A) L [] hL (n:=1000) (by omega) ctx (hctx.up (by omega)) goal (by omega) I hI;have hz2:Zax []=[]:=rfl;simp only[Zar,hz2]at hleaf;simp(disch:=first|exact zd|fail) [Zar,hz2,hleaf,-getElem?_pos];exact⟨e,J,g1,by omega,g3,rfl⟩
 .have hpos:ds.length≠0:=by have:=qae.2 hz;omega
  have hds1:=hds.1;have hN:∀I,I<=L.length->∃r,Zn6 L 5 r/\(K A).call 45 [.sc (.ptr 0 0),Zar ds,.sc (.c (.sl [])),intV 1] [ZaK L I]=some r:=fun I h=>ZkA (A:=A) L ds hL hds 1 I (by omega) h;obtain⟨m,J1,hm,hJ1,hc1⟩:=ZbH (A:=A) L I ds.length hI hL (by omega) (by omega);obtain⟨dd,hdd⟩:=Zaa (l:=ds) (i:=m) (by omega);obtain⟨⟨hg1,hg2,hg3,hg4⟩,hfit⟩:=hds.2 dd (qa hdd)
  simp(disch:=first|exact zd|fail) [hz,hpos,hc1,hdd,-getElem?_pos];refine Zad (ArgA L ds ctx goal dd d) dd.params.length ⟨[],J1,rfl,by simp,hJ1,by simp⟩ ?_ ?_
  .rintro i s hi ⟨tys,J2,ht,hts,hJ2,rfl⟩
   obtain⟨_,⟨ty,J3,hGt,hty,hJ3,rfl⟩,hc2⟩:=hN J2 hJ2;unfold Zve;simp(disch:=first|exact zd|fail) [hi,hc2,ht,-getElem?_pos];refine⟨tys++[ty],J3,by simp[ht],?_,hJ3,by simp⟩;intro x hx;rcases ql.1 hx with hx|hx
   .exact hts x hx
   .simp only [qj] at hx
    exact hx▸⟨hGt,hty⟩
  .rintro s ⟨tys,J2,ht,hts,hJ2,rfl⟩
   have hcon:=Zrc (A:=A) dd.name tys (by omega);have hgz:(Ty.mk 4 dd.name 0 0 tys).size<=40:=by
    have hs:=Zfd fun x hx=>(hts x hx).2;have hm4:tys.length*5<=4*5:=qA _ (by omega);simp only[Ty.size,Ty.sizes_map];omega
   have hgs:tyS 0 (Ty.mk 4 dd.name 0 0 tys):=(Zi7 (by rw[ht];exact hfit.2.1) fun x hx=>(hts x hx).1).1;obtain⟨_,⟨x,J3,x1,x2,x3,rfl⟩,hx⟩:=ih ctx _ J2 (hctx.up (by omega)) hgs (by omega) hJ2;unfold Zve;rw[<-ht];simp(disch:=first|exact zd|fail) [hcon,ht,hx,-getElem?_pos];refine Zad (ArmA L ds ctx goal dd tys x (wD d) d) dd.cons.length ⟨[],J3,rfl,x3,by simp,by simp[ht]⟩ ?_ ?_
   .rintro i s hi ⟨arms,J4,harms,hJ4,hall,rfl⟩
    obtain⟨cc,hcc⟩:=Zaa hi;have hmem:=qa hcc;obtain⟨_,⟨f,b,f1,f2,rfl⟩,hf⟩:=ZvU (A:=A) (n:=0) (m:=5) (by omega) (by omega) ds hds cc.name ⟨dd,qa hdd,cc,hmem,rfl⟩ tys (by omega) (fun x hx=>⟨(hts x hx).1.1,(hts x hx).2⟩);unfold Zzn;simp(disch:=first|exact zd|fail) [hi,hcc,harms,hf,-getElem?_pos]
    refine Zad (VarA L ds ctx goal dd tys x arms cc.name f J4 d (1000-4*(d+1)) i) f.length ⟨[],ctx,rfl,rfl,hctx,by simp[harms]⟩ ?_ ?_
    .rintro j s hj ⟨vars,inner,hvars,hvn,hin,rfl⟩
     obtain⟨y,hy⟩:=Zaa hj;obtain⟨y1,y2⟩:=f2 y (qa hy);have hmo:=Zpa (A:=A) y;have hpu:=fun s=>ZlD (A:=A) inner s 0 y (by have:=hin.1;omega);have nxt:∀s∈ZbK,ctxOk (1000-4*(d+1)+(j+1)) 50000 (inner++[⟨s,0,y⟩]):=fun s hs=>hin.push (c:=0) (by omega) hs (by omega) y1 (by omega);unfold ZwC;have:j=0\/j=1:=(by omega);rcases this with rfl|rfl
     .have hjI:(0:Int)<f.length:=by omega
      have hnb:Zap (intV 0) 4=some 0:=rfl;have hnf:Zap (intV 0) f.length=some 0:=natBelow_cast (n:=0) (by omega);have hlit:([[.c (.str [120])],[.c (.str [121])],[.c (.str [122])],[.c (.str [119])]]:List (List W))[0]?=some [.c (.str [120])]:=rfl;simp(maxSteps:=4000000) (disch:=first|exact zd|fail) [hi,hj,hjI,hlit,hnb,hnf,hcc,hy,hmo,hpu,hvars,harms,-getElem?_pos]
      exact⟨vars++[[120]],inner++[⟨[120],0,y⟩],by simp[hvars],by rw[hvn];rfl,nxt [120] (by decide),by simp[harms]⟩
     .have hjI:(1:Int)<f.length:=by omega
      have hnb:Zap (intV 1) 4=some 1:=rfl;have hnf:Zap (intV 1) f.length=some 1:=natBelow_cast (n:=1) (by omega);have hlit:([[.c (.str [120])],[.c (.str [121])],[.c (.str [122])],[.c (.str [119])]]:List (List W))[1]?=some [.c (.str [121])]:=rfl;simp(maxSteps:=4000000) (disch:=first|exact zd|fail) [hi,hj,hjI,hlit,hnb,hnf,hcc,hy,hmo,hpu,hvars,harms,-getElem?_pos]
      exact⟨vars++[[121]],inner++[⟨[121],0,y⟩],by simp[hvars],by rw[hvn];rfl,nxt [121] (by decide),by simp[harms]⟩
    .rintro s ⟨vars,inner,hvars,hvn,hin,rfl⟩
     obtain⟨_,⟨y,J5,y1,y2,y3,rfl⟩,hty⟩:=ih inner goal J4 (hin.up (by omega)) hg (by omega) hJ4;unfold ZwC;simp(disch:=first|exact zd|fail) [hi,hcc,hty,hvars,harms,-getElem?_pos];refine⟨arms++[(⟨0,cc.name,vars⟩,y)],J5,by simp[harms],y3,?_,?_⟩
     .intro a ha
      rcases ql.1 ha with ha|ha
      .exact hall a ha
      .simp only [qj] at ha
       subst ha;exact⟨⟨rfl,.inr ⟨dd,qa hdd,cc,hmem,rfl⟩,by simp only;omega,by show vars.Nodup;rw[hvn];exact(List.take_sublist _ _).nodup (by decide),fun v hv=>(show ∀v∈xyzw,v∈ZbK by decide) v (qak (by rw[<-hvn];exact hv))⟩,y1,y2⟩
     .simp[harms,Exp.armRows_map,wr,Zaw]
   .rintro s ⟨arms,J4,harms,hJ4,hall,rfl⟩
    unfold Zzn;simp(disch:=first|exact zd|fail) [harms,-getElem?_pos];refine⟨.mk 8 0 [] 0 [x] arms tz,J4,?_,?_,hJ4,?_⟩
    .rw [ZjE]
     refine⟨?_,by simp[x1],fun a ha=>(hall a ha).2.1⟩;refine⟨rfl,fun a ha=>(hall a ha).1,by simp[Exp.ty,tz,Ty.size_leaf],⟨fun _=>rfl,fun h=>absurd (show(8:Int)=9 from h) (by decide)⟩,⟨fun _=>rfl,by show(0:Int)<=0;decide,by show(0:Int)<=999;decide⟩,?_⟩;have harm0:arms≠[]:=fun h=>by rw[h]at harms;simp at harms;omega
     simp[mkS,Exp.kind,Exp.name,Exp.kids,Exp.arms,harm0]
    .rw [Zbh]
     have h1:(arms.map fun a=>a.1.vars.length).sum<=(arms.map fun _=>4).sum:=Zgu fun a ha=>qu (hall a ha).1.2.2.1 (by decide);have h2:(arms.map fun a=>a.2.weight).sum<=(arms.map fun _=>wD d).sum:=Zgu fun a ha=>(hall a ha).2.2;simp only[List.map_const',List.sum_replicate_nat,harms]at h1 h2;simp only[qq,qX,qS,qaQ];have h3:dd.cons.length*wD d<=6*wD d:=qA _ hg3;omega
    .simp[expV,Exp.row,tz,Ty.kind,Ty.name,Ty.id,Ty.home,Ty.args]
variable {A:Zab}
theorem Zyd {ds:List DataD}{k:Int}{s:Str}(hk:(k=4/\s∈ZbK)\/(k=11/\s=[])){x:Exp}(hx:mkE ds x):mkE ds (.mk k 0 s 0 [x] [] tz):=by
 rw[ZjE];refine⟨?_,by simp[hx],by simp⟩;refine⟨rfl,by simp[Exp.arms],by simp[Exp.ty,tz,Ty.size_leaf],⟨fun _=>rfl,fun h=>absurd (show k=9 from h) (by omega)⟩,⟨fun _=>rfl,by show(0:Int)<=0;decide,by show(0:Int)<=999;decide⟩,?_⟩;rcases hk with ⟨rfl,hs⟩|⟨rfl,rfl⟩
 .simp[mkS,Exp.kind,Exp.name,Exp.kids,Exp.arms,hs]
 .simp[mkS,Exp.kind,Exp.name,Exp.kids,Exp.arms]
theorem mk_ann {ds:List DataD}{t:Ty}(ht:t.size<=1073741824)(htw:wrT t){x:Exp}(hx:mkE ds x):mkE ds (.mk 9 0 [] 0 [x] [] t):=by
 rw[ZjE];refine⟨?_,by simp[hx],by simp⟩;refine⟨rfl,by simp[Exp.arms],ht,⟨fun h=>absurd rfl h,fun _=>htw⟩,⟨fun _=>rfl,by show(0:Int)<=0;decide,by show(0:Int)<=999;decide⟩,?_⟩;simp[mkS,Exp.kind,Exp.name,Exp.kids,Exp.arms]
theorem ZgG (k:Int)(s:Str)(x:Exp)(t:Ty):(Exp.mk k 0 s 0 [x] [] t).weight=1+x.weight:=by
 rw[Zbh];simp
theorem Zu4 (k:Int)(s:Str)(x:Exp):(Exp.mk k 0 s 0 [x] [] tz).row=[.int .i64 k,.int .i64 0,.str s,.int .i64 0,.sl [x.row],.sl [],.int .i64 0,.str [],.int .i64 0,.int .i64 0,.sl []]:=by
 simp[Exp.row,tz,Ty.kind,Ty.name,Ty.id,Ty.home,Ty.args]
theorem ZAc (L:List Int)(ds:List DataD)(hL:L.length<=1073741824)(hds:fitDs ds):∀(d:Nat),d<=6->Zp7 A L ds d:=by
 intro d
 induction d with
 |zero=>
  intro _ ctx goal I hctx hg hgl hI;obtain⟨_,⟨e,J,g1,g2,g3,rfl⟩,hleaf⟩:=ZpE (A:=A) L ds hL (n:=1000) (by omega) ctx hctx goal (by omega) I hI;refine fnE v44 ?_;unfold v44;simp(disch:=first|exact zd|fail) [hleaf,-getElem?_pos];exact⟨e,J,g1,by simp only[wD];omega,g3,rfl⟩
 |succ d ih0=>
  intro hd ctx goal I hctx hg hgl hI;have ih:=ih0 (by omega);have hp:=Zma d;have h32:wD (d+1)=(7*wD d+25):=rfl;have hd1:¬(d:Int)+1<1:=by omega
  obtain⟨k9,J0,hk9,hJ0,hc9⟩:=ZbH (A:=A) L I 9 hI hL (by omega) (by omega);refine fnE v44 ?_;unfold v44;by_cases h90:k9=0
  .obtain ⟨_,⟨e,J,g1,g2,g3,rfl⟩,hleaf⟩:=ZpE (A:=A) L ds hL (n:=1000) (by omega) ctx (hctx.up (by omega)) goal (by omega) J0 hJ0
   subst h90;simp(disch:=first|exact zd|fail) [hd1,hc9,hleaf,-getElem?_pos];exact⟨e,J,g1,by omega,g3,rfl⟩
  .have h90':¬(k9:Int)=0:=by omega
   obtain⟨k,J1,hk,hJ1,hc⟩:=ZbH (A:=A) L J0 10 hJ0 hL (by omega) (by omega);have hw:∀e:Exp,e.weight<=wD d->1+e.weight<=wD (d+1):=fun e h=>by omega
   obtain⟨rh,hrh,hhead⟩:=Zx3 (A:=A) L ds hL hds d (by omega) ih ctx goal J1 hctx hg (by omega) hJ1;obtain⟨eh,Jh,q1,q2,q3,rfl⟩:=hrh;rcases ZdU (A:=A) goal with ⟨a,b,hab,har⟩|har
   .have ha:=hg.arg (x:=a) (by simp [hab])
    have hb:=hg.arg (x:=b) (by simp[hab]);have hsa:=Ty.arg_lt (t:=goal) (x:=a) (by simp[hab]);have hsb:=Ty.arg_lt (t:=goal) (x:=b) (by simp[hab]);by_cases h7:k<7
    .have h7':(k:Int)<7:=by omega
     obtain⟨s,J2,hs,hJ2,hcv⟩:=Zck (A:=A) L J1 hJ1 hL;have hmo:=Zpa (A:=A) a;have hpu:=ZlD (A:=A) ctx s 0 a (by have:=hctx.1;omega);obtain⟨_,⟨x,J3,x1,x2,x3,rfl⟩,hx⟩:=ih (ctx++[⟨s,0,a⟩]) b J2 (hctx.push (c:=0) (by omega) (Zb0 hs) (by omega) ha (by omega)) hb (by omega) hJ2;simp(disch:=first|exact zd|fail) [hd1,hc9,h90,h90',har,hc,h7',hcv,hmo,hpu,hx,-getElem?_pos]
     exact⟨_,J3,Zyd (.inl ⟨rfl,Zb0 hs⟩) x1,by rw[ZgG];exact hw _ x2,x3,by rw[expV,Zu4];rfl⟩
    .have h7':¬(k:Int)<7:=by omega
     have h2':¬(k:Int)<2:=(by omega);have e2:¬(k:Int)=2:=(by omega);have n2:¬k=2:=(by omega);have e3:¬(k:Int)=3:=(by omega);have n3:¬k=3:=(by omega);have e4:¬(k:Int)=4:=(by omega);have n4:¬k=4:=(by omega);have e5:¬(k:Int)=5:=(by omega);have n5:¬k=5:=(by omega);simp(maxSteps:=4000000) (disch:=first|exact zd|fail) [hd1,hc9,h90,h90',har,hc,h7',h2',e2,e3,e4,e5,n2,n3,n4,n5,hhead,-getElem?_pos]
     exact⟨eh,Jh,q1,q2,q3,rfl⟩
   .by_cases h2:k<2
    .have h2':(k:Int)<2:=by omega
     obtain⟨_,⟨t,J2,hGt,ht,hJ2,rfl⟩,hty⟩:∃r,Zn6 L 5 r/\(K A).call 45 [.sc (.ptr 0 0),Zar ds,.sc (.c (.sl [])),intV 1] [ZaK L J1]=some r:=ZkA (A:=A) L ds hL hds 1 J1 (by omega) hJ1;have harr:=ZiX (A:=A) t goal;have hS:tyS 0 (.mk 4 [45,62] 0 0 [t,goal]):=ZkC Zdm fun x hx=>by
      simp only[qz,qU,or_false]at hx;rcases hx with rfl|rfl
      .exact hGt.1
      .exact hg
     have hz:(Ty.mk 4 [45,62] 0 0 [t,goal]).size=1+(t.size+(goal.size+0)):=(by simp only[Ty.size,Ty.sizes]);obtain⟨_,⟨x,J3,x1,x2,x3,rfl⟩,hx⟩:=ih ctx _ J2 (hctx.up (by omega)) hS (by omega) hJ2;obtain⟨_,⟨y,J4,y1,y2,y3,rfl⟩,hy⟩:=ih ctx t J3 (hctx.up (by omega)) hGt.1 (by omega) x3;simp(maxSteps:=4000000) (disch:=first|exact zd|fail) [hd1,hc9,h90,h90',har,hc,h2',hty,harr,hx,hy,-getElem?_pos]
     exact⟨_,J4,Zuv x1 y1,by rw[ZgR];omega,y3,by rw[expV,ZnV];rfl⟩
    .have h2':¬(k:Int)<2:=by omega
     by_cases e2:k=2
     .obtain ⟨_,⟨e,J,g1,g2,g3,rfl⟩,hlet⟩:=let86 (A:=A) L ds hL hds d (by omega) ih ctx goal J1 hctx hg hgl hJ1
      subst e2;simp(disch:=first|exact zd|fail) [hd1,hc9,h90,h90',har,hc,hlet,-getElem?_pos];exact⟨e,J,g1,g2,g3,rfl⟩
     .have e2':¬(k:Int)=2:=by omega
      by_cases e3:k=3
      .obtain ⟨_,⟨e,J,g1,g2,g3,rfl⟩,hana⟩:=Zqn (A:=A) L ds hL hds d (by omega) ih ctx goal J1 hctx hg hgl hJ1
       subst e3;simp(disch:=first|exact zd|fail) [hd1,hc9,h90,h90',har,hc,hana,-getElem?_pos];exact⟨e,J,g1,g2,g3,rfl⟩
      .have e3':¬(k:Int)=3:=by omega
       obtain⟨_,⟨x,J2,x1,x2,x3,rfl⟩,hx⟩:=ih ctx goal J1 (hctx.up (by omega)) hg (by omega) hJ1;by_cases e4:k=4
       .subst e4
        obtain⟨_,⟨p,hp3,rfl⟩,hc1⟩:=Zj2 (A:=A) 3 goal (by omega);obtain⟨_,⟨q,_,rfl⟩,hc2⟩:=Zj2 (A:=A) 1 goal (by omega);cases p with
        |true=>
         simp(maxSteps:=4000000) (disch:=first|exact zd|fail) [hd1,hc9,h90,h90',har,hc,hc1,hc2,hhead,-getElem?_pos];exact⟨eh,Jh,q1,q2,q3,rfl⟩
        |false=>
         cases q with
         |true=>
          simp(maxSteps:=4000000) (disch:=first|exact zd|fail) [hd1,hc9,h90,h90',har,hc,hc1,hc2,hhead,-getElem?_pos];exact⟨eh,Jh,q1,q2,q3,rfl⟩
         |false=>
          simp(maxSteps:=4000000) (disch:=first|exact zd|fail) [hd1,hc9,h90,h90',har,hc,hc1,hc2,hx,-getElem?_pos];exact⟨_,J2,mk_ann (t:=goal) (by omega) ⟨hg,hp3 rfl⟩ x1,by rw[ZgG];exact hw _ x2,x3,by simp[expV,Exp.row,Ty.row_eq]⟩
       .have e4':¬(k:Int)=4:=by omega
        by_cases e5:k=5
        .subst e5
         simp(maxSteps:=4000000) (disch:=first|exact zd|fail) [hd1,hc9,h90,h90',har,hc,hx,-getElem?_pos];exact⟨_,J2,Zyd (.inr ⟨rfl,rfl⟩) x1,by rw[ZgG];exact hw _ x2,x3,by rw[expV,Zu4];rfl⟩
        .have e5':¬(k:Int)=5:=by omega
         simp(maxSteps:=4000000) (disch:=first|exact zd|fail) [hd1,hc9,h90,h90',har,hc,h2',e2',e3',e4',e5',e2,e3,e4,e5,hhead,-getElem?_pos];exact⟨eh,Jh,q1,q2,q3,rfl⟩
variable {A:Zab}
def Zd3 (ds:List DataD)(e:Exp):Prop:=rawE1 ds e/\annT e/\numB e/\(e.kind=8->e.arms≠[])/\∀a∈e.arms,a.1.vars.length<=2
def rawN (ds:List DataD)(e:Exp):Prop:=e.fold fun e l=>Zd3 ds e/\∀p∈l,p
theorem ZmZ (ds:List DataD)(e:Exp):rawN ds e=(Zd3 ds e/\∀x∈e.children,rawN ds x):=by
 have:=Exp.fold_eq (fun e (l:List Prop)=>Zd3 ds e/\∀p∈l,p) e;unfold rawN;rw[this];simp only[qO]
theorem ZdH (ds:List DataD) (k p n m ks l t):rawN ds (Exp.mk k p n m ks l t)=(Zd3 ds (Exp.mk k p n m ks l t)/\(∀x∈ks,rawN ds x)/\∀a∈l,rawN ds a.2):=by
 rw[ZmZ];simp only[Exp.kids,Exp.arms,Exp.children,ql,qH];apply propext;constructor
 .rintro ⟨h1,h2⟩
  exact⟨h1,fun x hx=>h2 x (.inl hx),fun a ha=>h2 a.2 (.inr ⟨a,ha,rfl⟩)⟩
 .rintro ⟨h1,h2,h3⟩
  refine⟨h1,?_⟩;rintro x (hx|⟨a,ha,rfl⟩)
  .exact h2 x hx
  .exact h3 a ha
theorem rawN.one {ds:List DataD}{e:Exp}(h:rawN ds e):Zd3 ds e:=by rw[ZmZ]at h;exact h.1
theorem rawN.child {ds:List DataD}{e x:Exp}(h:rawN ds e)(hx:x∈e.children):rawN ds x:=by rw[ZmZ]at h;exact h.2 x hx
theorem rawN.mkE {ds:List DataD}{e:Exp}:rawN ds e->(e.fold fun e l=>(∀a∈e.arms,a.1.vars.Nodup)/\∀p∈l,p)->mkE ds e:=by
 induction e using Exp.ind with
 |h e ih=>
  intro h hp;rw[Exp.fold_eq]at hp;simp only[qO]at hp;rw[Zpe];refine⟨?_,fun x hx=>ih x hx (h.child hx) (hp.2 x hx)⟩;obtain⟨⟨h1,h2,h3,h4,h5,h6⟩,h7,h8,h9,h10⟩:=h.one;refine⟨h1,fun a ha=>?_,qu h3 (by decide),h7,h8,?_⟩
  .obtain ⟨g1,g2,g3,g4⟩:=h2 a ha
   exact⟨g1,g2,h10 a ha,hp.1 a ha,fun v hv=>Zb0 (g4 v hv)⟩
  .rcases h6 with h|h|h|h|h|h|h|h
   .exact .inl ⟨h.1,Zb0 h.2.1,h.2.2⟩
   .exact .inr (.inl h)
   .exact .inr (.inr (.inl h))
   .exact .inr (.inr (.inr (.inl ⟨h.1,Zb0 h.2.1,h.2.2⟩)))
   .exact .inr (.inr (.inr (.inr (.inl h))))
   .exact .inr (.inr (.inr (.inr (.inr (.inl ⟨h.1,Zb0 h.2.1,h.2.2⟩)))))
   .exact .inr (.inr (.inr (.inr (.inr (.inr (.inl h))))))
   .exact .inr (.inr (.inr (.inr (.inr (.inr (.inr ⟨h.1,h.2.1,h.2.2,h9 h.1⟩))))))
def RawN (L:List Int)(ds:List DataD)(B:Nat)(r:V×List Obj):Prop:=∃e J,rawN ds e/\e.weight<=B/\J<=L.length/\r=(expV e,[ZaK L J])
def ArmN (L:List Int)(ds:List DataD)(dd:DataD)(x:Exp)(B d i:Nat)(s:St):Prop:=∃arms J,arms.length=i/\J<=L.length/\(∀a∈arms,armE ds a/\rawN ds a.2/\a.2.weight<=B/\a.1.vars.length<=2)/\
 s=⟨[(0,.sc (.ptr 0 0)),(1,Zar ds),(2,intV (d+1)),(6,.sc (.ptr 64 0)),(13,.sc (.ptr 10176 0)),(14,.sc (.ptr 10752 0)),(15,intV i)],
  [(0,some (ZaK L J)),(64,some (.box [zi,zi,zs,zi,.nil,.nil,zi,zs,zi,zi,.nil])),(10176,some (.box (wc (ZaF dd)))),(10624,some (.arr 11 [wc x.row] 0)),
    (10752,some (.box [.c (.int .i64 8),zi,zs,zi,.arr 10624 1,.arr 10822 i,zi,zs,zi,zi,.nil])),(10822,some (.arr 14 (wr (Exp.armRows arms)) 0))]⟩
theorem raw43N (L:List Int)(ds:List DataD)(hL:L.length<=1073741824)(hfd:fitDs ds)(h2:ZoX ds):∀(d I:Nat),d<=4->I<=L.length->
 ∃r,RawN L ds (wS d) r/\(K A).call 43 [.sc (.ptr 0 0),Zar ds,intV d] [ZaK L I]=some r:=by
 intro d;have hds:=hfd.good
 induction d using Nat.strongRecOn with
 |ind d ih=>
 intro I hd hI;obtain⟨k,J,hk,hJ,hc⟩:=ZbH (A:=A) L I 14 hI hL (by omega) (by omega);refine fnE v43 ?_;have hp:1<=wS d:=Zyc d;have hds1:=hds.1;obtain⟨c,hc14,hcd,hcs⟩:∃c:Nat,c<14/\(d=0->c<5)/\((d=0/\(k:Int).tmod 5=c)\/(d≠0/\k=c)):=by
  by_cases h:d=0
  .refine⟨k % 5,by omega,fun _=>by omega,.inl ⟨h,rfl⟩⟩
  .exact⟨k,by omega,fun h'=>absurd h' h,.inr ⟨h,rfl⟩⟩
 unfold v43;refine Zeh ⟨[(0,.sc (.ptr 0 0)),(1,Zar ds),(2,intV d),(6,.sc (.ptr 64 0))],[(0,some (ZaK L I)),(64,some (.box [zi,zi,zs,zi,.nil,.nil,zi,zs,zi,zi,.nil]))]⟩ (by simp) ?_;refine Zeh ⟨[(0,.sc (.ptr 0 0)),(1,Zar ds),(2,intV d),(6,.sc (.ptr 64 0)),(7,intV k)],[(0,some (ZaK L J)),(64,some (.box [zi,zi,zs,zi,.nil,.nil,zi,zs,zi,zi,.nil]))]⟩ (by simp[hc]) ?_
 refine Zzq (fun s=>s=⟨[(0,.sc (.ptr 0 0)),(1,Zar ds),(2,intV d),(6,.sc (.ptr 64 0)),(7,intV c)],[(0,some (ZaK L J)),(64,some (.box [zi,zi,zs,zi,.nil,.nil,zi,zs,zi,zi,.nil]))]⟩\/
  s=⟨[(0,.sc (.ptr 0 0)),(1,Zar ds),(2,intV d),(6,.sc (.ptr 64 0)),(7,intV c),(21,Zae false)],[(0,some (ZaK L J)),(64,some (.box [zi,zi,zs,zi,.nil,.nil,zi,zs,zi,zi,.nil]))]⟩) ?_ ?_
 .rcases hcs with ⟨h0,h1⟩|⟨h0,rfl⟩
  .subst h0
   simp(disch:=first|exact zd|fail) [h1]
  .have h0':¬(d:Int)<1:=by omega
   simp(disch:=first|exact zd|fail) [h0']
 .intro s hs
  refine ZuD ⟨[(0,.sc (.ptr 0 0)),(1,Zar ds),(2,intV d),(6,.sc (.ptr 64 0)),(24,intV c)],[(0,some (ZaK L J)),(64,some (.box [zi,zi,zs,zi,.nil,.nil,zi,zs,zi,zi,.nil]))]⟩ (by rcases hs with rfl | rfl<;>simp) ?_;clear hs s hcs hc hk;have leaf:∀(kind num:Int) (name:Str) (J:Nat),J<=L.length->Zd3 ds (.mk kind 0 name num [] [] tz)->RawN L ds (wS d) (expV (.mk kind 0 name num [] [] tz),[ZaK L J]):=by
   intro kind num name J hJ h8;refine⟨_,J,?_,?_,hJ,rfl⟩
   .rw [ZdH]
    exact⟨h8,by simp,by simp⟩
   .rw [Zbh]
    simpa using hp
  by_cases h5:c<5
  .have:c=0\/c=1\/c=2\/c=3\/c=4:=by omega
   rcases this with rfl|rfl|rfl|rfl|rfl
   .obtain ⟨s,J1,hs,hJ1,hc1⟩:=Zck (A:=A) L J hJ hL
    simp(disch:=first|exact zd|fail) [hc1];exact leaf 1 0 s J1 hJ1 (by simp[Zd3,rawE1,rawS,annT,numB,Exp.kind,Exp.pos,Exp.name,Exp.num,Exp.kids,Exp.arms,Exp.ty,hs])
   .obtain ⟨s,J1,hs,hJ1,hc1⟩:=Zck (A:=A) L J hJ hL
    simp(disch:=first|exact zd|fail) [hc1];exact leaf 1 0 s J1 hJ1 (by simp[Zd3,rawE1,rawS,annT,numB,Exp.kind,Exp.pos,Exp.name,Exp.num,Exp.kids,Exp.arms,Exp.ty,hs])
   .obtain ⟨n,J1,hn4,hJ1,hc1⟩:=ZbH (A:=A) L J 4 hJ hL (by omega) (by omega)
    simp(disch:=first|exact zd|fail) [hc1];exact leaf 3 n [] J1 hJ1 (by simp[Zd3,rawE1,rawS,annT,numB,Exp.kind,Exp.pos,Exp.name,Exp.num,Exp.kids,Exp.arms,Exp.ty];omega)
   .by_cases hz:ds=[]
    .subst hz
     have hz2:Zax []=[]:=rfl;simp(disch:=first|exact zd|fail) [hz2];exact leaf 2 0 [71,111,110,101] J hJ (by simp[Zd3,rawE1,rawS,annT,numB,Exp.kind,Exp.pos,Exp.name,Exp.num,Exp.kids,Exp.arms,Exp.ty,cOk])
    .have hpos:0<ds.length:=qae.2 hz
     obtain⟨m,J1,hm,hJ1,hc1⟩:=ZbH (A:=A) L J ds.length hJ hL (by omega) (by omega);obtain⟨dd,hdd⟩:=Zaa (l:=ds) (i:=m) (by omega);have hgood:=hds.2 dd (qa hdd);obtain⟨q,J2,hq,hJ2,hc2⟩:=ZbH (A:=A) L J1 dd.cons.length hJ1 hL (by have:=hgood.2.1;omega) (by have:=hgood.2.2.1;omega);obtain⟨cc,hcc⟩:=Zaa (l:=dd.cons) (i:=q) (by omega);simp(disch:=first|exact zd|fail) [hpos,hc1,hdd,hc2,hcc,-getElem?_pos]
     have hcok:cOk ds cc.name:=.inr ⟨dd,qa hdd,cc,qa hcc,rfl⟩;exact leaf 2 0 cc.name J2 hJ2 (by simp[Zd3,rawE1,rawS,annT,numB,Exp.kind,Exp.pos,Exp.name,Exp.num,Exp.kids,Exp.arms,Exp.ty,hcok])
   .simp (disch:=first|exact zd|fail)
    exact leaf 10 0 [] J hJ (by simp[Zd3,rawE1,rawS,annT,numB,Exp.kind,Exp.pos,Exp.name,Exp.num,Exp.kids,Exp.arms,Exp.ty])
  .obtain ⟨d',rfl⟩:∃ d',d=d'+1:=⟨d-1,by omega⟩
   have ih1:∀I,I<=L.length->∃r,RawN L ds (wS d') r/\(K A).call 43 [.sc (.ptr 0 0),Zar ds,intV d'] [ZaK L I]=some r:=fun I hI=>ih d' (by omega) I (by omega) hI;have hp':=Zyc d';have h32:wS (d'+1)=3*wS d'+5:=rfl;rw[h32];have:c=5\/c=6\/c=7\/c=8\/c=9\/c=10\/c=11\/c=12\/c=13:=(by omega);rcases this with rfl|rfl|rfl|rfl|rfl|rfl|rfl|rfl|rfl
   .obtain ⟨s,J1,hs,hJ1,hc1⟩:=Zck (A:=A) L J hJ hL
    obtain⟨_,⟨x,J2,hx,hxw,hJ2,rfl⟩,hc2⟩:=ih1 J1 hJ1;simp(disch:=first|exact zd|fail) [hc1,hc2];refine⟨.mk 4 0 s 0 [x] [] tz,J2,by rw[ZdH];simp[Zd3,rawE1,rawS,annT,numB,Exp.kind,Exp.pos,Exp.name,Exp.num,Exp.kids,Exp.arms,Exp.ty,hx,hs],by rw[Zbh];simp;omega,hJ2,?_⟩;simp[expV,Exp.row,tz,Ty.kind,Ty.name,Ty.id,Ty.home,Ty.args]
   .obtain ⟨s,J1,hs,hJ1,hc1⟩:=Zck (A:=A) L J hJ hL
    obtain⟨_,⟨x,J2,hx,hxw,hJ2,rfl⟩,hc2⟩:=ih1 J1 hJ1;simp(disch:=first|exact zd|fail) [hc1,hc2];refine⟨.mk 4 0 s 0 [x] [] tz,J2,by rw[ZdH];simp[Zd3,rawE1,rawS,annT,numB,Exp.kind,Exp.pos,Exp.name,Exp.num,Exp.kids,Exp.arms,Exp.ty,hx,hs],by rw[Zbh];simp;omega,hJ2,?_⟩;simp[expV,Exp.row,tz,Ty.kind,Ty.name,Ty.id,Ty.home,Ty.args]
   .obtain ⟨_,⟨x,J1,hx,hxw,hJ1,rfl⟩,hc1⟩:=ih1 J hJ
    obtain⟨_,⟨y,J2,hy,hyw,hJ2,rfl⟩,hc2⟩:=ih1 J1 hJ1;simp(disch:=first|exact zd|fail) [hc1,hc2];refine⟨.mk 5 0 [] 0 [x,y] [] tz,J2,by rw[ZdH];simp[Zd3,rawE1,rawS,annT,numB,Exp.kind,Exp.pos,Exp.name,Exp.num,Exp.kids,Exp.arms,Exp.ty,hx,hy],by rw[Zbh];simp;omega,hJ2,?_⟩;simp[expV,Exp.row,tz,Ty.kind,Ty.name,Ty.id,Ty.home,Ty.args]
   .obtain ⟨_,⟨x,J1,hx,hxw,hJ1,rfl⟩,hc1⟩:=ih1 J hJ
    obtain⟨_,⟨y,J2,hy,hyw,hJ2,rfl⟩,hc2⟩:=ih1 J1 hJ1;simp(disch:=first|exact zd|fail) [hc1,hc2];refine⟨.mk 5 0 [] 0 [x,y] [] tz,J2,by rw[ZdH];simp[Zd3,rawE1,rawS,annT,numB,Exp.kind,Exp.pos,Exp.name,Exp.num,Exp.kids,Exp.arms,Exp.ty,hx,hy],by rw[Zbh];simp;omega,hJ2,?_⟩;simp[expV,Exp.row,tz,Ty.kind,Ty.name,Ty.id,Ty.home,Ty.args]
   .obtain ⟨_,⟨x,J1,hx,hxw,hJ1,rfl⟩,hc1⟩:=ih1 J hJ
    obtain⟨_,⟨y,J2,hy,hyw,hJ2,rfl⟩,hc2⟩:=ih1 J1 hJ1;simp(disch:=first|exact zd|fail) [hc1,hc2];refine⟨.mk 5 0 [] 0 [x,y] [] tz,J2,by rw[ZdH];simp[Zd3,rawE1,rawS,annT,numB,Exp.kind,Exp.pos,Exp.name,Exp.num,Exp.kids,Exp.arms,Exp.ty,hx,hy],by rw[Zbh];simp;omega,hJ2,?_⟩;simp[expV,Exp.row,tz,Ty.kind,Ty.name,Ty.id,Ty.home,Ty.args]
   .obtain ⟨n,J0,hn,hJ0,hc0⟩:=ZbH (A:=A) L J 2 hJ hL (by omega) (by omega)
    obtain⟨s,J1,hs,hJ1,hc1⟩:=Zck (A:=A) L J0 hJ0 hL;obtain⟨_,⟨x,J2,hx,hxw,hJ2,rfl⟩,hc2⟩:=ih1 J1 hJ1;obtain⟨_,⟨y,J3,hy,hyw,hJ3,rfl⟩,hc3⟩:=ih1 J2 hJ2;simp(maxSteps:=4000000) (disch:=first|exact zd|fail) [hc0,hc1,hc2,hc3];have h67:∀k:Int,k=6\/k=7->rawN ds (.mk k 0 s 0 [x,y] [] tz):=fun k hk=>by
     rw[ZdH];rcases hk with rfl|rfl<;>simp[Zd3,rawE1,rawS,annT,numB,Exp.kind,Exp.pos,Exp.name,Exp.num,Exp.kids,Exp.arms,Exp.ty,hx,hy,hs]
    refine⟨.mk (6+n) 0 s 0 [x,y] [] tz,J3,h67 _ (by omega),by rw[Zbh];simp;omega,hJ3,?_⟩;simp[expV,Exp.row,tz,Ty.kind,Ty.name,Ty.id,Ty.home,Ty.args]
   .obtain ⟨_,⟨x,J1,hx,hxw,hJ1,rfl⟩,hc1⟩:=ih1 J hJ
    obtain⟨_,⟨ty,J2,htyW,hty,hJ2,rfl⟩,hc2⟩:=Ztj (A:=A) L ds hL hfd 2 J1 (by omega) hJ1;have hwr:=htyW.wr;simp at hc2;simp(disch:=first|exact zd|fail) [hc1,hc2];have hty':ty.size<=46656:=(by omega);refine⟨.mk 9 0 [] 0 [x] [] ty,J2,by rw[ZdH];simp[Zd3,rawE1,rawS,annT,numB,Exp.kind,Exp.pos,Exp.name,Exp.num,Exp.kids,Exp.arms,Exp.ty,hx,hty',hwr],by rw[Zbh];simp;omega,hJ2,?_⟩;simp[expV,Exp.row,Ty.row_eq]
   .obtain ⟨_,⟨x,J1,hx,hxw,hJ1,rfl⟩,hc1⟩:=ih1 J hJ
    simp(disch:=first|exact zd|fail) [hc1];refine⟨.mk 11 0 [] 0 [x] [] tz,J1,by rw[ZdH];simp[Zd3,rawE1,rawS,annT,numB,Exp.kind,Exp.pos,Exp.name,Exp.num,Exp.kids,Exp.arms,Exp.ty,hx],by rw[Zbh];simp;omega,hJ1,?_⟩;simp[expV,Exp.row,tz,Ty.kind,Ty.name,Ty.id,Ty.home,Ty.args]
   .by_cases hz:ds=[]
    .subst hz
     have hz2:Zax []=[]:=rfl;obtain⟨_,⟨x,J1,hx,hxw,hJ1,rfl⟩,hc1⟩:=ih1 J hJ;simp[Zar,hz2]at hc1;simp(disch:=first|exact zd|fail) [Zar,hz2,hc1];exact⟨x,J1,hx,by omega,hJ1,rfl⟩
    .have hpos:ds.length≠0:=by have:=qae.2 hz;omega
     obtain⟨m,J1,hm,hJ1,hc1⟩:=ZbH (A:=A) L J ds.length hJ hL (by omega) (by omega);obtain⟨dd,hdd⟩:=Zaa (l:=ds) (i:=m) (by omega);have hgood:=hds.2 dd (qa hdd);obtain⟨hg1,hg2,hg3,hg4⟩:=hgood;obtain⟨hs1,hs2⟩:=h2 dd (qa hdd);obtain⟨_,⟨x,J2,hx,hxw,hJ2,rfl⟩,hc2⟩:=ih1 J1 hJ1;simp(disch:=first|exact zd|fail) [hz,hc1,hdd,hc2,-getElem?_pos]
     refine Zad (ArmN L ds dd x (wS d') d') dd.cons.length ⟨[],J2,rfl,hJ2,by simp,by simp⟩ ?_ ?_
     .rintro i s hi ⟨arms,J3,harms,hJ3,hall,rfl⟩
      obtain⟨cc,hcc⟩:=Zaa hi;have hfl:=hg4 cc (qa hcc);have hfl2:=hs2 cc (qa hcc);unfold Zzl;simp(disch:=first|exact zd|fail) [hi,hcc,harms,-getElem?_pos];refine Zad (VarQ L ds dd x arms cc.name d' i) cc.fields.length ⟨[],J3,rfl,by simp,hJ3,by simp[harms]⟩ ?_ ?_
      .rintro j s hj ⟨vars,J4,hvars,hvn,hJ4,rfl⟩
       obtain⟨v,J5,hv,hJ5,hc5⟩:=Zck (A:=A) L J4 hJ4 hL;unfold ZwY;simp(disch:=first|exact zd|fail) [hi,hj,hcc,hc5,hvars,harms,-getElem?_pos];refine⟨vars++[v],J5,by simp[hvars],?_,hJ5,by simp[harms]⟩;intro u hu;rcases ql.1 hu with hu|hu
       .exact hvn u hu
       .simp only [qj] at hu
        exact hu▸hv
      .rintro s ⟨vars,J4,hvars,hvn,hJ4,rfl⟩
       obtain⟨_,⟨y,J5,hy,hyw,hJ5,rfl⟩,hc5⟩:=ih1 J4 hJ4;unfold ZwY;simp(disch:=first|exact zd|fail) [hi,hcc,hc5,hvars,harms,-getElem?_pos];refine⟨arms++[(⟨0,cc.name,vars⟩,y)],J5,by simp[harms],hJ5,?_,?_⟩
       .intro a ha
        rcases ql.1 ha with ha|ha
        .exact hall a ha
        .simp only [qj] at ha
         subst ha;exact⟨⟨rfl,.inr ⟨dd,qa hdd,cc,qa hcc,rfl⟩,by simp only;omega,hvn⟩,hy,hyw,by simp only;omega⟩
       .simp[harms,Exp.armRows_map,wr,Zaw]
     .rintro s ⟨arms,J3,harms,hJ3,hall,rfl⟩
      unfold Zzl;simp(disch:=first|exact zd|fail) [harms,-getElem?_pos];refine⟨.mk 8 0 [] 0 [x] arms tz,J3,?_,?_,hJ3,?_⟩
      .rw [ZdH]
       refine⟨?_,by simp[hx],fun a ha=>(hall a ha).2.1⟩;have harm0:arms≠[]:=fun h=>by rw[h]at harms;simp at harms;omega
       refine⟨⟨rfl,fun a ha=>(hall a ha).1,tz_size,fun _=>rfl,fun _=>rfl,?_⟩,⟨fun _=>rfl,fun h=>absurd (show(8:Int)=9 from h) (by decide)⟩,⟨fun _=>rfl,by show(0:Int)<=0;decide,by show(0:Int)<=999;decide⟩,fun _=>harm0,fun a ha=>(hall a ha).2.2.2⟩;simp[rawS,Exp.kind,Exp.name,Exp.kids,Exp.arms]
      .rw [Zbh]
       have h1:(arms.map fun a=>a.1.vars.length).sum<=(arms.map fun _=>2).sum:=Zgu fun a ha=>(hall a ha).2.2.2;have h2:(arms.map fun a=>a.2.weight).sum<=(arms.map fun _=>wS d').sum:=Zgu fun a ha=>(hall a ha).2.2.1;simp only[List.map_const',List.sum_replicate_nat,harms]at h1 h2;simp only[qq,qX,qS,qaQ];have h3:dd.cons.length*wS d'<=2*wS d':=qA _ hs1;omega
      .simp[expV,Exp.row,tz,Ty.kind,Ty.name,Ty.id,Ty.home,Ty.args]
variable {A:Zab}
theorem Zwq (e:Exp):e.weight<=1073741824->∃r,ImpB (properP e) r/\(K A).call 14 [expV e] []=some r:=by
 induction e using Exp.ind with
 |h e ih=>
 intro hl;refine fnE v14 ?_;have hle:=e.children_le;rw[e.children_len]at hle;have hc:=ZbS (A:=A) e (by omega);have no:ImpB (properP e) (Zae false,[]):=⟨false,(by simp),rfl⟩;have yes:(∀a∈e.arms,inj a.1.vars)->(∀x∈e.children,properP x)->ImpB (properP e) (Zae true,[]):=fun h1 h2=>⟨true,fun _=>by rw[ZbC];exact⟨h1,h2⟩,rfl⟩;generalize properP e=P at no yes |-;unfold v14;simp(disch:=first|exact zd|fail)
 refine Zad (fun i s=>(∀(j:Nat) a,j<i->e.arms[j]?=some a->inj a.1.vars)/\s=⟨[(1,.sc (.ptr 64 0)),(3,intV i)],[(64,some (.box (wc e.row)))]⟩) e.arms.length ⟨by omega,by simp⟩ ?_ ?_
 .rintro i s hi ⟨hJ,rfl⟩
  obtain⟨a,ha⟩:=Zaa hi;have hv:=Exp.vars_le (qa ha);unfold Zwg;simp(disch:=first|exact zd|fail) [hi,ha,-getElem?_pos];refine Zad (fun k s=>(∀(p q:Nat) u,q<k->p<q->a.1.vars[p]?=some u->a.1.vars[q]?=some u->False)/\s=⟨[(1,.sc (.ptr 64 0)),(3,intV i),(4,Za3 a.1.vars),(5,intV k)],[(64,some (.box (wc e.row)))]⟩) a.1.vars.length ⟨fun p q u h=>by omega,by simp⟩ ?_ ?_
  .rintro k s hk ⟨hK,rfl⟩
   obtain⟨x,hx⟩:=Zaa hk;unfold ZrA;simp(disch:=first|exact zd|fail) [hi,ha,hk,-getElem?_pos];refine Zad (fun j s=>(∀(p:Nat),p<j->a.1.vars[p]?≠some x)/\s=⟨[(1,.sc (.ptr 64 0)),(3,intV i),(4,Za3 a.1.vars),(5,intV k),(6,intV j)],[(64,some (.box (wc e.row)))]⟩) k ⟨fun p h=>by omega,by simp⟩ ?_ ?_
   .rintro j s hj ⟨hQ,rfl⟩
    obtain⟨y,hy⟩:=Zaa (l:=a.1.vars) (i:=j) (by omega);unfold Zq8;by_cases hxy:y=x
    .simp (disch:=first|exact zd|fail) [hj,hx,hy,hxy,-getElem?_pos]
     exact no
    .have hQ':∀(p:Nat),p<j+1->a.1.vars[p]?≠some x:=by
      intro p hp;rcases qba (Nat.le_of_lt_succ hp)with h|rfl
      .exact hQ p h
      .rw [hy]
       exact fun q=>hxy (qaL q)
     simp(disch:=first|exact zd|fail) [hj,hx,hy,hxy,-getElem?_pos];simpa using hQ'
   .rintro s ⟨hQ,rfl⟩
    have hK':∀(p q:Nat) u,q<k+1->p<q->a.1.vars[p]?=some u->a.1.vars[q]?=some u->False:=by
     intro p q u hq hpq h1 h2;rcases qba (Nat.le_of_lt_succ hq)with h|rfl
     .exact hK p q u h hpq h1 h2
     .rw [hx] at h2
      cases h2;exact hQ p hpq h1
    unfold Zq8;simp(disch:=first|exact zd|fail);exact hK'
  .rintro s ⟨hK,rfl⟩
   have hJ':∀(j:Nat) b,j<i+1->e.arms[j]?=some b->inj b.1.vars:=by
    intro j b hj hb;rcases qba (Nat.le_of_lt_succ hj)with h|rfl
    .exact hJ j b h hb
    .rw [ha] at hb
     cases hb;intro p q u hp hq;rcases Nat.lt_trichotomy p q with h|h|h
     .exact(hK p q u (qd.1 hq).1 h hp hq).elim
     .exact h
     .exact(hK q p u (qd.1 hp).1 h hq hp).elim
   unfold ZrA;simp(disch:=first|exact zd|fail);intro j b1 b2 hj hb;exact hJ' j (b1,b2) hj hb
 .rintro s ⟨hJ,rfl⟩
  have hA:∀a∈e.arms,inj a.1.vars:=fun a ha=>by
   obtain⟨j,hj⟩:=qk.1 ha;exact hJ j a (qd.1 hj).1 hj
  unfold Zwg;simp(disch:=first|exact zd|fail) [hc];refine Zad (fun i s=>(∀(j:Nat) x,j<i->e.children[j]?=some x->properP x)/\s=⟨[(7,.sc (.arr 2912 e.children.length)),(8,intV i)],[(2912,some (.arr 11 (wr (Exp.rows e.children)) 0))]⟩) e.children.length ⟨by omega,by simp⟩ ?_ ?_
  .rintro i s hi ⟨hX,rfl⟩
   obtain⟨x,hx⟩:=Zaa hi;have hmem:=qa hx;obtain⟨_,⟨b,hb,rfl⟩,h17⟩:=ih x hmem (by have:=Exp.child_lt hmem;omega);rw[e.children_len]at hi;have hi':(i:Int)<(e.kids.length:Int)+e.arms.length:=(by omega);unfold ZzC;cases b with
   |true=>
    simp(disch:=first|exact zd|fail) [hi',hx,h17,-getElem?_pos];intro j y hj hy;rcases qba (Nat.le_of_lt_succ hj)with h|rfl
    .exact hX j y h hy
    .rw [hx] at hy
     cases hy;exact hb rfl
   |false=>
    simp(disch:=first|exact zd|fail) [hi',hx,h17,-getElem?_pos];exact no
  .rintro s ⟨hX,rfl⟩
   unfold ZzC;simp(disch:=first|exact zd|fail);exact yes hA fun x hx=>by
    obtain⟨j,hj⟩:=qk.1 hx;exact hX j x (qd.1 hj).1 hj
theorem Zls:∀{l:List Str},inj l->l.Nodup
 |[],_=>List.nodup_nil
 |a::r,h=>by
  refine qbd.2 ⟨fun hm=>?_,Zls fun i j s hi hj=>?_⟩
  .obtain ⟨j,hj⟩:=qk.1 hm
   have:=h 0 (j+1) a rfl (by simpa using hj);omega
  .have:=h (i+1) (j+1) s (by simpa using hi) (by simpa using hj)
   omega
theorem ZmM (e:Exp):properP e->e.fold fun e l=>(∀a∈e.arms,a.1.vars.Nodup)/\∀p∈l,p:=by
 induction e using Exp.ind with
 |h e ih=>
  intro h;rw[Exp.fold_eq];refine⟨fun a ha=>Zls (h.one a ha),fun p hp=>?_⟩;obtain⟨x,hx,rfl⟩:=qH.1 hp;exact ih x hx (h.child hx)
theorem step17 (u:List (List Cell))(e:Exp)(h:StE e)(hw:e.weight<=6000):(K A).call 17 [.sc (.c (.sl u)),expV e] []=some (Zdl e (ZaO refP ZaB Zcb e.weight e)):=by
 obtain⟨x,m,b,hc,hb⟩:=ZpI (A:=A) e.weight e (qe _) h.ok h.lf h.rz hw;have hsm:=ZgN e.weight e h.ok h.rz;refine fnO v17 ?_;rcases hb with ⟨rfl,m',rfl,hs⟩|⟨rfl,hs⟩
 .rw [hs] at hsm
  cases hp:ZaO subP Zav ZaR e.weight e with
  |none=>rw[hp]at hsm;exact hsm.elim
  |some p=>
   rw[hp]at hsm;have hx:=Zfg _ e _ (qe _) h.ok h.lf hw hp;have hwx:=sameP.weight _ _ hsm.1;have hok:=Zpn _ _ hsm.1 (Zgr (fun e f he hk hf=>Zc0 he hk hf) _ e _ h.ok hp);have hst:=ZBo (A:=A) x (by
    have h1:=hx.2;have h2:e.weight*(2*e.weight+1)<=6000*(2*6000+1):=qaR hw (by omega);simp only at h1 hwx;omega)
   rw[hs];unfold v17 Zdl;simp(maxSteps:=4000000) (disch:=first|exact zd|fail) [hc,hst,-getElem?_pos]
 .rw [hs]
  unfold v17 Zdl;simp(maxSteps:=4000000) (disch:=first|exact zd|fail) [hc,-getElem?_pos]
theorem Zmx {e:Exp}(h:StE e):ZaO refP ZaB Zcb e.weight e=none↔ZaO subP Zav ZaR e.weight e=none:=by
 have hsm:=ZgN e.weight e h.ok h.rz;constructor
 .intro hn
  rw[hn]at hsm;cases hp:ZaO subP Zav ZaR e.weight e with
  |none=>rfl
  |some p=>rw[hp]at hsm;exact hsm.elim
 .intro hn
  rw[hn]at hsm;cases hp:ZaO refP ZaB Zcb e.weight e with
  |none=>rfl
  |some p=>rw[hp]at hsm;exact hsm.elim
theorem Zw5 {e:Exp}(h:StE e):Zdl e (ZaO refP ZaB Zcb e.weight e)=Zdl e (ZaO subP Zav ZaR e.weight e):=by
 have hsm:=ZgN e.weight e h.ok h.rz;cases hp:ZaO subP Zav ZaR e.weight e with
 |none=>rw[(Zmx h).2 hp]
 |some p=>
  rw[hp]at hsm;cases hr:ZaO refP ZaB Zcb e.weight e with
  |none=>rw[hr]at hsm;exact hsm.elim
  |some q=>
   rw[hr]at hsm;unfold Zdl;simp only;rw[ZqI _ _ hsm.1,hsm.2]
theorem ZzB (u:List (List Cell))(e:Exp)(h:StE e)(hw:e.weight<=6000):(K A).call 22 [.sc (.c (.sl u)),expV e] []=some (Zae (decide (ZaO subP Zav ZaR e.weight e=none/\¬valP e)),[]):=by
 obtain⟨x,m,b,hc,hb⟩:=ZpI (A:=A) e.weight e (qe _) h.ok h.lf h.rz hw;have hv:=Zsz (A:=A) e h.ok.1 (by omega);have hn:=Zmx h;refine fnO v22 ?_;rcases hb with ⟨rfl,m',rfl,hs⟩|⟨rfl,hs⟩
 .have hn':¬ZaO subP Zav ZaR e.weight e=none:=fun q=>by rw [hn.2 q] at hs;cases hs
  unfold v22;by_cases hp:valP e<;>simp(maxSteps:=4000000) (disch:=first|exact zd|fail) [hc,hv,hp,hn',-getElem?_pos]
 .have hn':ZaO subP Zav ZaR e.weight e=none:=hn.1 hs
  unfold v22;by_cases hp:valP e<;>simp(maxSteps:=4000000) (disch:=first|exact zd|fail) [hc,hv,hp,hn',-getElem?_pos]
variable {A:Zab}
def MadeR (ds7:List DataD)(r:V×List Obj):Prop:=∃ds e,(∀d∈ds,d∈ds7)/\(properP e->mkE ds e)/\e.weight<=100000/\r=(.tu [Zar ds,expV e],[])
theorem made13 (bits:Int)(codes:List Int)(way:Bool)(hL:codes.length<=1073741824)(ds7:List DataD)(h7:ds7.length=7)(hg:∀d∈ds7,fitD d)(h2:ZoX ds7)(h55:(K A).call 81 [] []=some (Zar ds7,[])):
 ∃r,MadeR ds7 r/\(K A).call 13 [intV bits,ZeQ codes,Zae way] []=some r:=by
 obtain⟨_,⟨ds,hd1,hd2,rfl⟩,hd⟩:=ZAh (A:=A) bits ds7 h7 (fun d h=>(hg d h).1) h55;have hds:fitDs ds:=⟨hd2.1,fun d h=>hg d (hd1 d h)⟩;obtain⟨_,⟨e,J,he,hew,hJ,rfl⟩,hc⟩:=raw43N (A:=A) codes ds hL hds (fun d hd=>h2 d (hd1 d hd)) 4 0 (by omega) (by omega);obtain⟨_,⟨t,J1,ht,hts,hJ1,rfl⟩,hct⟩:=ZkA (A:=A) codes ds hL hds 2 0 (by omega) (by omega)
 obtain⟨_,⟨e2,J2,he2,hew2,hJ2,rfl⟩,hc2⟩:=ZAc (A:=A) codes ds hL hds 5 (by omega) [] t J1 ⟨by simp,fun x hx=>by cases hx⟩ ht.1 (by omega) hJ1;have hc0:(K A).call 43 [.sc (.ptr 0 0),Zar ds,intV 4] [.box [.c (.sl (Za0 codes)),.c (.int .i64 0)]]=some (expV e,[ZaK codes J]):=hc
 have hct0:(K A).call 45 [.sc (.ptr 0 0),Zar ds,.sc (.c (.sl [])),intV 2] [.box [.c (.sl (Za0 codes)),.c (.int .i64 0)]]=some (tyV t,[ZaK codes J1]):=hct;have hc20:(K A).call 44 [.sc (.ptr 0 0),Zar ds,.sc (.c (.sl [])),tyV t,intV 5] [ZaK codes J1]=some (expV e2,[ZaK codes J2]):=hc2;have w4:wS 4<=100000:=by decide
 have w5:wD 5<=100000:=by decide
 refine fnE v13 ?_;unfold v13;cases way with
 |true=>
  simp(disch:=first|exact zd|fail) [hd,hc0,-getElem?_pos];exact⟨ds,e,hd1,fun hp=>he.mkE (ZmM e hp),by omega,rfl⟩
 |false=>
  simp(disch:=first|exact zd|fail) [hd,hct0,hc20,-getElem?_pos];exact⟨ds,e2,hd1,fun _=>he2,by omega,rfl⟩
theorem ZvS (e:Exp):lfE e->tyBd e:=by
 induction e using Exp.ind with
 |h e ih=>
  intro h;rw[Zel];exact⟨h.2.one.2.2.2.1,fun x hx=>ih x hx (h.child hx)⟩
def Zhc (u:List (List Cell))(e:Exp)(i:Nat):St:=⟨[(8,.sc (.ptr 1024 0)),(7,.sc (.c (.sl u))),(9,intV i)],[(1024,some (.box (wc e.row)))]⟩
theorem ZwO (bits:Int)(codes:List Int)(way:Bool)(ds7:List DataD)(h7:ds7.length=7)(hg:∀d∈ds7,fitD d)(h2:ZoX ds7)(hcn:Zdz ds7)(h55:(K A).call 81 [] []=some (Zar ds7,[]))(h11:(K A).call 11 [] []=some (Zae true,[])):
 (K A).call 3 [intV bits,ZeQ codes,Zae way] []=some (Zae true,[]):=by
 refine fnO v3 ?_;have hf:(K A).call 12 [ZeQ codes] []=some (Zae (decide (codes.length<=60)),[]):=few8 (A:=A) codes;unfold v3;by_cases hl:codes.length<=60
 .obtain ⟨_,⟨ds,e,hd,hm,hew,rfl⟩,hmade⟩:=made13 (A:=A) bits codes way (by omega) ds7 h7 hg h2 h55
  obtain⟨_,⟨v,hv,rfl⟩,hpr⟩:=Zwq (A:=A) e (by omega);cases v with
  |false=>
   simp(disch:=first|exact zd|fail) [h11,hf,hl,hmade,hpr,-getElem?_pos]
  |true=>
   have hst:StE e:=(hm (hv rfl)).stE fun d hdd=>hcn d (hd d hdd);simp(disch:=first|exact zd|fail) [h11,hf,hl,hmade,hpr,-getElem?_pos];refine Zad (fun i s=>∃x,StE x/\x.weight<=100000000/\s=Zhc (Zax ds) x i) 5 ⟨e,hst,by omega,by simp[Zhc]⟩ ?_ ?_
   .rintro i s hi ⟨x,hx,hxw,rfl⟩
    have hn:=ZBq (A:=A) x hx.ok.1.wf (by omega);have hi':(i:Int)<5:=(by omega);by_cases hnn:ZbX x<300
    .have hnn':(ZbX x:Int)<300:=by omega
     have hwn:=Zlv x hx.lf.2;have h16:=ZyN (A:=A) (Zax ds) x hx (by omega);have h17:=step17 (A:=A) (Zax ds) x hx (by omega);rw[Zw5 hx]at h17;have h19:=Zua (A:=A) x hx.ok.1 (by omega);have h20:=Zsz (A:=A) x hx.ok.1 (by omega);have h21:=Zz0 (A:=A) (Zax ds) x hx (by omega);have h22:=ZzB (A:=A) (Zax ds) x hx (by omega);cases hs:ZaO subP Zav ZaR x.weight x with
     |none=>
      rw[hs]at h16 h17;replace h16:(K A).call 16 [Zar ds,expV x] []=some (.tu [expV x,intV 0,Zae false],[]):=h16;replace h17:(K A).call 17 [Zar ds,expV x] []=some (.tu [expV x,intV 0,Zae false],[]):=h17;obtain⟨_,⟨q,hq,rfl⟩,heq⟩:=ZrQ (A:=A) x x (ZvS x hx.lf) (by omega) (by omega);have hqt:q=true:=hq.2 (ZaN _);subst hqt
      refine ZaU (Q:=fun e' s'=>e'=.normal/\s'=Zhc (Zax ds) x (i+1)) ?_ (fun e' s' h=>.inl ⟨h.1,x,hx,hxw,h.2⟩);unfold l3_0 Zhc;simp(maxSteps:=4000000) (disch:=first|exact zd|fail) [hi',hn,hnn',h16,h17,h19,h20,h21,h22,heq,-getElem?_pos]
     |some p=>
      rw[hs]at h16 h17;replace h16:(K A).call 16 [Zar ds,expV x] []=some (.tu [expV (Zan p.1),intV p.2,Zae true],[]):=h16;replace h17:(K A).call 17 [Zar ds,expV x] []=some (.tu [expV (Zan p.1),intV p.2,Zae true],[]):=h17;have hy:=hx.step (by omega) hs;have hyw:=(Zfg _ x p (qe _) hx.ok hx.lf (by omega) hs).2;rw[<-ZmH p.1]at hyw;have hyw2:(Zan p.1).weight<=100000000:=by
       have h2:x.weight*(2*x.weight+1)<=6000*(2*6000+1):=qaR (by omega) (by omega);omega
      generalize Zan p.1=y at *
      obtain⟨_,⟨q,hq,rfl⟩,heq⟩:=ZrQ (A:=A) y y (ZvS y hy.lf) (by omega) (by omega);have hqt:q=true:=hq.2 (ZaN _);subst hqt;refine ZaU (Q:=fun e' s'=>e'=.normal/\s'=Zhc (Zax ds) y (i+1)) ?_ (fun e' s' h=>.inl ⟨h.1,y,hy,hyw2,h.2⟩);unfold l3_0 Zhc;simp(maxSteps:=4000000) (disch:=first|exact zd|fail) [hi',hn,hnn',h16,h17,h19,h20,h21,h22,heq,-getElem?_pos]
    .have hnn':¬(ZbX x:Int)<300:=by omega
     unfold l3_0 Zhc;simp(maxSteps:=4000000) (disch:=first|exact zd|fail) [hi',hn,hnn',-getElem?_pos]
   .rintro s ⟨x,hx,hxw,rfl⟩
    unfold l3_0 Zhc;simp(maxSteps:=4000000) (disch:=first|exact zd|fail) [-getElem?_pos]
 .simp(disch:=first|exact zd|fail) [h11,hf,hl,-getElem?_pos]
end Go.Vs.Tryz
