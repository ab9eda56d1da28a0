/- The names of types, signatures, walked. -/
import Derived.Test.YtccmnfpbcmccpaaGreatDoorRDq
set_option linter.unusedSimpArgs false
set_option linter.unusedVariables false
set_option linter.deprecated false
set_option maxHeartbeats 64000000
set_option maxRecDepth 10000
namespace Go.Vs.Tryz
open Go Go.Vs
variable {A:Ag}
def SC (t:Ty)(out:List Str)(r:V×List Obj):Prop:=∃o2:List Str,out.length<=o2.length/\o2.length<=out.length+t.size/\r=(.sc (.arr 0 o2.length),[.arr 1 (wr (Al o2)) 0])
theorem Zg5:∀(n:Nat)(t:Ty)(out:List Str),t.size<=n->out.length+t.size<=687194767360->
 ∃r,SC t out r/\(K A).call 167 [.sc (.arr 0 out.length),tyV t] [.arr 1 (wr (Al out)) 0]=some r:=by
 intro n
 induction n with
 |zero=>
  intro t out ht;have:=t.size_pos;omega
 |succ n ih=>
  intro t out ht hn;have hal:=t.args_lt;have hpos:=t.size_pos;have hts:=t.size_eq;refine fnE v167 ?_;have kids:∀out1:List Str,out.length<=out1.length->out1.length<=out.length+1->wp (K A) (.loop Jm) (BI 0 (BM (K A) (.seq (.region [] [o 35 (.mv (tv 0)),o 4 (.mv (tv 35))] [] [4]) .ret) (B3 true 1 [.tmp 4] (SC t out))))
   ⟨[(0,.sc (.arr 0 out1.length)),(3,.sc (.ptr 64 0)),(5,intV 0)],[(0,some (.arr 1 (wr (Al out1)) 0)),(64,some (.box (wc t.row)))]⟩:=by
   intro out1 ha hb;refine Am (fun i s=>∃o2:List Str,out1.length<=o2.length/\o2.length<=out1.length+((t.args.map Ty.size).take i).sum/\
    s=⟨[(0,.sc (.arr 0 o2.length)),(3,.sc (.ptr 64 0)),(5,intV i)],[(0,some (.arr 1 (wr (Al o2)) 0)),(64,some (.box (wc t.row)))]⟩) t.args.length
    ⟨out1,oz,by simp,by simp⟩ ?_ ?_
   .rintro i s hi ⟨o2,h0,h1,rfl⟩
    obtain⟨x,hx⟩:=Ab hi;have hxs:=Ty.arg_lt (qc hx);have hxm:(t.args.map Ty.size)[i]?=some x.size:=(by rw[qk,hx];rfl);have hsum:((t.args.map Ty.size).take (i+1)).sum=((t.args.map Ty.size).take i).sum+x.size:=(by rw[AR hxm];simp);have hle:((t.args.map Ty.size).take (i+1)).sum<=(t.args.map Ty.size).sum:=DT;obtain⟨_,⟨o3,h3,h4,rfl⟩,hc⟩:=ih x o2 oz oz;unfold Jm
    simp(disch:=try exact zd) [hi,hx,hc,h3,-getElem?_pos];exact⟨o3,oz,oz,by simp⟩
   .rintro s ⟨o2,h0,h1,rfl⟩
    rw[qh sy]at h1;unfold Jm;simp(disch:=try exact zd);exact⟨o2,oz,oz,rfl⟩
  unfold v167;by_cases h1:t.kind=5
  .have hix:=T0 (A:=A) out t.name oz
   by_cases h2:idxS out t.name<0
   .simp (disch:=try exact zd) [h1,hix,h2]
    have:=kids (out++[t.name]) sy sy;simpa using this
   .simp (disch:=try exact zd) [h1,hix,h2]
    exact kids out oz oz
  .simp (disch:=try exact zd) [h1]
   exact kids out oz oz
def ZeO (n:Nat)(r:V×List Obj):Prop:=∃l:List Str,l.length<=n/\r=(AB l,[])
theorem Zde (t:Ty)(ht:t.size<=1000000):∃r,ZeO t.size r/\(K A).call 116 [tyV t] []=some r:=by
 obtain⟨_,⟨o2,h1,h2,rfl⟩,hc⟩:=Zg5 (A:=A) t.size t [] (qg _) (by simp;omega);have hc:(K A).call 167 [.sc (.arr 0 0),tyV t] [.arr 1 [] 0]=some (.sc (.arr 0 o2.length),[.arr 1 (wr (Al o2)) 0]):=by simpa using hc
 refine fnE v116 ?_;unfold v116;simp(disch:=try exact zd) [hc,-getElem?_pos];exact⟨o2,by simpa using h2,rfl⟩
def SigR (x:Ty)(r:V×List Obj):Prop:=∃(a b:Ty) (c:Nat),tyS 0 a/\a.size<=x.size/\c<=x.size/\tyB 0 c b/\b.size<=x.size/\r=(.tu [tyV a,schV c b],[])
theorem Qf (x:Ty)(hx:tyS 0 x)(hl:x.size<=1000000)(h:Int):∃r,SigR x r/\(K A).call 67 [tyV x,intV h] []=some r:=by
 obtain⟨_,⟨l,hl1,rfl⟩,hn⟩:=Zde (A:=A) x hl;have hb:=Om (A:=A) l oz x oz;have hbz:=M0 l x;have hbS:=Nh (l:=l) hx;generalize BZ l x=u at *
 refine fnE v67 ?_;unfold v67;simp(disch:=try exact zd) [hn,hb];refine Am (fun i s=>∃args:List Ty,args.length=i/\(∀y∈args,tyS 0 y/\y.size<=1)/\s=⟨[(1,intV h),(4,.sc (.ptr 128 0)),(5,.sc (.ptr 192 0)),(6,AB l),(7,.sc (.ptr 640 0)),(8,.sc (.arr 769 i)),(9,intV i)],
  [(128,some (.box [zi,zs,zi,zi,.nil])),(192,some (.box [zi,zi,zs,zi,zi,.nil])),(640,some (.box (wc u.row))),(769,some (.arr 5 (wr (Ty.rows args)) 0))]⟩) l.length ⟨[],rfl,by simp,by simp⟩ ?_ ?_
 .rintro i s hi ⟨args,ha,hs,rfl⟩
  have hr:=Ng (A:=A) h i;unfold PA;simp(disch:=try exact zd) [hi,hr,ha];refine⟨args++[.mk 3 [] i h []],by simp[ha],?_,by simp⟩;intro y hy;rcases qp.1 hy with hy|hy
  .exact hs y hy
  .simp only [qo] at hy
   subst hy;exact⟨PY,by rw[Ty.size_leaf];exact qg _⟩
 .rintro s ⟨args,ha,hs,rfl⟩
  have hop:=MH (A:=A) args oz u oz;have hz:=Oo (m:=1) (qg _) (fun y hy=>(hs y hy).2) u;unfold PA;simp(disch:=try exact zd) [hop,ha];exact⟨CE args u,u,l.length,M6 (fun y hy=>(hs y hy).1) (by rw[ha];exact hbS),oz,hl1,hbS,hbz,by simp[AZ]⟩
theorem ZeE (x:Ty)(hx:tyS 0 x)(hl:x.size<=1000000):∃r,TyR 0 x.size r/\(K A).call 66 [tyV x] []=some r:=by
 obtain⟨_,⟨a,b,c,a1,a2,a3,a4,a5,rfl⟩,hs⟩:=Qf (A:=A) x hx hl 98;refine fnE v66 ?_;unfold v66;simp(disch:=try exact zd) [hs];exact⟨a,a1,a2,rfl⟩
def nam3:List Ty:=[.mk 5 [97] 0 0 [],.mk 5 [98] 0 0 [],.mk 5 [99] 0 0 []]
theorem N4 (s:Str):(K A).call 115 [strV s] []=some (tyV (.mk 5 s 0 0 []),[]):=by
 refine fnO v115 ?_;unfold v115;simp(disch:=try exact zd) [Ty.row]
theorem ZhE:(K A).call 63 [] []=some (tysV nam3,[]):=by
 have h1:=N4 (A:=A) [97];have h2:=N4 (A:=A) [98];have h3:=N4 (A:=A) [99];refine fnO v63 ?_;unfold v63;simp(disch:=try exact zd) [h1,h2,h3,nam3,Ty.rows]
theorem ZdG:∀x∈nam3,tyG x/\x.size=1:=by
 intro x hx;simp only[nam3,qF,qae,or_false]at hx;rcases hx with rfl|rfl|rfl
 all_goals exact⟨⟨Zgm ⟨by decide,⟨_,rfl,by decide,by decide⟩,by decide,by decide⟩,Ty.all_iff.2 ⟨fun h=>absurd h.1 (by decide),fun x hx=>by cases hx⟩⟩,Ty.size_leaf⟩
end Go.Vs.Tryz
namespace Go.Vs
open Go
structure BindD where
 isRec:Bool
 name:Str
 sig:Bool
 ty:Ty
 body:Exp
def BY (b:BindD):List Cell:=[.int .i64 0,.bool b.isRec,.str b.name,.bool b.sig,.int .i64 b.ty.kind,.str b.ty.name,.int .i64 b.ty.id,.int .i64 b.ty.home,.sl (Ty.rows b.ty.args),.int .i64 b.body.kind,.int .i64 b.body.pos,.str b.body.name,.int .i64 b.body.num,.sl (Exp.rows b.body.kids),.sl (Exp.armRows b.body.arms),.int .i64 b.body.ty.kind,.str b.body.ty.name,.int .i64 b.body.ty.id,.int .i64 b.body.ty.home,.sl (Ty.rows b.body.ty.args)]
def Cl (l:List BindD):CC1:=l.map BY
@[simp] theorem bindRow_len (b:BindD):(BY b).length=20:=rfl
@[simp] theorem bindRows_len (l:List BindD):(Cl l).length=l.length:=by simp[Cl]
@[simp] theorem bindRows_get (l:List BindD) (i:Nat):(Cl l)[i]?=(l[i]?).map BY:=by simp[Cl]
@[simp] theorem okRows_bind (l:List BindD):A2 20 (wr (Cl l))=true:=Dn l bindRow_len
@[simp] theorem bindRows_snoc (l:List BindD) (x:BindD):wr (Cl l)++[wc (BY x)]=wr (Cl (l++[x])):=by simp[Cl,wr]
@[simp] theorem bindRows0:Cl []=[]:=rfl
section
variable (b:BindD)
@[simp] theorem cut_bd1:cut (BY b) 1 1=some [.bool b.isRec]:=rfl
@[simp] theorem cut_bd2:cut (BY b) 2 1=some [.str b.name]:=rfl
@[simp] theorem cut_bd3:cut (BY b) 3 1=some [.bool b.sig]:=rfl
@[simp] theorem cut_bd4:cut (BY b) 4 5=some b.ty.row:=by rw[Ty.row_eq];rfl
@[simp] theorem cut_bd9:cut (BY b) 9 11=some b.body.row:=by rw[Exp.row_eq];rfl
@[simp] theorem cut_bd:cut (BY b) 0 20=some (BY b):=rfl
@[simp] theorem cutw_bd1:cut (wc (BY b)) 1 1=some [.c (.bool b.isRec)]:=rfl
@[simp] theorem cutw_bd2:cut (wc (BY b)) 2 1=some [.c (.str b.name)]:=rfl
@[simp] theorem cutw_bd3:cut (wc (BY b)) 3 1=some [.c (.bool b.sig)]:=rfl
@[simp] theorem cutw_bd4:cut (wc (BY b)) 4 5=some (wc b.ty.row):=by rw[Ty.row_eq];rfl
@[simp] theorem cutw_bd9:cut (wc (BY b)) 9 11=some (wc b.body.row):=by rw[Exp.row_eq];rfl
@[simp] theorem cutw_bd:cut (wc (BY b)) 0 20=some (wc (BY b)):=rfl
end
def bW (b:BindD):List W:=[.c (.int .i64 0),.c (.bool b.isRec),.c (.str b.name),.c (.bool b.sig),.c (.int .i64 b.ty.kind),.c (.str b.ty.name),.c (.int .i64 b.ty.id),.c (.int .i64 b.ty.home),if b.sig=true then .c (.sl (Ty.rows b.ty.args)) else .nil,
 .c (.int .i64 b.body.kind),.c (.int .i64 b.body.pos),.c (.str b.body.name),.c (.int .i64 b.body.num),.c (.sl (Exp.rows b.body.kids)),.c (.sl (Exp.armRows b.body.arms)),.c (.int .i64 b.body.ty.kind),.c (.str b.body.ty.name),.c (.int .i64 b.body.ty.id),.c (.int .i64 b.body.ty.home),.c (.sl (Ty.rows b.body.ty.args))]
def bWs (l:List BindD):WW1:=l.map bW
@[simp] theorem bW_len (b:BindD):(bW b).length=20:=rfl
@[simp] theorem bWs_len (l:List BindD):(bWs l).length=l.length:=by simp[bWs]
@[simp] theorem bWs_snoc (l:List BindD) (b:BindD):bWs l++[bW b]=bWs (l++[b]):=by simp[bWs]
@[simp] theorem bWs0:bWs []=[]:=rfl
theorem K5 (b:BindD){P:W->Prop}(hc:∀c,P (.c c))(hn:P .nil):∀w∈bW b,P w:=by
 intro w hw;unfold bW at hw;simp only[qF,qae,or_false]at hw;rcases hw with rfl|rfl|rfl|rfl|rfl|rfl|rfl|rfl|rfl|rfl|rfl|rfl|rfl|rfl|rfl|rfl|rfl|rfl|rfl|rfl<;>grind
@[simp] theorem okRows_bW (l:List BindD):A2 20 (bWs l)=true:=by
 unfold A2 bWs;simp;exact fun b _ y hy=>K5 b (P:=fun y=>Aq y=true) (fun _=>rfl) rfl y hy
theorem Qv (L:LO1)(d:Nat)(b:BindD){y:W}(hy:y∈bW b):W.ids L d y=[]:=
 K5 b (P:=fun y=>W.ids L d y=[]) (fun c=>by cases d<;>rfl) (by cases d<;>rfl) y hy
@[simp] theorem bWs_allIds (L:LO1) (d:Nat) (l:List BindD) (p:Nat->Bool):((bWs l).all fun a=>a.all fun b=>(W.ids L d b).all p)=true:=by
 simp only[qD,bWs,qI];rintro _ ⟨b,_,rfl⟩ y hy;rw[Qv L d b hy];simp
@[simp] theorem bWs_ids (L:LO1) (d:Nat) (l:List BindD):(bWs l).flatMap (fun x=>x.flatMap (W.ids L d))=[]:=by
 simp only[qag,bWs,qI];rintro _ ⟨b,_,rfl⟩ y hy;exact Qv L d b hy
@[simp] theorem bWs_refs (d:Nat) (l:List BindD):(bWs l).flatMap (fun x=>x.flatMap (W.refs d))=[]:=by
 simp only[qag,bWs,qI];rintro _ ⟨b,_,rfl⟩ y hy;exact K5 b (P:=fun y=>W.refs d y=[]) (fun c=>by cases d<;>rfl) (by cases d<;>rfl) y hy
@[simp] theorem bWs_ren (ρ:LN1) (d:Nat) (l:List BindD):(bWs l).map (fun x=>x.map (W.ren ρ d))=bWs l:=by
 unfold bWs;rw[qat];refine qL fun b _=>?_;show(bW b).map (W.ren ρ d)=bW b;refine(qL (g:=id) fun y hy=>?_).trans (List.map_id _);exact K5 b (P:=fun y=>W.ren ρ d y=id y) (fun c=>by cases d<;>rfl) (by cases d<;>rfl) y hy
theorem ZdV (L:LO1)(d:Nat)(l:List BindD)(h:∀b∈l,b.sig=false->b.ty.args=[]):Ae (Ae (W.toC L d)) (bWs l)=some (Cl l):=by
 unfold bWs Cl
 induction l with
 |nil=>rfl
 |cons b r ih=>
  have h1:Ae (W.toC L d) (bW b)=some (BY b):=by
   have hb:=h b sy;unfold bW BY;cases hs:b.sig<;>simp_all
  simp_all
end Go.Vs
namespace Go.Vs.Tryz
open Go Go.Vs
variable {A:Ag}
abbrev GF (ds:List DataD)(bs:List BindD):V:=.ag [.c (.sl (AO ds)),.c (.sl (Cl bs))]
def F7 (ds:List DataD)(b:BindD):Prop:=b.name∈B6/\mkE ds b.body/\b.body.weight<=1768/\b.ty.size<=687194767360/\(b.sig=false->b.ty=tz)
def pre4:List Str:=[[112],[113],[114],[115]]
def pS0 (L:List Int)(ds:List DataD)(bs:List BindD)(cv:V)(n i J:Nat):St:=⟨[(4,.sc (.ptr 64 0)),(5,.sc (.ptr 256 0)),(6,.sc (.ptr 576 0)),(7,cv),(8,intV n),(9,intV i)],[(64,some (.box [.nil,.nil])),(256,some (Ap L J)),(576,some (.box [.c (.sl (AO ds)),.arr 642 i])),(642,some (.arr 20 (bWs bs) 0))]⟩
def pS0t (L:List Int)(ds:List DataD)(bs:List BindD)(cv:V)(n i J:Nat):St:=⟨[(4,.sc (.ptr 64 0)),(5,.sc (.ptr 256 0)),(6,.sc (.ptr 576 0)),(7,cv),(8,intV n),(9,intV i),(26,Ad true)],[(64,some (.box [.nil,.nil])),(256,some (Ap L J)),(576,some (.box [.c (.sl (AO ds)),.arr 642 i])),(642,some (.arr 20 (bWs bs) 0))]⟩
def pS1 (L:List Int)(ds:List DataD)(bs:List BindD)(cv:V)(n i J:Nat)(r:Bool)(nm:Str):St:=⟨[(4,.sc (.ptr 64 0)),(5,.sc (.ptr 256 0)),(6,.sc (.ptr 576 0)),(7,cv),(8,intV n),(9,intV i),(10,.sc (.ptr 1792 0))],[(64,some (.box [.nil,.nil])),(256,some (Ap L J)),(576,some (.box [.c (.sl (AO ds)),.arr 642 i])),(642,some (.arr 20 (bWs bs) 0)),(1280,some (.arr 1 [[.c (.str [112])],[.c (.str [113])],[.c (.str [114])],[.c (.str [115])]] 0)),(1792,some (.box [zi,.c (.bool r),.c (.str nm),.c (.bool false),zi,zs,zi,zi,.nil,zi,zi,zs,zi,.nil,.nil,zi,zs,zi,zi,.nil]))]⟩
def pS2 (L:List Int)(ds:List DataD)(bs:List BindD)(cv:V)(n i J:Nat)(r:Bool)(nm:Str)(x:Ty):St:=⟨[(4,.sc (.ptr 64 0)),(5,.sc (.ptr 256 0)),(6,.sc (.ptr 576 0)),(7,cv),(8,intV n),(9,intV i),(10,.sc (.ptr 1792 0)),(11,.sc (.ptr 2240 0))],[(64,some (.box [.nil,.nil])),(256,some (Ap L J)),(576,some (.box [.c (.sl (AO ds)),.arr 642 i])),(642,some (.arr 20 (bWs bs) 0)),(1792,some (.box [zi,.c (.bool r),.c (.str nm),.c (.bool false),zi,zs,zi,zi,.nil,zi,zi,zs,zi,.nil,.nil,zi,zs,zi,zi,.nil])),(2240,some (.box (wc x.row)))]⟩
def pS3 (L:List Int)(ds:List DataD)(bs:List BindD)(cv:V)(n i J:Nat)(r:Bool)(nm:Str)(x:Ty):St:=⟨[(4,.sc (.ptr 64 0)),(5,.sc (.ptr 256 0)),(6,.sc (.ptr 576 0)),(7,cv),(8,intV n),(9,intV i),(10,.sc (.ptr 1792 0)),(11,.sc (.ptr 2240 0)),(44,Ad false)],[(64,some (.box [.nil,.nil])),(256,some (Ap L J)),(576,some (.box [.c (.sl (AO ds)),.arr 642 i])),(642,some (.arr 20 (bWs bs) 0)),(1792,some (.box [zi,.c (.bool r),.c (.str nm),.c (.bool false),zi,zs,zi,zi,.nil,zi,zi,zs,zi,.nil,.nil,zi,zs,zi,zi,.nil])),(2240,some (.box (wc x.row)))]⟩
def pS4 (L:List Int)(ds:List DataD)(bs:List BindD)(cv:V)(n i J:Nat)(r g:Bool)(nm:Str)(x:Ty):St:=⟨[(4,.sc (.ptr 64 0)),(5,.sc (.ptr 256 0)),(6,.sc (.ptr 576 0)),(7,cv),(8,intV n),(9,intV i),(10,.sc (.ptr 1792 0)),(11,.sc (.ptr 2240 0))],[(64,some (.box [.nil,.nil])),(256,some (Ap L J)),(576,some (.box [.c (.sl (AO ds)),.arr 642 i])),(642,some (.arr 20 (bWs bs) 0)),(1792,some (.box [zi,.c (.bool r),.c (.str nm),.c (.bool g),zi,zs,zi,zi,.nil,zi,zi,zs,zi,.nil,.nil,zi,zs,zi,zi,.nil])),(2240,some (.box (wc x.row)))]⟩
def pS5 (L:List Int)(ds:List DataD)(bs:List BindD)(cv:V)(n i J:Nat)(r g:Bool)(nm:Str)(x:Ty)(t0 t1 t2 t3 t4:W):St:=⟨[(4,.sc (.ptr 64 0)),(5,.sc (.ptr 256 0)),(6,.sc (.ptr 576 0)),(7,cv),(8,intV n),(9,intV i),(10,.sc (.ptr 1792 0)),(11,.sc (.ptr 2240 0))],[(64,some (.box [.nil,.nil])),(256,some (Ap L J)),(576,some (.box [.c (.sl (AO ds)),.arr 642 i])),(642,some (.arr 20 (bWs bs) 0)),(1792,some (.box [zi,.c (.bool r),.c (.str nm),.c (.bool g),t0,t1,t2,t3,t4,zi,zi,zs,zi,.nil,.nil,zi,zs,zi,zi,.nil])),(2240,some (.box (wc x.row)))]⟩
def pS5b (L:List Int)(ds:List DataD)(bs:List BindD)(cv:V)(n i J:Nat)(r g:Bool)(nm:Str)(x:Ty)(t0 t1 t2 t3 t4:W):St:=⟨[(4,.sc (.ptr 64 0)),(5,.sc (.ptr 256 0)),(6,.sc (.ptr 576 0)),(7,cv),(8,intV n),(9,intV i),(10,.sc (.ptr 1792 0)),(11,.sc (.ptr 2240 0)),(54,Ad false)],[(64,some (.box [.nil,.nil])),(256,some (Ap L J)),(576,some (.box [.c (.sl (AO ds)),.arr 642 i])),(642,some (.arr 20 (bWs bs) 0)),(1792,some (.box [zi,.c (.bool r),.c (.str nm),.c (.bool g),t0,t1,t2,t3,t4,zi,zi,zs,zi,.nil,.nil,zi,zs,zi,zi,.nil])),(2240,some (.box (wc x.row)))]⟩
def pS6 (L:List Int)(ds:List DataD)(bs:List BindD)(cv:V)(n i J:Nat)(r g:Bool)(nm:Str)(x:Ty)(t0 t1 t2 t3 t4:W)(iv:V):St:=⟨[(4,.sc (.ptr 64 0)),(5,.sc (.ptr 256 0)),(6,.sc (.ptr 576 0)),(7,cv),(8,intV n),(9,intV i),(10,.sc (.ptr 1792 0)),(11,.sc (.ptr 2240 0)),(12,iv)],[(64,some (.box [.nil,.nil])),(256,some (Ap L J)),(576,some (.box [.c (.sl (AO ds)),.arr 642 i])),(642,some (.arr 20 (bWs bs) 0)),(1792,some (.box [zi,.c (.bool r),.c (.str nm),.c (.bool g),t0,t1,t2,t3,t4,zi,zi,zs,zi,.nil,.nil,zi,zs,zi,zi,.nil])),(2240,some (.box (wc x.row)))]⟩
def pS7 (L:List Int)(ds:List DataD)(bs:List BindD)(cv:V)(n i J:Nat)(r g:Bool)(nm:Str)(x:Ty)(t0 t1 t2 t3 t4:W)(iv:V):St:=⟨[(4,.sc (.ptr 64 0)),(5,.sc (.ptr 256 0)),(6,.sc (.ptr 576 0)),(7,cv),(8,intV n),(9,intV i),(10,.sc (.ptr 1792 0)),(11,.sc (.ptr 2240 0)),(12,iv),(59,Ad false)],[(64,some (.box [.nil,.nil])),(256,some (Ap L J)),(576,some (.box [.c (.sl (AO ds)),.arr 642 i])),(642,some (.arr 20 (bWs bs) 0)),(1792,some (.box [zi,.c (.bool r),.c (.str nm),.c (.bool g),t0,t1,t2,t3,t4,zi,zi,zs,zi,.nil,.nil,zi,zs,zi,zi,.nil])),(2240,some (.box (wc x.row)))]⟩
def pS8 (L:List Int)(ds:List DataD)(bs:List BindD)(cv:V)(n i J:Nat)(r g:Bool)(nm:Str)(x:Ty)(t0 t1 t2 t3 t4:W)(e:Exp):St:=⟨[(4,.sc (.ptr 64 0)),(5,.sc (.ptr 256 0)),(6,.sc (.ptr 576 0)),(7,cv),(8,intV n),(9,intV i),(10,.sc (.ptr 1792 0)),(11,.sc (.ptr 2240 0))],[(64,some (.box [.nil,.nil])),(256,some (Ap L J)),(576,some (.box [.c (.sl (AO ds)),.arr 642 i])),(642,some (.arr 20 (bWs bs) 0)),(1792,some (.box [zi,.c (.bool r),.c (.str nm),.c (.bool g),t0,t1,t2,t3,t4,.c (.int .i64 e.kind),.c (.int .i64 e.pos),.c (.str e.name),.c (.int .i64 e.num),.c (.sl (Exp.rows e.kids)),.c (.sl (Exp.armRows e.arms)),.c (.int .i64 e.ty.kind),.c (.str e.ty.name),.c (.int .i64 e.ty.id),.c (.int .i64 e.ty.home),.c (.sl (Ty.rows e.ty.args))])),(2240,some (.box (wc x.row)))]⟩
def pS9 (L:List Int)(ds:List DataD)(bs:List BindD)(cv:V)(n i J:Nat)(r g:Bool)(nm:Str)(x:Ty)(t0 t1 t2 t3 t4:W)(e:Exp)(u v:Ty)(c:Int):St:=⟨[(4,.sc (.ptr 64 0)),(5,.sc (.ptr 256 0)),(6,.sc (.ptr 576 0)),(7,cv),(8,intV n),(9,intV i),(10,.sc (.ptr 1792 0)),(14,.sc (.ptr 5248 0))],[(64,some (.box [.nil,.nil])),(256,some (Ap L J)),(576,some (.box [.c (.sl (AO ds)),.arr 642 i])),(642,some (.arr 20 (bWs bs) 0)),(1792,some (.box [zi,.c (.bool r),.c (.str nm),.c (.bool g),t0,t1,t2,t3,t4,.c (.int .i64 e.kind),.c (.int .i64 e.pos),.c (.str e.name),.c (.int .i64 e.num),.c (.sl (Exp.rows e.kids)),.c (.sl (Exp.armRows e.arms)),.c (.int .i64 e.ty.kind),.c (.str e.ty.name),.c (.int .i64 e.ty.id),.c (.int .i64 e.ty.home),.c (.sl (Ty.rows e.ty.args))])),(2240,some (.box (wc x.row))),(5184,some (.box (wc u.row))),(5248,some (.box (wc (AZ c v))))]⟩
def pSa (L:List Int)(ds:List DataD)(bs:List BindD)(cv:V)(n i J:Nat)(r g:Bool)(nm:Str)(t0 t1 t2 t3 t4:W)(e:Exp)(v:Ty)(c:Int):St:=⟨[(4,.sc (.ptr 64 0)),(5,.sc (.ptr 256 0)),(6,.sc (.ptr 576 0)),(7,cv),(8,intV n),(9,intV i),(10,.sc (.ptr 1792 0)),(14,.sc (.ptr 5248 0))],[(64,some (.box [.nil,.nil])),(256,some (Ap L J)),(576,some (.box [.c (.sl (AO ds)),.arr 642 i])),(642,some (.arr 20 (bWs bs) 0)),(1792,some (.box [zi,.c (.bool r),.c (.str nm),.c (.bool g),t0,t1,t2,t3,t4,.c (.int .i64 e.kind),.c (.int .i64 e.pos),.c (.str e.name),.c (.int .i64 e.num),.c (.sl (Exp.rows e.kids)),.c (.sl (Exp.armRows e.arms)),.c (.int .i64 e.ty.kind),.c (.str e.ty.name),.c (.int .i64 e.ty.id),.c (.int .i64 e.ty.home),.c (.sl (Ty.rows e.ty.args))])),(5248,some (.box (wc (AZ c v))))]⟩
def pSb (L:List Int)(ds:List DataD)(bs:List BindD)(cv:V)(n i J:Nat)(r g:Bool)(nm:Str)(t0 t1 t2 t3 t4:W)(e:Exp)(v:Ty)(c:Int):St:=⟨[(4,.sc (.ptr 64 0)),(5,.sc (.ptr 256 0)),(6,.sc (.ptr 576 0)),(7,cv),(8,intV n),(9,intV i),(10,.sc (.ptr 1792 0)),(14,.sc (.ptr 5248 0)),(92,Ad false)],[(64,some (.box [.nil,.nil])),(256,some (Ap L J)),(576,some (.box [.c (.sl (AO ds)),.arr 642 i])),(642,some (.arr 20 (bWs bs) 0)),(1792,some (.box [zi,.c (.bool r),.c (.str nm),.c (.bool g),t0,t1,t2,t3,t4,.c (.int .i64 e.kind),.c (.int .i64 e.pos),.c (.str e.name),.c (.int .i64 e.num),.c (.sl (Exp.rows e.kids)),.c (.sl (Exp.armRows e.arms)),.c (.int .i64 e.ty.kind),.c (.str e.ty.name),.c (.int .i64 e.ty.id),.c (.int .i64 e.ty.home),.c (.sl (Ty.rows e.ty.args))])),(5248,some (.box (wc (AZ c v))))]⟩
def pSc (L:List Int)(ds:List DataD)(bs:List BindD)(cv:V)(n i J:Nat)(r g:Bool)(nm:Str)(t0 t1 t2 t3 t4:W)(e:Exp)(v:Ty)(c:Int):St:=⟨[(4,.sc (.ptr 64 0)),(5,.sc (.ptr 256 0)),(6,.sc (.ptr 576 0)),(7,cv),(8,intV n),(9,intV i),(10,.sc (.ptr 1792 0))],[(64,some (.box [.nil,.nil])),(256,some (Ap L J)),(576,some (.box [.c (.sl (AO ds)),.arr 642 i])),(642,some (.arr 20 (bWs bs) 0)),(1792,some (.box [zi,.c (.bool r),.c (.str nm),.c (.bool g),t0,t1,t2,t3,t4,.c (.int .i64 e.kind),.c (.int .i64 e.pos),.c (.str e.name),.c (.int .i64 e.num),.c (.sl (Exp.rows e.kids)),.c (.sl (Exp.armRows e.arms)),.c (.int .i64 e.ty.kind),.c (.str e.ty.name),.c (.int .i64 e.ty.id),.c (.int .i64 e.ty.home),.c (.sl (Ty.rows e.ty.args))])),(5248,some (.box (wc (AZ c v))))]⟩
def pSd (L:List Int)(ds:List DataD)(bs:List BindD)(cv:V)(n i J:Nat)(o1 o2:Obj):St:=⟨[(4,.sc (.ptr 64 0)),(5,.sc (.ptr 256 0)),(6,.sc (.ptr 576 0)),(7,cv),(8,intV n),(9,intV i)],[(64,some (.box [.nil,.nil])),(256,some (Ap L J)),(576,some (.box [.c (.sl (AO ds)),.arr 642 (i+1)])),(642,some (.arr 20 (bWs bs) 0)),(1792,some o1),(7040,some o2)]⟩
def Ig (L:List Int)(ds:List DataD)(n i:Nat)(s:St):Prop:=∃bs ctx J cv,bs.length=i/\(∀b∈bs,F7 ds b)/\ctxOk i 50000 ctx/\J<=L.length/\(cv=Bh ctx\/(cv=.sc .nil/\ctx=[]))/\s=pS0 L ds bs cv n i J
def sigT (g:Bool)(x:Ty)(t0 t1 t2 t3 t4:W):Prop:=(g=true/\t0=.c (.int .i64 x.kind)/\t1=.c (.str x.name)/\t2=.c (.int .i64 x.id)/\t3=.c (.int .i64 x.home)/\t4=.c (.sl (Ty.rows x.args)))\/(g=false/\t0=zi/\t1=zs/\t2=zi/\t3=zi/\t4=.nil)
theorem ZdT (L:List Int)(ds:List DataD)(hL:L.length<=687194767360)(hds:fitDs ds)(n i:Nat)(hi:i<n)(hn:n<=4)(s:St)(hs:Ig L ds n i s):wp (K A) Kl (fun e s'=>e=.normal/\Ig L ds n (i+1) s') s:=by
 obtain⟨bs,ctx,J,cv,hb,hbs,hctx,hJ,hcv0,rfl⟩:=hs;have hint:=Fb (A:=A);have hty:∀I,I<=L.length->∃r,E4 L 25 r/\(K A).call 45 [.sc (.ptr 0 0),Ax ds,tysV nam3,intV 2] [Ap L I]=some r:=fun I h=>VF (A:=A) L ds nam3 hL hds (by simp[nam3]) (by simp[nam3]) ZdG 2 I oz h
 have htyN:∀I,I<=L.length->∃r,E4 L 25 r/\(K A).call 45 [.sc (.ptr 0 0),Ax ds,.sc (.c (.sl [])),intV 2] [Ap L I]=some r:=fun I h=>I9 (A:=A) L ds hL hds 2 I oz h;have hnam:=ZhE (A:=A);have hin:(i:Int)<n:=oz
 have hds1:=hds.1;have hcv:=hcv0;obtain⟨P,hct,hcve⟩:∃P:Prop,P/\((P=((0:Nat)=0)/\cv=Bh ctx)\/(P=(ctx=[])/\cv=.sc .nil)):=by
  rcases hcv0 with h|⟨h1,h2⟩
  .exact⟨_,rfl,.inl ⟨rfl,h⟩⟩
  .exact⟨_,h2,.inr ⟨rfl,h1⟩⟩
 rcases hcve with ⟨rfl,hcve⟩|⟨rfl,hcve⟩
 all_goals
  skip
  unfold Kl;refine D4 (pS0t L ds bs cv n i J) (by simp[hcve,hct,pS0,pS0t,hin]) ?_;refine ER (fun s=>∃b ctx2 J2 ob1 ob2,F7 ds b/\ctxOk (i+1) 50000 ctx2/\J2<=L.length/\s=pSd L ds (bs++[b]) (Bh ctx2) n i J2 ob1 ob2) ?_ ?_
  .rw [wp_block]
   refine ER (fun s=>∃r nm J,nm∈B6/\J<=L.length/\s=pS1 L ds bs cv n i J r nm) ?_ ?_
   .obtain ⟨k,J1,hk,hJ1,hc⟩:=BF (A:=A) L J 4 hJ hL oz oz
    obtain⟨r,hr⟩:∃r,decide ((k:Int)=1)=r:=⟨_,rfl⟩;have l0:([[.c (.str [112])],[.c (.str [113])],[.c (.str [114])],[.c (.str [115])]]:WW1)[0]?=some [.c (.str [112])]:=rfl;have l1:([[.c (.str [112])],[.c (.str [113])],[.c (.str [114])],[.c (.str [115])]]:WW1)[1]?=some [.c (.str [113])]:=rfl
    have l2:([[.c (.str [112])],[.c (.str [113])],[.c (.str [114])],[.c (.str [115])]]:WW1)[2]?=some [.c (.str [114])]:=rfl;have l3:([[.c (.str [112])],[.c (.str [113])],[.c (.str [114])],[.c (.str [115])]]:WW1)[3]?=some [.c (.str [115])]:=rfl;have m2:AH (intV 2) 4=some 2:=rfl;have m3:AH (intV 3) 4=some 3:=rfl;have hi4:i=0\/i=1\/i=2\/i=3:=oz;rcases hi4 with rfl|rfl|rfl|rfl
    .refine wp_mono (Q:=fun e s=>e=.normal/\s=pS1 L ds bs cv n 0 J1 r [112]) (by simp (disch:=try exact zd) [hcve,hct,pS0t,pS1,hc,hr,hb,l0,l1,l2,l3,m2,m3]) ?_
     rintro e s ⟨h1,h2⟩;exact⟨h1,r,_,J1,by decide,hJ1,h2⟩
    .refine wp_mono (Q:=fun e s=>e=.normal/\s=pS1 L ds bs cv n 1 J1 r [113]) (by simp (disch:=try exact zd) [hcve,hct,pS0t,pS1,hc,hr,hb,l0,l1,l2,l3,m2,m3]) ?_
     rintro e s ⟨h1,h2⟩;exact⟨h1,r,_,J1,by decide,hJ1,h2⟩
    .refine wp_mono (Q:=fun e s=>e=.normal/\s=pS1 L ds bs cv n 2 J1 r [114]) (by simp (disch:=try exact zd) [hcve,hct,pS0t,pS1,hc,hr,hb,l0,l1,l2,l3,m2,m3]) ?_
     rintro e s ⟨h1,h2⟩;exact⟨h1,r,_,J1,by decide,hJ1,h2⟩
    .refine wp_mono (Q:=fun e s=>e=.normal/\s=pS1 L ds bs cv n 3 J1 r [115]) (by simp (disch:=try exact zd) [hcve,hct,pS0t,pS1,hc,hr,hb,l0,l1,l2,l3,m2,m3]) ?_
     rintro e s ⟨h1,h2⟩;exact⟨h1,r,_,J1,by decide,hJ1,h2⟩
   clear hJ J;rintro _ ⟨r,nm,J,hnm,hJ,rfl⟩;refine ER (fun s=>∃x J,tyG x/\x.size<=25/\J<=L.length/\s=pS2 L ds bs cv n i J r nm x) ?_ ?_
   .obtain ⟨_,⟨x,J1,x1,x2,x3,rfl⟩,hx⟩:=hty J hJ
    refine wp_mono (Q:=fun e s=>e=.normal/\s=pS2 L ds bs cv n i J1 r nm x) (by simp(disch:=try exact zd) [hcve,hct,pS1,pS2,hnam,hx,hb]) ?_;rintro e s ⟨h1,h2⟩;exact⟨h1,x,J1,x1,x2,x3,h2⟩
   clear hJ J;rintro _ ⟨x,J,hxG,hxz,hJ,rfl⟩;refine ER (fun s=>∃x J,tyG x/\x.size<=25/\J<=L.length/\(s=pS2 L ds bs cv n i J r nm x\/s=pS3 L ds bs cv n i J r nm x)) ?_ ?_
   .obtain ⟨k,J1,hk,hJ1,hc⟩:=BF (A:=A) L J 3 hJ hL oz oz
    by_cases hk0:k=0
    .obtain ⟨_,⟨y,J2,y1,y2,y3,rfl⟩,hy⟩:=htyN J1 hJ1
     subst hk0;refine wp_mono (Q:=fun e s=>e=.normal/\s=pS2 L ds bs cv n i J2 r nm y) (by simp(disch:=try exact zd) [hcve,hct,pS2,hc,hy,hb]) ?_;rintro e s ⟨h1,h2⟩;exact⟨h1,y,J2,y1,y2,y3,.inl h2⟩
    .have hk0':¬(k:Int)=0:=oz
     refine wp_mono (Q:=fun e s=>e=.normal/\s=pS3 L ds bs cv n i J1 r nm x) (by simp(disch:=try exact zd) [hcve,hct,pS2,pS3,hc,hk0,hk0',hb]) ?_;rintro e s ⟨h1,h2⟩;exact⟨h1,x,J1,hxG,hxz,hJ1,.inr h2⟩
   clear hJ J hxG hxz x;rintro s ⟨x,J,hxG,hxz,hJ,hs⟩;refine ER (fun s=>∃g J,J<=L.length/\s=pS4 L ds bs cv n i J r g nm x) ?_ ?_
   .obtain ⟨k,J1,hk,hJ1,hc⟩:=BF (A:=A) L J 2 hJ hL oz oz
    obtain⟨g,hg⟩:∃g,decide ((k:Int)=0)=g:=⟨_,rfl⟩;have hg0:decide (k=0)=g:=(by rw[<-hg];simp);refine wp_mono (Q:=fun e s=>e=.normal/\s=pS4 L ds bs cv n i J1 r g nm x) (by rcases hs with rfl | rfl<;>simp(disch:=try exact zd) [hcve,hct,pS2,pS3,pS4,hc,hg,hg0,hb]) ?_;rintro e s ⟨h1,h2⟩;exact⟨h1,g,J1,hJ1,h2⟩
   clear hJ J hs s;rintro _ ⟨g,J,hJ,rfl⟩;refine ER (fun s=>∃t0 t1 t2 t3 t4,sigT g x t0 t1 t2 t3 t4/\(s=pS5 L ds bs cv n i J r g nm x t0 t1 t2 t3 t4\/s=pS5b L ds bs cv n i J r g nm x t0 t1 t2 t3 t4)) ?_ ?_
   .cases g with
    |true=>
     refine wp_mono (Q:=fun e s=>e=.normal/\s=pS5 L ds bs cv n i J r true nm x (.c (.int .i64 x.kind)) (.c (.str x.name)) (.c (.int .i64 x.id)) (.c (.int .i64 x.home)) (.c (.sl (Ty.rows x.args)))) (by simp(disch:=try exact zd) [hcve,hct,pS4,pS5,hb,Ty.row_eq]) ?_;rintro e s ⟨h1,h2⟩;exact⟨h1,_,_,_,_,_,.inl ⟨rfl,rfl,rfl,rfl,rfl,rfl⟩,.inl h2⟩
    |false=>
     refine wp_mono (Q:=fun e s=>e=.normal/\s=pS5b L ds bs cv n i J r false nm x zi zs zi zi .nil) (by simp(disch:=try exact zd) [hcve,hct,pS4,pS5b,hb]) ?_;rintro e s ⟨h1,h2⟩;exact⟨h1,_,_,_,_,_,.inr ⟨rfl,rfl,rfl,rfl,rfl,rfl⟩,.inr h2⟩
   rintro s ⟨t0,t1,t2,t3,t4,ht,hs⟩;have hrr:(∀ρ d,W.ren ρ d t0=t0)/\(∀ρ d,W.ren ρ d t1=t1)/\(∀ρ d,W.ren ρ d t2=t2)/\(∀ρ d,W.ren ρ d t3=t3)/\∀ρ d,W.ren ρ d t4=t4:=by
    rcases ht with ⟨_,rfl,rfl,rfl,rfl,rfl⟩|⟨_,rfl,rfl,rfl,rfl,rfl⟩<;>exact⟨fun ρ d=>by cases d<;>rfl,fun ρ d=>by cases d<;>rfl,fun ρ d=>by cases d<;>rfl,fun ρ d=>by cases d<;>rfl,fun ρ d=>by cases d<;>rfl⟩
   obtain⟨hr0,hr1,hr2,hr3,hr4⟩:=hrr;refine D4 (pS6 L ds bs cv n i J r g nm x t0 t1 t2 t3 t4 cv) (by rcases hs with rfl | rfl<;>simp(disch:=try exact zd) [hcve,hct,pS5,pS5b,pS6,hb]) ?_;clear hs s;obtain⟨_,⟨u,u1,u2,rfl⟩,hu⟩:=ZeE (A:=A) x hxG.1 oz;have hmu:=GB (A:=A) u;have hpu:=F0 (A:=A) ctx nm 0 u (by have:=hctx.1;omega);simp only[Bh,hct,entRows0,qaf]at hpu
   refine ER (fun s=>∃inn iv,ctxOk (i+1) 50000 inn/\(iv=Bh inn\/(iv=.sc .nil/\inn=[]))/\(s=pS6 L ds bs cv n i J r g nm x t0 t1 t2 t3 t4 iv\/s=pS7 L ds bs cv n i J r g nm x t0 t1 t2 t3 t4 iv)) ?_ ?_
   .cases r with
    |true=>
     refine wp_mono (Q:=fun e s=>e=.normal/\s=pS6 L ds bs cv n i J true g nm x t0 t1 t2 t3 t4 (Bh (ctx++[⟨nm,0,u⟩]))) (by simp(disch:=try exact zd) [hcve,hct,pS6,hu,hmu,hpu,hb]) ?_;rintro e s ⟨h1,h2⟩;exact⟨h1,_,_,hctx.push (c:=0) oz hnm oz u1 oz,.inl rfl,.inl h2⟩
    |false=>
     refine wp_mono (Q:=fun e s=>e=.normal/\s=pS7 L ds bs cv n i J false g nm x t0 t1 t2 t3 t4 cv) (by simp(disch:=try exact zd) [hcve,hct,pS6,pS7,hb]) ?_;rintro e s ⟨h1,h2⟩;exact⟨h1,ctx,cv,hctx.up oz,hcv,.inr h2⟩
   rintro s ⟨inn,iv,hinn,hiv,hs⟩;refine ER (fun s=>∃e J,mkE ds e/\e.weight<=1768/\J<=L.length/\s=pS8 L ds bs cv n i J r g nm x t0 t1 t2 t3 t4 e) ?_ ?_
   .obtain ⟨_,⟨e,J1,e1,e2,e3,rfl⟩,he⟩:=Zgj (A:=A) L ds hL hds 3 oz inn u J (hinn.up oz) u1 oz hJ
    have he:(K A).call 44 [.sc (.ptr 0 0),Ax ds,.sc (.c (.sl (B8 inn))),tyV u,intV 3] [Ap L J]=some (expV e,[Ap L J1]):=he;have her:=Exp.row_eq e
    refine wp_mono (Q:=fun e' s=>e'=.normal/\s=pS8 L ds bs cv n i J1 r g nm x t0 t1 t2 t3 t4 e) (by rcases hiv with rfl | ⟨rfl,rfl⟩<;>(try simp only[entRows0]at he)<;>rcases hs with rfl | rfl<;>simp(disch:=try exact zd) [hcve,hct,pS6,pS7,pS8,hu,he,hb,her,hr0,hr1,hr2,hr3,hr4]) ?_;rintro e' s ⟨h1,h2⟩;exact⟨h1,e,J1,e1,qr e2 (by decide),e3,h2⟩
   clear hJ J hs s hiv iv hinn inn;rintro _ ⟨e,J,e1,e2,hJ,rfl⟩;obtain⟨_,⟨a,v,c,a1,a2,c1,v1,v2,rfl⟩,hsg⟩:=Qf (A:=A) x hxG.1 oz 98;refine D4 (pS9 L ds bs cv n i J r g nm x t0 t1 t2 t3 t4 e a v c) (by simp(disch:=try exact zd) [hcve,hct,pS8,pS9,hsg,hb,AZ,hr0,hr1,hr2,hr3,hr4]) ?_
   refine ER (fun s=>∃(v:Ty) (c:Nat),c<=900/\tyB 0 c v/\v.size<=50000/\(s=pSa L ds bs cv n i J r g nm t0 t1 t2 t3 t4 e v c\/s=pSb L ds bs cv n i J r g nm t0 t1 t2 t3 t4 e v c)) ?_ ?_
   .have hrow:(Exp.row e)=[.int .i64 e.kind,.int .i64 e.pos,.str e.name,.int .i64 e.num,.sl (Exp.rows e.kids),.sl (Exp.armRows e.arms),.int .i64 e.ty.kind,.str e.ty.name,.int .i64 e.ty.id,.int .i64 e.ty.home,.sl (Ty.rows e.ty.args)]:=by rw [Exp.row_eq]
    obtain⟨_,⟨p,rfl⟩,hh1⟩:=Lj (A:=A) 10 e oz;obtain⟨_,⟨q,rfl⟩,hh2⟩:=Lj (A:=A) 11 e oz;have hmi:=GB (A:=A) (.mk 4 [73,110,116] 0 0 []);simp only[expV,hrow,wc,qu,qX]at hh1 hh2
    have yes:∀s,s=pSa L ds bs cv n i J r g nm t0 t1 t2 t3 t4 e (.mk 4 [73,110,116] 0 0 []) 0->∃(v:Ty) (c:Nat),c<=900/\tyB 0 c v/\v.size<=50000/\(s=pSa L ds bs cv n i J r g nm t0 t1 t2 t3 t4 e v c\/s=pSb L ds bs cv n i J r g nm t0 t1 t2 t3 t4 e v c):=
     fun s h=>⟨_,0,oz,Nb,by rw[Ty.size_leaf];omega,.inl h⟩
    have no:∀s,s=pSb L ds bs cv n i J r g nm t0 t1 t2 t3 t4 e v c->∃(v:Ty) (c:Nat),c<=900/\tyB 0 c v/\v.size<=50000/\(s=pSa L ds bs cv n i J r g nm t0 t1 t2 t3 t4 e v c\/s=pSb L ds bs cv n i J r g nm t0 t1 t2 t3 t4 e v c):=
     fun s h=>⟨v,c,oz,v1,oz,.inr h⟩
    cases g with
    |true=>
     refine wp_mono (Q:=fun e' s=>e'=.normal/\s=pSb L ds bs cv n i J r true nm t0 t1 t2 t3 t4 e v c) (by simp(disch:=try exact zd) [hcve,hct,pS9,pSb,hb,hr0,hr1,hr2,hr3,hr4]) ?_;rintro e' s ⟨h1,h2⟩;exact⟨h1,no s h2⟩
    |false=>
     cases p with
     |true=>
      refine wp_mono (Q:=fun e' s=>e'=.normal/\s=pSa L ds bs cv n i J r false nm t0 t1 t2 t3 t4 e (.mk 4 [73,110,116] 0 0 []) 0) (by simp(disch:=try exact zd) [hcve,hct,pS9,pSa,hb,hr0,hr1,hr2,hr3,hr4,hh1,hh2,hint,hmi]) ?_;rintro e' s ⟨h1,h2⟩;exact⟨h1,yes s h2⟩
     |false=>
      cases q with
      |true=>
       refine wp_mono (Q:=fun e' s=>e'=.normal/\s=pSa L ds bs cv n i J r false nm t0 t1 t2 t3 t4 e (.mk 4 [73,110,116] 0 0 []) 0) (by simp(disch:=try exact zd) [hcve,hct,pS9,pSa,hb,hr0,hr1,hr2,hr3,hr4,hh1,hh2,hint,hmi]) ?_;rintro e' s ⟨h1,h2⟩;exact⟨h1,yes s h2⟩
      |false=>
       refine wp_mono (Q:=fun e' s=>e'=.normal/\s=pSb L ds bs cv n i J r false nm t0 t1 t2 t3 t4 e v c) (by simp(disch:=try exact zd) [hcve,hct,pS9,pSb,hb,hr0,hr1,hr2,hr3,hr4,hh1,hh2]) ?_;rintro e' s ⟨h1,h2⟩;exact⟨h1,no s h2⟩
   clear v1 v2 c1 hsg a2 a1 a v c;rintro s ⟨v,c,hc,hvS,hvz,hs⟩;have hpu2:=F0 (A:=A) ctx nm c v (by have:=hctx.1;omega);have hsr:wc (AZ c v)=.c (.int .i64 c)::wc v.row:=rfl;simp only[Bh,schV,hsr,hct,entRows0,qaf]at hpu2
   refine D4 (pSc L ds bs (Bh (ctx++[⟨nm,c,v⟩])) n i J r g nm t0 t1 t2 t3 t4 e v c) (by rcases hs with rfl | rfl<;>simp(disch:=try exact zd) [hcve,hct,pSa,pSb,pSc,hpu2,hb,AZ,hr0,hr1,hr2,hr3,hr4]) ?_;have hbok:∀t:Ty,t.size<=1000->(g=false->t=tz)->F7 ds ⟨r,nm,g,t,e⟩:=fun t ht htz=>⟨hnm,e1,e2,by simp only;omega,htz⟩;rcases ht with ⟨rfl,rfl,rfl,rfl,rfl,rfl⟩|⟨rfl,rfl,rfl,rfl,rfl,rfl⟩
   .simp (disch:=try exact zd) [hcve,hct,pSc,hb]
    refine⟨⟨r,nm,true,x,e⟩,hbok x oz (fun h=>by cases h),ctx++[⟨nm,c,v⟩],hctx.push oz hnm hc hvS hvz,J,hJ,?_⟩;simp[hcve,hct,pSd];exact bWs_snoc bs ⟨r,nm,true,x,e⟩
   .simp (disch:=try exact zd) [hcve,hct,pSc,hb]
    refine⟨⟨r,nm,false,tz,e⟩,hbok tz (by decide) (fun _=>rfl),ctx++[⟨nm,c,v⟩],hctx.push oz hnm hc hvS hvz,J,hJ,?_⟩;simp[hcve,hct,pSd];exact bWs_snoc bs ⟨r,nm,false,tz,e⟩
  .rintro s ⟨b,ctx2,J2,ob1,ob2,b1,b2,b3,rfl⟩
   simp(disch:=try exact zd) [hcve,hct,pSd,Ig,exists_and_left];refine⟨bs++[b],by simp[hb],?_,ctx2,b2,J2,b3,.inl (by simp[pS0])⟩;intro y hy;rcases qp.1 hy with hy|hy
   .exact hbs y hy
   .simp only [qo] at hy
    exact hy▸b1
def Zbj (ds7:List DataD)(r:V×List Obj):Prop:=∃ds bs,(∀d∈ds,d∈ds7)/\Ga ds/\bs.length<=4/\(∀b∈bs,F7 ds b)/\r=(GF ds bs,[])
theorem ZhP (bits:Int)(codes:List Int)(hL:codes.length<=687194767360)(ds7:List DataD)(h7:ds7.length=7)(hg:∀d∈ds7,fitD d)(h55:(K A).call 81 [] []=some (Ax ds7,[])):
 ∃r,Zbj ds7 r/\(K A).call 29 [intV bits,CI codes] []=some r:=by
 obtain⟨_,⟨ds,hd1,hd2,rfl⟩,hd⟩:=Zdm (A:=A) bits ds7 h7 (fun d h=>(hg d h).1) h55;have hds:fitDs ds:=⟨hd2.1,fun d h=>hg d (hd1 d h)⟩;obtain⟨k,J,hk,hJ,hc⟩:=BF (A:=A) codes 0 4 oz hL oz oz;refine AC _ (vf:=v29) (by rfl) rfl sy ?_;unfold v29;have hc0:(K A).call 62 [.sc (.ptr 0 0),intV 4] [.box [.c (.sl (Bn codes)),.c (.int .i64 0)]]=some (intV k,[Ap codes J]):=hc
 simp(disch:=try exact zd) [hd,hc0];have h0:Ig codes ds (k+1) 0 (pS0 codes ds [] (.sc .nil) (k+1) 0 J):=⟨[],[],J,.sc .nil,rfl,by simp,⟨by simp,by simp⟩,hJ,.inr ⟨rfl,rfl⟩,rfl⟩;have hk1:(1:Int)+k=((k+1:Nat):Int):=oz
 refine Am (fun i s=>Ig codes ds (k+1) i s) (k+1) (by simpa[pS0,hk1]using h0) ?_ ?_
 .intro i s hi hs
  exact wp_mono (ZdT codes ds hL hds (k+1) i hi oz s hs) fun e s h=>.inl h
 .rintro s ⟨bs,ctx,J2,cv,hb,hbs,hctx,hJ2,_,rfl⟩
  have hbl:bs.length<=4:=oz
  have htc:=fun L d=>ZdV L d bs fun b hm hs=>by rw[(hbs b hm).2.2.2.2 hs];rfl
  unfold Kl;simp(disch:=try exact zd) [pS0,hb,htc];exact⟨ds,bs,hd1,hd2,hbl,hbs,rfl⟩
variable {A:Ag}
@[simp] theorem fit_bind (l:List BindD):BN 20 (Cl l)=true:=F5 bindRow_len l
def BD (g:Exp->Exp)(l:List BindD)(nm:Str):Exp:=l.foldr (fun b e=>.mk (if b.isRec then 7 else 6) 0 b.name 0 [g b.body,e] [] tz) (.mk 1 0 nm 0 [] [] tz)
theorem GA (g:Exp->Exp)(b:BindD)(l:List BindD)(nm:Str):BD g (b::l) nm=.mk (if b.isRec then 7 else 6) 0 b.name 0 [g b.body,BD g l nm] [] tz:=rfl
theorem Wh (l:List BindD)(nm:Str):Aj (BD id l nm)=BD Aj l nm:=by
 induction l with
 |nil=>
  rw[Em];simp[BD,DQ,Exp.children,Exp.kids,Exp.arms,Exp.kind,Exp.name,Exp.num,Exp.ty]
 |cons b l ih=>
  rw[GA,GA,Em,<-ih];simp[DQ,Exp.children,Exp.kids,Exp.arms,Exp.kind,Exp.name,Exp.num,Exp.ty]
theorem Ua {g:Exp->Exp}{B:Nat}{l:List BindD}(h:∀b∈l,(g b.body).weight<=B)(nm:Str):(BD g l nm).weight<=1+l.length*(B+1):=by
 induction l with
 |nil=>
  have:=Gk 1 0 nm;show(Exp.mk 1 0 nm 0 [] [] tz).weight<=1+0*(B+1);omega
 |cons b l ih=>
  have h1:=h b sy;have h2:=ih fun b hb=>h b (by simp[hb]);rw[GA,Gu];simp only[qu,qX,qT,qaJ,qJ,Nat.succ_mul];omega
def Oy (bs:List BindD):Str:=(bs.getLast?.map (·.name)).getD []
theorem Mm {bs:List BindD}{b:BindD}{i:Nat}(h:bs[i]?=some b)(hi:i+1=bs.length):Oy bs=b.name:=by
 unfold Oy;rw[List.getLast?_eq_getElem?,show bs.length-1=i by omega,h];rfl
def BB (g:Exp->Exp)(bs:List BindD):Exp:=if bs=[] then .mk 3 0 [] 0 [] [] tz else BD g bs (Oy bs)
theorem Zfi (bs:List BindD):Aj (BB id bs)=BB Aj bs:=by
 unfold BB;split
 .rw [Em]
  simp[DQ,Exp.children,Exp.kids,Exp.arms,Exp.kind,Exp.name,Exp.num,Exp.ty]
 .exact Wh _ _
theorem Zda (ds:List DataD)(bs:List BindD)(hb:bs.length<=1000)(hw:∀b∈bs,b.body.weight<=1000000):(K A).call 28 [GF ds bs] []=some (expV (BB Aj bs),[]):=by
 refine fnO v28 ?_;unfold v28;by_cases hz:bs=[]
 .subst hz
  simp(disch:=try exact zd) [-getElem?_pos];simp[BB,expV,En]
 .obtain ⟨n,hn⟩:∃ n,bs.length=n+1:=⟨bs.length-1,by have:=qas.2 hz;omega⟩
  obtain⟨b0,hb0⟩:=Ab (l:=bs) (i:=n) oz;have hlast:=Mm hb0 hn.symm;have hcl:BB Aj bs=BD Aj bs b0.name:=by unfold BB;rw[if_neg hz,hlast]
  rw[hcl];have hn0:¬((n:Int)+1=0):=oz
  simp(disch:=try exact zd) [hn,hn0,hb0,hz,-getElem?_pos];refine Am (fun j s=>∃(i:Nat) (cs:List W),i+j=n+1/\(cs=wc (BD Aj (bs.drop i) b0.name).row\/(cs=Gw 1 b0.name/\BD Aj (bs.drop i) b0.name=.mk 1 0 b0.name 0 [] [] tz))/\
   s=⟨[(1,.sc (.ptr 64 0)),(2,.sc (.ptr 128 0)),(3,.sc (.ptr 1216 0)),(4,intV ((i:Int)-1))],[(64,some (.box [.c (.sl (AO ds)),.c (.sl (Cl bs))])),(128,some (.box zE)),(1216,some (.box cs))]⟩) (n+1)
   ⟨n+1,Gw 1 b0.name,oz,.inr ⟨rfl,by rw[qY oz];rfl⟩,by simp⟩ ?_ ?_
  .rintro j s hj ⟨i,cs,hij,hcs,rfl⟩
   obtain⟨i,rfl⟩:∃k,i=k+1:=⟨i-1,oz⟩;obtain⟨b,hbi⟩:=Ab (l:=bs) (i:=i) oz;have hst:=NN (A:=A) b.body (by have:=hw b (qc hbi);omega);have hd:bs.drop i=b::bs.drop (i+1):=by
    rw[qaV oz];congr 1;have:=qj (l:=bs) (i:=i) oz;rw[hbi]at this;exact(qaK this).symm
   have hlt:i<bs.length:=oz;have hcl2:BD Aj (bs.drop i) b0.name=.mk (if b.isRec then 7 else 6) 0 b.name 0 [Aj b.body,BD Aj (bs.drop (i+1)) b0.name] [] tz:=(by rw[hd,GA]);generalize hE:BD Aj (bs.drop (i+1)) b0.name=E at *
   unfold LE;cases hr:b.isRec with
   |true=>
    simp only[hr,if_true]at hcl2;rcases hcs with rfl|⟨rfl,rfl⟩
    .simp (disch:=try exact zd) [hbi,hst,hr,hlt,-getElem?_pos]
     exact⟨i,oz,rfl,by rw[hcl2];simp[Cs,wc]⟩
    .simp (disch:=try exact zd) [hbi,hst,hr,hlt,-getElem?_pos]
     exact⟨i,oz,rfl,by rw[hcl2];simp[Cs,En,wc]⟩
   |false=>
    simp only[hr,qw,if_false]at hcl2;rcases hcs with rfl|⟨rfl,rfl⟩
    .simp (disch:=try exact zd) [hbi,hst,hr,hlt,-getElem?_pos]
     exact⟨i,oz,rfl,by rw[hcl2];simp[Cs,wc]⟩
    .simp (disch:=try exact zd) [hbi,hst,hr,hlt,-getElem?_pos]
     exact⟨i,oz,rfl,by rw[hcl2];simp[Cs,En,wc]⟩
  .rintro s ⟨i,cs,hij,hcs,rfl⟩
   obtain rfl:i=0:=oz;rw[qbc]at hcs;unfold LE;rcases hcs with rfl|⟨rfl,hE⟩
   .simp(disch:=try exact zd) [-getElem?_pos]
   .simp(disch:=try exact zd) [hE,expV,En]
variable {A:Ag}
theorem Rn {ds:List DataD}{nm:Str}(hn:nm∈B6):∀(l:List BindD),(∀b∈l,b.name∈B6/\mkE ds b.body)->mkE ds (BD id l nm)
 |[],_=>Fq (by simp[mkE1,mkS,annT,numB,Exp.kind,Exp.pos,Exp.name,Exp.num,Exp.kids,Exp.arms,Exp.ty,tz,Ty.size_leaf,hn])
 |b::l,h=>by
  obtain⟨h1,h2⟩:=h b sy;rw[GA,FV];refine⟨?_,?_,by simp⟩
  .cases b.isRec<;>simp[mkE1,mkS,annT,numB,Exp.kind,Exp.pos,Exp.name,Exp.num,Exp.kids,Exp.arms,Exp.ty,tz,Ty.size_leaf,h1]
  .intro x hx
   rcases qF.1 hx with rfl|hx
   .exact h2
   .rw [qo.1 hx]
    exact Rn hn l fun c hc=>h c (by simp[hc])
theorem Zdr {ds:List DataD}{bs:List BindD}(h:∀b∈bs,b.name∈B6/\mkE ds b.body):mkE ds (BB id bs):=by
 unfold BB;split
 .exact Fq (by simp[mkE1,mkS,annT,numB,Exp.kind,Exp.pos,Exp.name,Exp.num,Exp.kids,Exp.arms,Exp.ty,tz,Ty.size_leaf])
 .rename_i hb
  refine Rn ?_ bs h;obtain⟨b,hb2⟩:∃b,bs[bs.length-1]?=some b:=Ab (by have:=qas.2 hb;omega);rw[Mm hb2 (by have:=qas.2 hb;omega)];exact(h b (qc hb2)).1
theorem Ze5 {B:Nat}{bs:List BindD}(h:∀b∈bs,b.body.weight<=B):(BB id bs).weight<=1+bs.length*(B+1):=by
 unfold BB;split
 .have:=Gk 3 0 []
  omega
 .exact Ua h _
theorem YW {ds:List DataD}{bs:List BindD}(hc:EK ds)(hb:bs.length<=4)(h:∀b∈bs,F7 ds b):OkR (BB Aj bs)/\tyBd (BB Aj bs):=by
 have hm:=Zdr fun b hm=>⟨(h b hm).1,(h b hm).2.1⟩;have hw:=Ze5 (B:=1768) fun b hm=>(h b hm).2.2.1;have h4:bs.length*(1768+1)<=4*1769:=qG _ hb;rw[<-Zfi,OO _ hm.pos];have hst:=hm.stE hc;exact⟨⟨hst,7100,Nt _ (by have:=JS (BB id bs);omega),oz,oz⟩,hm.tyBd⟩
theorem OkR.ty {e:Exp}(h:OkR e):tyBd e:=by
 have hl:=h.1.lf;clear h
 induction e using Exp.ind with
 |h e ih=>
  rw[DU];exact⟨hl.2.one.2.2.2.1,fun x hx=>ih x hx (hl.child hx)⟩
theorem OkR.wt {e:Exp}(h:OkR e):e.weight<=100000000:=by
 obtain⟨_,B,hB⟩:=h;exact hB.sm
variable {A:Ag}
def Lv (e:Exp)(o:Option (Exp×Nat)):V:=match o with
 |some p=>.tu [expV p.1,intV 4,Ad true]
 |none=>.tu [expV e,intV 0,Ad false]
def chBR (T:List Str)(vars:List Str)(b:Exp)(i:Nat):Exp:=Cr ((renL T vars).take i) b
def chSR (T:List Str)(args:List Exp)(b:Exp)(i:Nat):Exp:=Cr ((argL T args).take i) b
theorem Sh (l m:List (Str×Exp))(e:Exp):Cr (l++m) e=Cr m (Cr l e):=by
 unfold Cr;rw[qaY]
theorem U4 (l:List (Str×Exp))(p:Str×Exp)(b:Exp):Cr (l++[p]) b=refP (Cr l b) p.1 p.2:=by rw[Sh];rfl
theorem YU {T vars:List Str}{b:Exp}{i:Nat}{v:Str}(h:vars[i]?=some v):chBR T vars b (i+1)=refP (chBR T vars b i) v (varX (Av i T)):=by
 have h2:(renL T vars)[i]?=some (v,varX (Av i T)):=by unfold renL;simp[h]
 unfold chBR;rw[AR h2,U4]
theorem Zhe {T:List Str}{args:List Exp}{b:Exp}{i:Nat}{x:Exp}(h:args[i]?=some x):chSR T args b (i+1)=refP (chSR T args b i) (Av i T) x:=by
 have h2:(argL T args)[i]?=some (Av i T,x):=by unfold argL;simp[h]
 unfold chSR;rw[AR h2,U4]
theorem Tx (e:Exp)(vars:List Str):renL (Ak e) vars=renL (Ao e) vars:=by
 unfold renL;simp only[NX]
theorem Xk (e:Exp)(args:List Exp):argL (Ak e) args=argL (Ao e) args:=by
 unfold argL;simp only[NX]
theorem S9 (T vars:List Str):∀p∈renL T vars,okE p.2:=by
 intro p hp;obtain⟨q,_,rfl⟩:=qI.1 hp;exact D7 _
theorem ZcV {T:List Str}{args:List Exp}(h:∀a∈args,okE a):∀p∈argL T args,okE p.2:=by
 intro p hp;obtain⟨⟨y,i⟩,hq,rfl⟩:=qI.1 hp;exact h y (qc (qal.1 hq))
theorem CaseOk.renR {e k:Exp}{a:ArmH×Exp}(h:CaseOk 6000 e k a)(j:Nat):shp (chBR (Ao e) a.1.vars a.2 j)/\(chBR (Ao e) a.1.vars a.2 j).weight<=a.2.weight:=by
 obtain⟨r1,r2,r3⟩:=h.ren j;have hs:=(FK ((renL (Ao e) a.1.vars).take j) a.2 a.2 (Ci _) (h.ok.child (Br h.am)) fun p hp=>S9 _ _ p (qaa hp)).1;rw[Tx]at r1 r3;have hw:=sameP.weight _ _ hs;exact⟨sameP.shp _ _ hs r1.1,by unfold chBR;omega⟩
theorem CaseOk.subR {e k:Exp}{a:ArmH×Exp}(h:CaseOk 6000 e k a)(j:Nat):shp (chSR (Ao e) (Ai k).2 (Cr (renL (Ao e) a.1.vars) a.2) j)/\(chSR (Ao e) (Ai k).2 (Cr (renL (Ao e) a.1.vars) a.2) j).weight<=100000000000:=by
 obtain⟨s1,s2,s3⟩:=h.sub j;have hsw:=h.lm.wt;obtain⟨q1,q2⟩:=FK (renL (Ao e) a.1.vars) a.2 a.2 (Ci _) (h.ok.child (Br h.am)) (S9 _ _);have hs:=(FK ((argL (Ao e) (Ai k).2).take j) _ _ q1 q2 fun p hp=>ZcV (fun x hx=>(h.args x hx).1) p (qaa hp)).1;rw[Tx,Xk]at s1 s3;have hw:=sameP.weight _ _ hs;exact⟨sameP.shp _ _ hs s1.1,by unfold chSR;omega⟩
theorem KW (e:Exp)(x:Str)(b:Exp)(hl:e.weight<=100000000000)(hs:shp e)(hb:b.wf)(hbw:b.weight<=100000000000):(K A).call 103 [expV e,strV x,expV b] []=some (expV (refP e x b),[]):=Nd e.weight e x b (qg _) hl hs hb hbw
def Eg (e:Exp)(con:Str)(args:List Exp)(i:Nat):St:=⟨[(1,strV con),(2,Ce args),(3,.sc (.ptr 64 0)),(6,.sc (.ptr 128 0)),(9,intV i)],[(64,some (.box (wc e.row))),(128,some (.box [zi,zi,zs,zi,.nil,.nil,zi,zs,zi,zi,.nil]))]⟩
theorem Sp (e:Exp)(con:Str)(args:List Exp)(hw:e.weight<=687194767360)(i:Nat)(a:ArmH×Exp)(ha:e.arms[i]?=some a)(hn:a.1.con≠con):wp (K A) Hk (fun x s'=>x=.normal/\s'=Eg e con args (i+1)) (Eg e con args i):=by
 have hi:=(qf.1 ha).1;have hal:=e.children_le;rw[e.children_len]at hal;unfold Hk Eg;simp(maxSteps:=9^7) (disch:=try exact zd) [hi,ha,hn,-getElem?_pos]
theorem ZhM (e k:Exp)(hk:e.kids=[k])(he:okE e)(hl:lfE e)(hw:e.weight<=6000):(K A).call 105 [expV e,strV (Ai k).1.name,Ce (Ai k).2] []=some (Lv e (BT refP Ao e (Ai k).1.name (Ai k).2),[]):=by
 have hkm:k∈e.children:=AD (by rw[hk];simp);have hkl:=Exp.child_lt hkm;have hsk:=(he.child hkm).1;have hal:=e.children_le;rw[e.children_len]at hal;have hsl:=JI k hsk;have hus:=JG (A:=A) e oz;have hul:=GK e;refine fnO v105 ?_;unfold v105;simp(maxSteps:=9^7) (disch:=try exact zd) [-getElem?_pos];cases hf:e.arms.find? fun a=>a.1.con==(Ai k).1.name with
 |none=>
  refine An (Eg e (Ai k).1.name (Ai k).2) e.arms.length (by simp[Eg]) (fun i hi=>?_) ?_
  .obtain ⟨a,ha⟩:=Ab hi
   refine Sp e _ _ oz i a ha fun hc=>?_;have:=List.find?_eq_none.1 hf a (qc ha);simp[hc]at this
  .unfold BT
   rw[hf];unfold Hk Eg Lv;simp(maxSteps:=9^7) (disch:=try exact zd) [-getElem?_pos]
 |some a=>
  obtain⟨hp,i,hi,hai,hlt⟩:=List.find?_eq_some_iff_getElem.1 hf;have hai':e.arms[i]?=some a:=by rw[qj hi,hai]
  refine An (Eg e (Ai k).1.name (Ai k).2) i (by simp[Eg]) (fun j hj=>?_) ?_
  .obtain ⟨b,hb⟩:=Ab (l:=e.arms) (i:=j) oz
   refine Sp e _ _ oz j b hb fun hc=>?_;have h1:=hlt j hj;have h2:e.arms[j]'(by omega)=b:=(qf.1 hb).2;rw[h2]at h1;simp[hc]at h1
  .have hcon:a.1.con=(Ai k).1.name:=by simpa using hp
   unfold BT;rw[hf];simp only;by_cases hv:a.1.vars.length=(Ai k).2.length
   .rw [if_pos hv]
    have hC:CaseOk 6000 e k a:=⟨he,hl,Lim.small hw,hk,qc hai'⟩;have hsum:=hC.sum;have hch:Js refP (D1 (Ao e) a.1.vars (Ai k).2) a.2=chSR (Ao e) (Ai k).2 (chBR (Ao e) a.1.vars a.2 a.1.vars.length) (Ai k).2.length:=by
     unfold chSR chBR;rw[qh (show(renL (Ao e) a.1.vars).length<=_ by simp[renL]),qh (show(argL (Ao e) (Ai k).2).length<=_ by simp[argL]),<-Sh];rfl
    rw[hch];have hfr:∀i:Nat,i<=6000->(K A).call 110 [intV i,AB (Ao e)] []=some (strV (Av i (Ao e)),[]):=fun i hi=>RT (A:=A) i (Ao e) oz oz;unfold Hk Eg Lv;simp(maxSteps:=9^7) (disch:=try exact zd) [hi,hai',hcon,hv,hus,-getElem?_pos];refine An (fun i=>⟨[(2,Ce (Ai k).2),(6,.sc (.ptr 128 0)),(10,.sc (.ptr 1024 0)),(12,.sc (.ptr 2304 0)),(11,AB (Ao e)),(13,intV i)],
     [(128,some (.box [zi,zi,zs,zi,.nil,.nil,zi,zs,zi,zi,.nil])),(1024,some (.box (wc (Ay a)))),(2304,some (.box (wc (chBR (Ao e) a.1.vars a.2 i).row)))]⟩) (Ai k).2.length ?_ ?_ ?_
    .simp[chBR,Cr]
    .intro i hi
     obtain⟨v,hvi⟩:=Ab (l:=a.1.vars) (i:=i) oz;obtain⟨r1,r3⟩:=hC.renR i;have hren:=ZdM (A:=A) (chBR (Ao e) a.1.vars a.2 i) v (Av i (Ao e)) oz r1;rw[show refS _ _ _ _=_ from(YU hvi).symm]at hren;have hf:=hfr i oz;have hi2:i<a.1.vars.length:=oz;unfold I3;simp(maxSteps:=9^7) (disch:=try exact zd) [hi,hi2,hvi,hf,hren,-getElem?_pos]
    .have hB:chBR (Ao e) a.1.vars a.2 (Ai k).2.length=Cr (renL (Ao e) a.1.vars) a.2:=by
      unfold chBR;rw[qh (by simp[renL];omega)]
     rw[hB];unfold I3;simp(maxSteps:=9^7) (disch:=try exact zd) [-getElem?_pos];refine An (fun i=>⟨[(2,Ce (Ai k).2),(6,.sc (.ptr 128 0)),(12,.sc (.ptr 2304 0)),(11,AB (Ao e)),(14,intV i)],
      [(128,some (.box [zi,zi,zs,zi,.nil,.nil,zi,zs,zi,zi,.nil])),(1024,some (.box (wc (Ay a)))),(2304,some (.box (wc (chSR (Ao e) (Ai k).2 (Cr (renL (Ao e) a.1.vars) a.2) i).row)))]⟩) (Ai k).2.length ?_ ?_ ?_
     .simp[chSR,Cr]
     .intro i hi
      obtain⟨x,hx⟩:=Ab (l:=(Ai k).2) (i:=i) hi;obtain⟨s1,s2⟩:=hC.subR i;obtain⟨x1,x2,x3,_⟩:=hC.args x (qc hx);have hsu:=KW (A:=A) (chSR (Ao e) (Ai k).2 (Cr (renL (Ao e) a.1.vars) a.2) i) (Av i (Ao e)) x s2 s1 x1.1.wf oz;rw[<-Zhe hx]at hsu;have hf:=hfr i oz;unfold Lx;simp(maxSteps:=9^7) (disch:=try exact zd) [hi,hx,hf,hsu,-getElem?_pos]
     .unfold Lx
      simp(maxSteps:=9^7) (disch:=try exact zd) [-getElem?_pos]
   .rw [if_neg hv]
    have hv':¬(a.1.vars.length:Int)=(Ai k).2.length:=oz;unfold Hk Eg Lv;simp(maxSteps:=9^7) (disch:=try exact zd) [hi,hai',hcon,hv,hv',-getElem?_pos]
variable {A:Ag}
theorem Sd (e f x:Exp)(m:Int)(b:Bool)(hl:e.weight<=687194767360)(hf:e.kids[0]?=some f)(hc:(K A).call 50 [expV f] []=some (.tu [expV x,intV m,Ad b],[])):
 (K A).call 104 [expV e] []=some (.tu [expV (AG e (x::e.children.tail)),intV m,Ad b],[]):=by
 have hkl:0<e.kids.length:=by
  cases hh:e.kids with
  |nil=>rw[hh]at hf;simp at hf
  |cons a l=>simp
 have hle:=e.children_le;rw[e.children_len]at hle;have hch:=EW (A:=A) e oz;have hcl:=e.children_len;have hset:e.children.set 0 x=x::e.children.tail:=by
  cases hh:e.children with
  |nil=>rw[hh]at hcl;simp at hcl;omega
  |cons a l=>rfl
 have hrs:setRow (wr (Exp.rows e.children)) 0 (wc x.row)=wr (Exp.rows (x::e.children.tail)):=by rw[DM,hset]
 have hCl:(x::e.children.tail).length=e.kids.length+e.arms.length:=by rw[<-hset,List.length_set,hcl]
 have hw:=Qh (A:=A) e (x::e.children.tail) hCl hl;obtain⟨c0,hg0⟩:∃c,e.children[0]?=some c:=Ab oz;rw[hcl]at hch;have hrow':=BQ e
 have hrowW:wc (AG e (x::e.children.tail)).row=[.c (.int .i64 e.kind),.c (.int .i64 e.pos),.c (.str e.name),.c (.int .i64 e.num),.c (.sl (Exp.rows ((x::e.children.tail).take e.kids.length))),.c (.sl (Exp.armRows (Aw e.arms ((x::e.children.tail).drop e.kids.length)))),.c (.int .i64 e.ty.kind),.c (.str e.ty.name),.c (.int .i64 e.ty.id),.c (.int .i64 e.ty.home),.c (.sl (Ty.rows e.ty.args))]:=by rw[Exp.row_eq];rfl
 have hkW:((x::e.children.tail).take e.kids.length).length=e.kids.length:=by rw[qQ,hCl];omega
 have haW:(Aw e.arms ((x::e.children.tail).drop e.kids.length)).length=e.arms.length:=by rw[armsW_len,qac,hCl];omega
 refine fnO v104 ?_;unfold v104;generalize x::e.children.tail=cs at *
 simp only[expV,hrow']at hch hw;simp(maxSteps:=9^7) (disch:=try exact zd) [hf,hc,hch,hrs,hg0,hw,hrowW,hCl,hkW,haW,hrow',-getElem?_pos]
theorem get0 {α:Type}(x:α)(l:List α):(x::l)[0]?=some x:=rfl
theorem get1 {α:Type}(x y:α)(l:List α):(x::y::l)[1]?=some y:=rfl
def ON (A:Ag)(n:Nat)(e:Exp):Prop:=∃(x:Exp) (m:Int) (b:Bool),(K A).call 50 [expV e] []=some (.tu [expV x,intV m,Ad b],[])/\
 ((b=true/\∃m':Nat,m=m'/\Ar refP Ao BV n e=some (x,m'))\/(b=false/\Ar refP Ao BV n e=none))
theorem GV {n:Nat}{e x:Exp}{m:Nat}(h:(K A).call 50 [expV e] []=some (.tu [expV x,intV m,Ad true],[]))(hs:Ar refP Ao BV n e=some (x,m)):ON A n e:=⟨x,m,true,h,.inl ⟨rfl,m,rfl,hs⟩⟩
theorem Pw {n:Nat}{e x:Exp}{m:Int}(h:(K A).call 50 [expV e] []=some (.tu [expV x,intV m,Ad false],[]))(hs:Ar refP Ao BV n e=none):ON A n e:=⟨x,m,false,h,.inr ⟨rfl,hs⟩⟩
theorem Mv:∀(n:Nat)(e:Exp),e.weight<=n->okE e->lfE e->recZ e->e.weight<=6000->ON A n e
 |0,e,h,_,_,_,_=>by have:=e.weight_pos;omega
 |n+1,e,hn,he,hl,hz,hw=>by
  have hs:=he.1;by_cases h2:e.kind=5\/e.kind=6\/e.kind=7
  .obtain ⟨f,a,hk⟩:=Jg hs h2
   have hf:e.kids[0]?=some f:=(by rw[hk];rfl);have hfm:f∈e.children:=AD (qc hf);have ham:a∈e.children:=AD (by rw[hk];simp);have hlf:=Exp.child_lt hfm;have hla:=Exp.child_lt ham;rcases h2 with h5|h6|h7
   .by_cases h4:f.kind=4
    .obtain ⟨k,hfk⟩:=KR (hs.child hfm) (.inl h4)
     have hkm:k∈f.children:=AD (by rw[hfk];simp);have hlk:=Exp.child_lt hkm;have hsu:=KW (A:=A) k f.name a oz ((hs.child hfm).child hkm) (hs.child ham).wf oz;refine GV (m:=1) (x:=refP k f.name a) ?_ (by unfold Ar;rw[hk];simp[h5,h4,hfk]);refine fnO v50 ?_;unfold v50;simp(maxSteps:=9^7) (disch:=try exact zd) [h5,hk,h4,hfk,get0,get1,hsu,-getElem?_pos]
    .obtain ⟨x,m,b,hc,hb⟩:=Mv n f oz (he.child hfm) (hl.child hfm) (hz.child hfm) oz
     have hfi:=Sd (A:=A) e f x m b oz hf hc;refine⟨AG e (x::e.children.tail),m,b,?_,?_⟩
     .refine fnO v50 ?_
      unfold v50;simp(maxSteps:=9^7) (disch:=try exact zd) [h5,hk,h4,get0,get1,hfi,-getElem?_pos]
     .have hg:Ar refP Ao BV (n+1) e=(Ar refP Ao BV n f).map fun p=>(AG e (p.1::e.children.tail),p.2):=by
       conv=>lhs;unfold Ar
       rw[hk];simp[h5,h4]
      rw[hg];rcases hb with ⟨hb,m',hm',h1⟩|⟨hb,h1⟩
      .exact .inl ⟨hb,m',hm',by rw[h1];rfl⟩
      .exact .inr ⟨hb,by rw[h1];rfl⟩
   .have hsu:=KW (A:=A) a e.name f oz (hs.child ham) (hs.child hfm).wf oz
    refine GV (m:=2) (x:=refP a e.name f) ?_ (by unfold Ar;rw[hk];simp[h6]);refine fnO v50 ?_;unfold v50;simp(maxSteps:=9^7) (disch:=try exact zd) [h6,hk,get0,get1,hsu,-getElem?_pos]
   .have hag:=Gj he h7 hfm
    have hsm:=V7 (f:=f) hs hz h7;have hsu:=KW (A:=A) a e.name (BV e f) oz (hs.child ham) (sameP.shp _ _ hsm hag.1).wf (by have:=sameP.weight _ _ hsm;have:=NL (f:=f) he h7;omega)
    rw[show expV (BV e f)=.ag [.c (.int .i64 7),.c (.int .i64 0),.c (.str e.name),.c (.int .i64 0),.c (.sl [f.row,f.row]),.c (.sl []),.c (.int .i64 0),.c (.str []),.c (.int .i64 0),.c (.int .i64 0),.c (.sl [])] by unfold BV;simp only[expV,Exp.row_eq (Exp.mk _ _ _ _ _ _ _)];rfl]at hsu;refine GV (m:=3) (x:=refP a e.name (BV e f)) ?_ (by unfold Ar;rw[hk];simp[h7]);refine fnO v50 ?_;unfold v50
    simp(maxSteps:=9^7) (disch:=try exact zd) [h7,hk,get0,get1,hsu,-getElem?_pos]
  .by_cases h1:e.kind=4\/e.kind=8\/e.kind=9\/e.kind=11
   .obtain ⟨k,hk⟩:=KR hs h1
    have hf:e.kids[0]?=some k:=(by rw[hk];rfl);have hkm:k∈e.children:=AD (qc hf);have hlk:=Exp.child_lt hkm;rcases h1 with h4|h8|h9|h11
    .refine Pw (m:=0) (x:=e) ?_ (by unfold Ar;rw [hk];simp [h4])
     refine fnO v50 ?_;unfold v50;simp(maxSteps:=9^7) (disch:=try exact zd) [h4,-getElem?_pos]
    .have hsp:=RL (A:=A) k (hs.child hkm) oz
     have hspq:=HP k.weight k [] (qg _) (hs.child hkm);by_cases hm:(Ai k).1.kind=2
     .have hc:=ZhM (A:=A) e k hk he hl hw
      have hg:Ar refP Ao BV (n+1) e=BT refP Ao e (Ai k).1.name (Ai k).2:=by
       conv=>lhs;unfold Ar
       rw[hk];simp[h8,hspq,hm]
      cases ho:BT refP Ao e (Ai k).1.name (Ai k).2 with
      |none=>
       rw[ho]at hc;replace hc:(K A).call 105 [expV e,strV (Ai k).1.name,Ce (Ai k).2] []=some (.tu [expV e,intV 0,Ad false],[]):=hc;refine Pw (m:=0) (x:=e) ?_ (by rw[hg,ho]);refine fnO v50 ?_;unfold v50;simp(maxSteps:=9^7) (disch:=try exact zd) [h8,hk,get0,hsp,hm,hc,-getElem?_pos]
      |some p=>
       rw[ho]at hc;replace hc:(K A).call 105 [expV e,strV (Ai k).1.name,Ce (Ai k).2] []=some (.tu [expV p.1,intV 4,Ad true],[]):=hc;have h4:p.2=4:=by
        unfold BT at ho;split at ho
        .cases ho
        .split at ho
         .exact(congrArg Prod.snd (qaK ho)).symm
         .cases ho
       refine GV (m:=4) (x:=p.1) ?_ (by rw[hg,ho,<-h4]);refine fnO v50 ?_;unfold v50;simp(maxSteps:=9^7) (disch:=try exact zd) [h8,hk,get0,hsp,hm,hc,-getElem?_pos]
     .obtain ⟨x,m,b,hc,hb⟩:=Mv n k oz (he.child hkm) (hl.child hkm) (hz.child hkm) oz
      have hfi:=Sd (A:=A) e k x m b oz hf hc;refine⟨AG e (x::e.children.tail),m,b,?_,?_⟩
      .refine fnO v50 ?_
       unfold v50;simp(maxSteps:=9^7) (disch:=try exact zd) [h8,hk,get0,hsp,hm,hfi,-getElem?_pos]
      .have hg:Ar refP Ao BV (n+1) e=(Ar refP Ao BV n k).map fun p=>(AG e (p.1::e.children.tail),p.2):=by
        conv=>lhs;unfold Ar
        rw[hk];simp[h8,hspq,hm]
       rw[hg];rcases hb with ⟨hb,m',hm',h1⟩|⟨hb,h1⟩
       .exact .inl ⟨hb,m',hm',by rw[h1];rfl⟩
       .exact .inr ⟨hb,by rw[h1];rfl⟩
    .refine GV (m:=5) (x:=k) ?_ (by unfold Ar;rw [hk];simp [h9])
     refine fnO v50 ?_;unfold v50;simp(maxSteps:=9^7) (disch:=try exact zd) [h9,hk,get0,-getElem?_pos]
    .refine GV (m:=6) (x:=k) ?_ (by unfold Ar;rw [hk];simp [h11])
     refine fnO v50 ?_;unfold v50;simp(maxSteps:=9^7) (disch:=try exact zd) [h11,hk,get0,-getElem?_pos]
   .refine Pw (m:=0) (x:=e) ?_ (by unfold Ar;rw [TA hs h2 h1])
    have k5:¬e.kind=5:=oz;have k6:¬e.kind=6:=oz;have k7:¬e.kind=7:=oz;have k8:¬e.kind=8:=oz;have k9:¬e.kind=9:=oz;have k11:¬e.kind=11:=oz;refine fnO v50 ?_;unfold v50;simp(maxSteps:=9^7) (disch:=try exact zd) [k5,k6,k7,k8,k9,k11,-getElem?_pos]
variable {A:Ag}
def Je (ds:List DataD)(e:Exp):Prop:=rawE1 ds e/\annT e/\numB e/\(e.kind=8->e.arms≠[])/\∀a∈e.arms,a.1.vars.length<=2
def rawN (ds:List DataD)(e:Exp):Prop:=e.fold fun e l=>Je ds e/\∀p∈l,p
theorem SV (ds:List DataD)(e:Exp):rawN ds e=(Je ds e/\∀x∈e.children,rawN ds x):=by
 have:=Exp.fold_eq (fun e (l:List Prop)=>Je ds e/\∀p∈l,p) e;unfold rawN;rw[this];simp only[qV]
theorem rawN.one {ds:List DataD}{e:Exp}(h:rawN ds e):Je ds e:=by rw[SV]at h;exact h.1
theorem rawN.child {ds:List DataD}{e x:Exp}(h:rawN ds e)(hx:x∈e.children):rawN ds x:=by rw[SV]at h;exact h.2 x hx
theorem rawN.mkE {ds:List DataD}{e:Exp}:rawN ds e->(e.fold fun e l=>(∀a∈e.arms,a.1.vars.Nodup)/\∀p∈l,p)->mkE ds e:=by
 induction e using Exp.ind with
 |h e ih=>
  intro h hp;rw[Exp.fold_eq]at hp;simp only[qV]at hp;rw[KP];refine⟨?_,fun x hx=>ih x hx (h.child hx) (hp.2 x hx)⟩;obtain⟨⟨h1,h2,h3,h4,h5,h6⟩,h7,h8,h9,h10⟩:=h.one;refine⟨h1,fun a ha=>?_,qr h3 (by decide),h7,h8,?_⟩
  .obtain ⟨g1,g2,g3,g4⟩:=h2 a ha
   exact⟨g1,g2,h10 a ha,hp.1 a ha,fun v hv=>Gr (g4 v hv)⟩
  .rcases h6 with h|h|h|h|h|h|h|h
   .exact .inl ⟨h.1,Gr h.2.1,h.2.2⟩
   .exact .inr (.inl h)
   .exact .inr (.inr (.inl h))
   .exact .inr (.inr (.inr (.inl ⟨h.1,Gr h.2.1,h.2.2⟩)))
   .exact .inr (.inr (.inr (.inr (.inl h))))
   .exact .inr (.inr (.inr (.inr (.inr (.inl ⟨h.1,Gr h.2.1,h.2.2⟩)))))
   .exact .inr (.inr (.inr (.inr (.inr (.inr (.inl h))))))
   .exact .inr (.inr (.inr (.inr (.inr (.inr (.inr ⟨h.1,h.2.1,h.2.2,h9 h.1⟩))))))
def RawN (L:List Int)(ds:List DataD)(B:Nat)(r:V×List Obj):Prop:=∃e J,rawN ds e/\e.weight<=B/\J<=L.length/\r=(expV e,[Ap L J])
def ArmN (L:List Int)(ds:List DataD)(dd:DataD)(x:Exp)(B d i:Nat)(s:St):Prop:=∃arms J,arms.length=i/\J<=L.length/\(∀a∈arms,armE ds a/\rawN ds a.2/\a.2.weight<=B/\a.1.vars.length<=2)/\
 s=⟨[(0,.sc (.ptr 0 0)),(1,Ax ds),(2,intV (d+1)),(6,.sc (.ptr 64 0)),(13,.sc (.ptr 10176 0)),(14,.sc (.ptr 10752 0)),(15,intV i)],
  [(0,some (Ap L J)),(64,some (.box [zi,zi,zs,zi,.nil,.nil,zi,zs,zi,zi,.nil])),(10176,some (.box (wc (A3 dd)))),(10624,some (.arr 11 [wc x.row] 0)),
    (10752,some (.box [.c (.int .i64 8),zi,zs,zi,.arr 10624 1,.arr 10822 i,zi,zs,zi,zi,.nil])),(10822,some (.arr 14 (wr (Exp.armRows arms)) 0))]⟩
variable {A:Ag}
theorem Tj (u:CC1)(e:Exp)(h:StE e)(hw:e.weight<=6000):(K A).call 17 [.sc (.c (.sl u)),expV e] []=some (De e (Ar refP Ao BV e.weight e)):=by
 obtain⟨x,m,b,hc,hb⟩:=Mv (A:=A) e.weight e (qg _) h.ok h.lf h.rz hw;have hsm:=OH e.weight e h.ok h.rz;refine fnO v17 ?_;rcases hb with ⟨rfl,m',rfl,hs⟩|⟨rfl,hs⟩
 .rw [hs] at hsm
  cases hp:Ar subP Ak AI e.weight e with
  |none=>rw[hp]at hsm;exact hsm.elim
  |some p=>
   rw[hp]at hsm;have hx:=GR _ e _ (qg _) h.ok h.lf (Lim.small hw) hp;have hwx:=sameP.weight _ _ hsm.1;have hok:=Qe _ _ hsm.1 (IA (fun e f he hk hf=>Gj he hk hf) _ e _ h.ok hp);have hst:=NN (A:=A) x (by
    have h1:=hx.1;simp only at h1 hwx;omega)
   rw[hs];unfold v17 De;simp(maxSteps:=9^7) (disch:=try exact zd) [hc,hst]
 .rw [hs]
  unfold v17 De;simp(disch:=try exact zd) [hc]
theorem ZbB {e:Exp}(h:StE e):Ar refP Ao BV e.weight e=none↔Ar subP Ak AI e.weight e=none:=by
 have hsm:=OH e.weight e h.ok h.rz;constructor
 .intro hn
  rw[hn]at hsm;cases hp:Ar subP Ak AI e.weight e with
  |none=>rfl
  |some p=>rw[hp]at hsm;exact hsm.elim
 .intro hn
  rw[hn]at hsm;cases hp:Ar refP Ao BV e.weight e with
  |none=>rfl
  |some p=>rw[hp]at hsm;exact hsm.elim
theorem Ve {e:Exp}(h:StE e):De e (Ar refP Ao BV e.weight e)=De e (Ar subP Ak AI e.weight e):=by
 have hsm:=OH e.weight e h.ok h.rz;cases hp:Ar subP Ak AI e.weight e with
 |none=>rw[(ZbB h).2 hp]
 |some p=>
  rw[hp]at hsm;cases hr:Ar refP Ao BV e.weight e with
  |none=>rw[hr]at hsm;exact hsm.elim
  |some q=>
   rw[hr]at hsm;unfold De;simp only;rw[Zh8 _ _ hsm.1,hsm.2]
variable {A:Ag}
def wfT (e:Exp):Prop:=e.wf/\tyBd e
theorem mkE.wfT {ds:List DataD}{e:Exp}(h:mkE ds e):wfT e:=⟨h.wf,h.tyBd⟩
theorem rawE.wfT {ds:List DataD}{e:Exp}(h:rawE ds e):wfT e:=⟨h.wf,h.tyBd⟩
theorem wfT.child {e x:Exp}(h:wfT e)(hx:x∈e.children):wfT x:=⟨h.1.child hx,h.2.child hx⟩
def PutR (B:Nat)(r:V×List Obj):Prop:=∃e b,wfT e/\e.weight<=B/\r=(.tu [expV e,Ad b],[])
variable {A:Ag}
def Uo (B:Nat)(b:BindD):Prop:=wfT b.body/\b.body.weight<=B
def setB (b:BindD)(x:Exp):BindD:=⟨b.isRec,b.name,b.sig,b.ty,x⟩
def MutR (ds:List DataD)(n B:Nat)(r:V×List Obj):Prop:=∃bs:List BindD,bs.length=n/\(∀b∈bs,Uo B b)/\r=(GF ds bs,[])
def Ziq (L:List Int)(ds:List DataD)(bs:List BindD)(i n r:Nat)(s:St):Prop:=∃(path:List Int) (e:Exp) (J:Nat),path.length<=r/\wfT e/\e.weight<=100000/\J<=L.length/\
 s=⟨[(2,.sc (.ptr 64 0)),(4,.sc (.ptr 128 0)),(5,.sc (.ptr 320 0)),(6,intV i),(7,.sc (.arr 1473 path.length)),(8,.sc (.ptr 1920 0)),(9,intV ((n:Int)-r))],
  [(64,some (.box [.c (.sl (AO ds)),.c (.sl (Cl bs))])),(128,some (.box [.nil,.nil])),(320,some (Ap L J)),(1473,some (.arr 1 (wr (Bn path)) 0)),(1920,some (.box (wc e.row)))]⟩
variable {A:Ag}
theorem Zav (l:List BindD):(K A).call 61 [.sc (.c (.sl (Cl l)))] []=some (.sc (.clo 114 [true] [[.ptr 0 0]]),[.box [.c (.sl (Cl l))]]):=by
 refine fnO v61 ?_;unfold v61;simp(disch:=try exact zd)
theorem Ye {g:Exp->Exp}{l:List BindD}(h:∀b∈l,wfT (g b.body))(nm:Str):wfT (BD g l nm):=by
 induction l with
 |nil=>
  refine⟨?_,?_⟩
  .show (Exp.mk 1 0 nm 0 [] [] tz).wf
   rw[Exp.wf_eq];exact⟨⟨fun h=>absurd (show(1:Int)=8 from h) (by decide),fun _=>rfl,fun _=>rfl⟩,fun x hx=>by cases hx⟩
  .show tyBd (Exp.mk 1 0 nm 0 [] [] tz)
   rw[DU];exact⟨by show tz.size<=_;decide,fun x hx=>by cases hx⟩
 |cons b l ih=>
  have h1:=h b sy;have h2:=ih fun b hb=>h b (by simp[hb]);have hk:∀k:Int,k=(if b.isRec then 7 else 6)->k≠8/\k≠1:=fun k hk=>by
   cases hb:b.isRec<;>rw[hb]at hk<;>simp at hk<;>omega
  rw[GA];have hc:(Exp.mk (if b.isRec then 7 else 6) 0 b.name 0 [g b.body,BD g l nm] [] tz).children=[g b.body,BD g l nm]:=rfl;refine⟨?_,?_⟩
  .rw [Exp.wf_eq,hc]
   refine⟨⟨fun q=>absurd (show(if b.isRec=true then (7:Int) else 6)=8 from q) (hk _ rfl).1,fun _=>rfl,fun q=>absurd (show(if b.isRec=true then (7:Int) else 6)=1 from q) (hk _ rfl).2⟩,fun x hx=>?_⟩;simp only[qF,qae,or_false]at hx;rcases hx with rfl|rfl
   .exact h1.1
   .exact h2.1
  .rw [DU,hc]
   refine⟨by show tz.size<=_;decide,fun x hx=>?_⟩;simp only[qF,qae,or_false]at hx;rcases hx with rfl|rfl
   .exact h1.2
   .exact h2.2
theorem ZeD (ds:List DataD)(bs:List BindD)(hb:bs.length<=1000)(hw:∀b∈bs,Uo 1000000 b):(K A).call 27 [GF ds bs] []=some (expV (BB Aj bs),[]):=by
 refine fnO v27 ?_;unfold v27;by_cases hz:bs=[]
 .subst hz
  simp(disch:=try exact zd) [-getElem?_pos];simp[BB,expV,En]
 .obtain ⟨n,hn⟩:∃ n,bs.length=n+1:=⟨bs.length-1,by have:=qas.2 hz;omega⟩
  obtain⟨b0,hb0⟩:=Ab (l:=bs) (i:=n) oz;have hlast:=Mm hb0 hn.symm;have hcl:BB Aj bs=Aj (BD id bs b0.name):=by rw[Wh];unfold BB;rw[if_neg hz,hlast]
  have hcw:=Ua (g:=id) (B:=1000000) (fun b h=>(hw b h).2) b0.name;have hmul:bs.length*(1000000+1)<=1000*1000001:=qG _ hb;have hst:=N1 (A:=A) (BD id bs b0.name) (Ye (fun b h=>(hw b h).1) _).1 oz;rw[hcl];have hn0:¬((n:Int)+1=0):=oz
  have hbk:=Zav (A:=A) bs;simp(disch:=try exact zd) [hn,hn0,hb0,hz,hbk,-getElem?_pos];refine Yu (by simp;rfl) oz (by simp;rfl) (by simp;omega) (fun i st=>∃(cs:List W) (tail:List (Nat×Option Obj)),(cs=wc (BD id (bs.drop i) b0.name).row\/(cs=Gw 1 b0.name/\BD id (bs.drop i) b0.name=.mk 1 0 b0.name 0 [] [] tz))/\
   (tail=[]\/∃a b,tail=[(1536,some a),(2304,some b)])/\st=⟨[(2,.sc (.ptr 128 0)),(4,.sc (.ptr 1216 0)),(24,.sc (.clo 114 [true] [[.un]]))],[(64,some (.box [.c (.sl (AO ds)),.c (.sl (Cl bs))])),(128,some (.box [zi,zi,zs,zi,.nil,.nil,zi,zs,zi,zi,.nil])),(1216,some (.box cs))]++tail⟩) ?_ ?_ ?_
  .exact⟨Gw 1 b0.name,[],.inr ⟨rfl,by rw[bindRows_len,qY oz];rfl⟩,.inl rfl,by simp⟩
  .rintro i st' row ⟨cs,tail,hcs,htl,rfl⟩ hrow
   have hi:i<bs.length:=by
    have:=(qf.1 hrow).1;simpa using this
   obtain⟨b,hbi⟩:=Ab (l:=bs) (i:=i) hi;simp[hbi]at hrow;subst hrow;have hd:bs.drop i=b::bs.drop (i+1):=by
    rw[qaV hi];congr 1;have:=qj (l:=bs) hi;rw[hbi]at this;exact(qaK this).symm
   have hcl2:BD id (bs.drop i) b0.name=.mk (if b.isRec then 7 else 6) 0 b.name 0 [b.body,BD id (bs.drop (i+1)) b0.name] [] tz:=(by rw[hd,GA];rfl);refine⟨rfl,.ag (wc (BY b)),by simp[asV],?_⟩;generalize BD id (bs.drop (i+1)) b0.name=E at *
   cases hr:b.isRec with
   |true=>
    simp only[hr,if_true]at hcl2;rcases htl with rfl|⟨oa,ob,rfl⟩<;>rcases hcs with rfl|⟨rfl,rfl⟩
    all_goals
     unfold LU;simp(disch:=try exact zd) [hr,-getElem?_pos];rw[hcl2];simp[Cs,En,wc]
   |false=>
    simp only[hr,qw,if_false]at hcl2;rcases htl with rfl|⟨oa,ob,rfl⟩<;>rcases hcs with rfl|⟨rfl,rfl⟩
    all_goals
     unfold LU;simp(disch:=try exact zd) [hr];rw[hcl2];simp[Cs,En,wc]
  .rintro st' ⟨cs,tail,hcs,htl,rfl⟩
   rw[qbc]at hcs;rcases htl with rfl|⟨oa,ob,rfl⟩<;>rcases hcs with rfl|⟨rfl,hE⟩
   all_goals
    first
     |(rw[hE]at hst;have hst':(K A).call 49 [.ag [.c (.int .i64 1),.c (.int .i64 0),.c (.str b0.name),.c (.int .i64 0),.c (.sl []),.c (.sl []),.c (.int .i64 0),.c (.str []),.c (.int .i64 0),.c (.int .i64 0),.c (.sl [])]] []=some (expV (Aj (Exp.mk 1 0 b0.name 0 [] [] tz)),[]):=(by simpa[expV,En,wc]using hst);simp(disch:=try exact zd) [hst',hE])
     |simp(disch:=try exact zd) [hst]
variable {A:Ag}
def RunQ (u:CC1)(k:Nat)(e:Exp)(i:Nat):St:=⟨[(0,.sc (.c (.sl u))),(2,intV k),(4,.sc (.ptr 64 0)),(6,.sc (.ptr 128 0)),(9,intV i)],[(64,some (.box (wc e.row))),(128,some (.box VD))]⟩
theorem ZgL (u:CC1)(e:Exp)(k:Int)(h:OkR e):(K A).call 70 [.sc (.c (.sl u)),expV e,intV k] []=some (.tu [expV (runP (kP k) e).1,intV ((runP (kP k) e).2:Nat),Ad (decide (valP (runP (kP k) e).1))],[]):=by
 refine fnO v70 ?_;have hk:(if (300:Int)<(if (0:Int)>k then 0 else k) then (300:Int) else (if (0:Int)>k then 0 else k))=(kP k:Int):=by
  unfold kP;split<;>split at *<;>omega
 have hk3:kP k<=300:=by unfold kP;omega
 have h51:=NN (A:=A) e (by have:=h.wt;omega);rw[OO e h.1.ps]at h51;generalize kP k=n at *
 unfold v70;simp(disch:=try exact zd) [hk,h51];refine Am (fun i s=>∃cur,OkR cur/\i<=n/\runP n e=((runP (n-i) cur).1,(runP (n-i) cur).2+i)/\s=RunQ u n cur i) (runP n e).2 ⟨e,h,qab _,rfl,by simp[RunQ]⟩ ?_ ?_
 .rintro i s hi ⟨cur,hok,hin,hr,rfl⟩
  have h2:=congrArg Prod.snd hr;simp only at h2;obtain⟨j,hj⟩:∃j,n-i=j+1:=⟨n-i-1,by have:=Pa (n-i) cur;omega⟩;have hwt:=hok.wt;have h15:=VX (A:=A) cur hok.1.ok.1.wf oz;rw[hj]at hr h2;cases hp:Ar subP Ak AI cur.weight cur with
  |none=>
   rw[Ip hp]at h2;simp only at h2;omega
  |some p=>
   by_cases hn:2000<Az cur
   .rw [Ik hn] at h2
    simp only at h2;omega
   .rw [Gz hp hn] at hr
    have h17:=Tj (A:=A) u cur hok.1 (by have:=MU cur hok.1.lf.2;omega);rw[Ve hok.1,hp]at h17;unfold De at h17;have hnx:=hok.next hp hn;have hiI:(i:Int)<n:=oz;have hnI:(Az cur:Int)<=2000:=oz;obtain⟨x,r⟩:=p;simp only at *
    generalize Aj x=y at *
    refine wp_mono (Q:=fun e' s'=>e'=.normal/\s'=RunQ u n y (i+1)) ?_ ?_
    .unfold IY RunQ
     simp(disch:=try exact zd) [hiI,hnI,h15,h17]
    .rintro e' s' ⟨rfl,rfl⟩
     exact .inl ⟨rfl,y,hnx,oz,by rw[hr,show n-(i+1)=j by omega,qaE,qbf 1 i],rfl⟩
 .rintro s ⟨cur,hok,hin,hr,rfl⟩
  have h2:=congrArg Prod.snd hr;simp only at h2;have hz:=R6 (k:=n-(runP n e).2) (e:=cur) oz;have h1:(runP n e).1=cur:=by rw[hr,hz]
  rw[h1];generalize (runP n e).2=m at *
  have hwt:=hok.wt;have h15:=VX (A:=A) cur hok.1.ok.1.wf oz;have h20:=Zez (A:=A) cur hok.1.ok.1 oz;by_cases hm:m=n
  .have hmI:¬(m:Int)<n:=oz
   unfold IY RunQ;simp(disch:=try exact zd) [hmI,h20]
  .have hmI:(m:Int)<n:=oz
   obtain⟨j,hj⟩:∃j,n-m=j+1:=⟨n-m-1,oz⟩;rw[hj]at h2 hz;by_cases hn:2000<Az cur
   .have hnI:¬(Az cur:Int)<=2000:=oz
    unfold IY RunQ;simp(disch:=try exact zd) [hmI,hnI,h15,h20]
   .have hnI:(Az cur:Int)<=2000:=oz
    have h17:=Tj (A:=A) u cur hok.1 (by have:=MU cur hok.1.lf.2;omega);cases hp:Ar subP Ak AI cur.weight cur with
    |none=>
     rw[Ve hok.1,hp]at h17;unfold De at h17;unfold IY RunQ;simp(disch:=try exact zd) [hmI,hnI,h15,h17,h20]
    |some p=>
     rw[Gz hp hn]at h2;simp only at h2;omega
abbrev runV (e:Exp)(k:Int):V:=.tu [expV (runP (kP k) e).1,intV ((runP (kP k) e).2:Nat),Ad (decide (valP (runP (kP k) e).1))]
theorem YK {ds:List DataD}{bs:List BindD}(k:Int)(hb:bs.length<=4)(h:∀b∈bs,F7 ds b)(hok:OkR (BB Aj bs)):(K A).call 31 [GF ds bs,intV k] []=some (runV (BB Aj bs) k,[]):=by
 have h27:=ZeD (A:=A) ds bs oz fun b hm=>⟨(h b hm).2.1.wfT,by have:=(h b hm).2.2.1;omega⟩;have h33:=ZcU (A:=A) (AO ds) _ k hok;rw[OO _ (hok.run _).1.ps]at h33;refine fnO v31 ?_;generalize BB Aj bs=e at *
 unfold runV;generalize runP (kP k) e=r at *
 unfold v31;simp(disch:=try exact zd) [h27,h33]
theorem ZhR {ds:List DataD}{bs:List BindD}(k:Int)(hb:bs.length<=4)(h:∀b∈bs,F7 ds b)(hok:OkR (BB Aj bs)):(K A).call 32 [GF ds bs,intV k] []=some (runV (BB Aj bs) k,[]):=by
 have h28:=Zda (A:=A) ds bs oz fun b hm=>by have:=(h b hm).2.2.1;omega
 have h70:=ZgL (A:=A) (AO ds) _ k hok;refine fnO v32 ?_;generalize BB Aj bs=e at *
 unfold runV;generalize runP (kP k) e=r at *
 unfold v32;simp(disch:=try exact zd) [h28,h70]
theorem OkR.equal {e:Exp}(h:OkR e):(K A).call 18 [expV e,expV e] []=some (Ad true,[]):=by
 have hw:=h.wt;obtain⟨_,⟨q,hq,rfl⟩,heq⟩:=ZdL (A:=A) e e h.ty oz oz;have hqt:q=true:=hq.2 (Ci _);rw[heq,hqt]
theorem XH (bits:Int)(codes:List Int)(steps:Int)(ds7:List DataD)(h7:ds7.length=7)(hg:∀d∈ds7,fitD d)(hcn:EK ds7)(h55:(K A).call 81 [] []=some (Ax ds7,[]))(h25:(K A).call 25 [] []=some (Ad true,[])):
 (K A).call 6 [intV bits,CI codes,intV steps] []=some (Ad true,[]):=by
 refine fnO v6 ?_;have hf:(K A).call 12 [CI codes] []=some (Ad (decide (codes.length<=60)),[]):=few8 (A:=A) codes;unfold v6;by_cases hl:codes.length<=60
 .obtain ⟨_,⟨ds,bs,hd,hgd,hb,hbs,rfl⟩,hp⟩:=ZhP (A:=A) bits codes oz ds7 h7 hg h55
  obtain⟨hok,hty⟩:=YW (fun d h=>hcn d (hd d h)) hb hbs;have h31:=fun k=>YK (A:=A) k hb hbs hok;have h32:=fun k=>ZhR (A:=A) k hb hbs hok;generalize BB Aj bs=e at *
  obtain⟨i,hi,hmi⟩:=NM (A:=A) steps 30 oz oz;obtain⟨k,hk,hmk⟩:=NM (A:=A) steps 5 oz oz;have heq:=fun n=>(hok.run n).equal (A:=A);unfold runV at h31 h32;simp(disch:=try exact zd) [h25,hf,hl,hp,hmi,hmk];have a1:=h31 i;have a2:=h32 i;have a3:=heq (kP i);have b1:=h31 (-1-k);have b2:=h32 (-1-k);have b3:=heq (kP (-1-k));clear h31 h32 heq;generalize runP (kP i) e=r at *
  generalize runP (kP (-1-k)) e=q at *
  have g0:∀x y:List W,[x,y][0]?=some x:=fun _ _=>rfl;have g1:∀x y:List W,[x,y][1]?=some y:=fun _ _=>rfl;refine An (fun j=>⟨[(7,.sc (.ptr 768 0)),(29,.sc (.arr 1216 2)),(30,intV 2),(31,intV j)],[(768,some (.box [.c (.sl (AO ds)),.c (.sl (Cl bs))])),(1216,some (.arr 1 [[.c (.int .i64 i)],[.c (.int .i64 (-1-k))]] 0))]⟩) 2 sy ?_ ?_
  .intro j hj
   obtain rfl|rfl:j=0\/j=1:=oz
   .unfold l6_0
    simp(disch:=try exact zd) [a1,a2,a3,g0]
   .unfold l6_0
    simp(disch:=try exact zd) [b1,b2,b3,g1]
  .unfold l6_0
   simp(disch:=try exact zd)
 .simp(disch:=try exact zd) [h25,hf,hl]
end Go.Vs.Tryz
