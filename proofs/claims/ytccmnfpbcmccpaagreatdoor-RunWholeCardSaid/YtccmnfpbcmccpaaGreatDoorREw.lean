/- The names of types, signatures, walked. -/
import Derived.Test.YtccmnfpbcmccpaaGreatDoorRDw
set_option linter.all false
set_option maxHeartbeats 64000000
set_option maxRecDepth 10000
namespace Go.Vs.Tryz
open Go Go.Vs
variable {A:Ag}
def R4 (t:Ty)(out:List Str)(r:V×List Obj):Prop:=∃o2:List Str,out.length<=o2.length/\o2.length<=out.length+t.size/\r=(.sc (.arr 0 o2.length),[.arr 1 (wr (Ak o2)) 0])
theorem Zhw:∀(n:Nat)(t:Ty)(out:List Str),t.size<=n->out.length+t.size<=687194767360->
 ∃r,R4 t out r/\(K A).call 167 [.sc (.arr 0 out.length),tyV t] [.arr 1 (wr (Ak out)) 0]=some r:=by
 intro n
 induction n with
 |zero=>
  intro t out ht;have:=t.size_pos;omega
 |succ n ih=>
  intro t out ht hn;have hal:=t.args_lt;have hpos:=t.size_pos;have hts:=t.size_eq;refine fnE v167 ?_;have kids:∀out1:List Str,out.length<=out1.length->out1.length<=out.length+1->wp (K A) (.loop KG) (BH 0 (BO (K A) (.seq (.region [] [o 35 (.mv (tv 0)),o 4 (.mv (tv 35))] [] [4]) .ret) (B3 true 1 [.tmp 4] (R4 t out))))
   ⟨[(0,.sc (.arr 0 out1.length)),(3,.sc (.ptr 64 0)),(5,intV 0)],[(0,some (.arr 1 (wr (Ak out1)) 0)),(64,some (.box (wc t.row)))]⟩:=by
   intro out1 ha hb;refine Al (fun i s=>∃o2:List Str,out1.length<=o2.length/\o2.length<=out1.length+((t.args.map Ty.size).take i).sum/\
    s=⟨[(0,.sc (.arr 0 o2.length)),(3,.sc (.ptr 64 0)),(5,intV i)],[(0,some (.arr 1 (wr (Ak o2)) 0)),(64,some (.box (wc t.row)))]⟩) t.args.length
    ⟨out1,oz,by simp,by simp⟩ ?_ ?_
   .rintro i s hi ⟨o2,h0,h1,rfl⟩
    obtain⟨x,hx⟩:=Ab hi;have hxs:=Ty.arg_lt (qc hx);have hxm:(t.args.map Ty.size)[i]?=some x.size:=(by rw[qk,hx];rfl);have hsum:((t.args.map Ty.size).take (i+1)).sum=((t.args.map Ty.size).take i).sum+x.size:=(by rw[AP hxm];simp);have hle:((t.args.map Ty.size).take (i+1)).sum<=(t.args.map Ty.size).sum:=DS;obtain⟨_,⟨o3,h3,h4,rfl⟩,hc⟩:=ih x o2 oz oz;unfold KG
    simp(disch:=try exact zd) [hi,hx,hc,h3,-getElem?_pos];exact⟨o3,oz,oz,by simp⟩
   .rintro s ⟨o2,h0,h1,rfl⟩
    rw[qh sy]at h1;unfold KG;simp(disch:=try exact zd);exact⟨o2,oz,oz,rfl⟩
  unfold v167;by_cases h1:t.kind=5
  .have hix:=Wf (A:=A) out t.name oz
   by_cases h2:idxS out t.name<0
   .simp (disch:=try exact zd) [h1,hix,h2]
    have:=kids (out++[t.name]) sy sy;simpa using this
   .simp (disch:=try exact zd) [h1,hix,h2]
    exact kids out oz oz
  .simp (disch:=try exact zd) [h1]
   exact kids out oz oz
def Zce (n:Nat)(r:V×List Obj):Prop:=∃l:List Str,l.length<=n/\r=(AA l,[])
theorem Zcj (t:Ty)(ht:t.size<=1000000):∃r,Zce t.size r/\(K A).call 116 [tyV t] []=some r:=by
 obtain⟨_,⟨o2,h1,h2,rfl⟩,hc⟩:=Zhw (A:=A) t.size t [] (qg _) (by simp;omega);have hc:(K A).call 167 [.sc (.arr 0 0),tyV t] [.arr 1 [] 0]=some (.sc (.arr 0 o2.length),[.arr 1 (wr (Ak o2)) 0]):=by simpa using hc
 refine fnE v116 ?_;unfold v116;simp(disch:=try exact zd) [hc,-getElem?_pos];exact⟨o2,by simpa using h2,rfl⟩
def SigR (x:Ty)(r:V×List Obj):Prop:=∃(a b:Ty) (c:Nat),tyS 0 a/\a.size<=x.size/\c<=x.size/\tyB 0 c b/\b.size<=x.size/\r=(.tu [tyV a,schV c b],[])
theorem Rt (x:Ty)(hx:tyS 0 x)(hl:x.size<=1000000)(h:Int):∃r,SigR x r/\(K A).call 67 [tyV x,intV h] []=some r:=by
 obtain⟨_,⟨l,hl1,rfl⟩,hn⟩:=Zcj (A:=A) x hl;have hb:=Pi (A:=A) l oz x oz;have hbz:=Pj l x;have hbS:=Px (l:=l) hx;generalize BW l x=u at *
 refine fnE v67 ?_;unfold v67;simp(disch:=try exact zd) [hn,hb];refine Al (fun i s=>∃args:List Ty,args.length=i/\(∀y∈args,tyS 0 y/\y.size<=1)/\s=⟨[(1,intV h),(4,.sc (.ptr 128 0)),(5,.sc (.ptr 192 0)),(6,AA l),(7,.sc (.ptr 640 0)),(8,.sc (.arr 769 i)),(9,intV i)],
  [(128,some (.box [zi,zs,zi,zi,.nil])),(192,some (.box [zi,zi,zs,zi,zi,.nil])),(640,some (.box (wc u.row))),(769,some (.arr 5 (wr (Ty.rows args)) 0))]⟩) l.length ⟨[],rfl,by simp,by simp⟩ ?_ ?_
 .rintro i s hi ⟨args,ha,hs,rfl⟩
  have hr:=Oj (A:=A) h i;unfold MF;simp(disch:=try exact zd) [hi,hr,ha];refine⟨args++[.mk 3 [] i h []],by simp[ha],?_,by simp⟩;intro y hy;rcases qp.1 hy with hy|hy
  .exact hs y hy
  .simp only [qo] at hy
   subst hy;exact⟨O4,by rw[Ty.size_leaf];exact qg _⟩
 .rintro s ⟨args,ha,hs,rfl⟩
  have hop:=P4 (A:=A) args oz u oz;have hz:=Qc (m:=1) (qg _) (fun y hy=>(hs y hy).2) u;unfold MF;simp(disch:=try exact zd) [hop,ha];exact⟨CE args u,u,l.length,NY (fun y hy=>(hs y hy).1) (by rw[ha];exact hbS),oz,hl1,hbS,hbz,by simp[AY]⟩
theorem ZdA (x:Ty)(hx:tyS 0 x)(hl:x.size<=1000000):∃r,TyR 0 x.size r/\(K A).call 66 [tyV x] []=some r:=by
 obtain⟨_,⟨a,b,c,a1,a2,a3,a4,a5,rfl⟩,hs⟩:=Rt (A:=A) x hx hl 98;refine fnE v66 ?_;unfold v66;simp(disch:=try exact zd) [hs];exact⟨a,a1,a2,rfl⟩
def nam3:List Ty:=[.mk 5 [97] 0 0 [],.mk 5 [98] 0 0 [],.mk 5 [99] 0 0 []]
theorem NL (s:Str):(K A).call 115 [strV s] []=some (tyV (.mk 5 s 0 0 []),[]):=by
 refine fnO v115 ?_;unfold v115;simp(disch:=try exact zd) [Ty.row]
theorem Zg0:(K A).call 63 [] []=some (tysV nam3,[]):=by
 have h1:=NL (A:=A) [97];have h2:=NL (A:=A) [98];have h3:=NL (A:=A) [99];refine fnO v63 ?_;unfold v63;simp(disch:=try exact zd) [h1,h2,h3,nam3,Ty.rows]
theorem ZdI:∀x∈nam3,tyG x/\x.size=1:=by
 intro x hx;simp only[nam3,qG,qag,or_false]at hx;rcases hx with rfl|rfl|rfl
 all_goals exact⟨⟨Zgu ⟨by decide,⟨_,rfl,by decide,by decide⟩,by decide,by decide⟩,Ty.all_iff.2 ⟨fun h=>absurd h.1 (by decide),fun x hx=>by cases hx⟩⟩,Ty.size_leaf⟩
end Go.Vs.Tryz
namespace Go.Vs
open Go
structure BindD where
 isRec:Bool
 name:Str
 sig:Bool
 ty:Ty
 body:Exp
def B5 (b:BindD):List Cell:=[.int .i64 0,.bool b.isRec,.str b.name,.bool b.sig,.int .i64 b.ty.kind,.str b.ty.name,.int .i64 b.ty.id,.int .i64 b.ty.home,.sl (Ty.rows b.ty.args),.int .i64 b.body.kind,.int .i64 b.body.pos,.str b.body.name,.int .i64 b.body.num,.sl (Exp.rows b.body.kids),.sl (Exp.armRows b.body.arms),.int .i64 b.body.ty.kind,.str b.body.ty.name,.int .i64 b.body.ty.id,.int .i64 b.body.ty.home,.sl (Ty.rows b.body.ty.args)]
def CQ (l:List BindD):CC1:=l.map B5
@[simp] theorem bindRow_len (b:BindD):(B5 b).length=20:=rfl
@[simp] theorem bindRows_len (l:List BindD):(CQ l).length=l.length:=by simp[CQ]
@[simp] theorem bindRows_get (l:List BindD) (i:Nat):(CQ l)[i]?=(l[i]?).map B5:=by simp[CQ]
@[simp] theorem okRows_bind (l:List BindD):AZ 20 (wr (CQ l))=true:=Dc l bindRow_len
@[simp] theorem bindRows_snoc (l:List BindD) (x:BindD):wr (CQ l)++[wc (B5 x)]=wr (CQ (l++[x])):=by simp[CQ,wr]
@[simp] theorem bindRows0:CQ []=[]:=rfl
section
variable (b:BindD)
@[simp] theorem cut_bd1:cut (B5 b) 1 1=some [.bool b.isRec]:=rfl
@[simp] theorem cut_bd2:cut (B5 b) 2 1=some [.str b.name]:=rfl
@[simp] theorem cut_bd3:cut (B5 b) 3 1=some [.bool b.sig]:=rfl
@[simp] theorem cut_bd4:cut (B5 b) 4 5=some b.ty.row:=by rw[Ty.row_eq];rfl
@[simp] theorem cut_bd9:cut (B5 b) 9 11=some b.body.row:=by rw[Exp.row_eq];rfl
@[simp] theorem cut_bd:cut (B5 b) 0 20=some (B5 b):=rfl
@[simp] theorem cutw_bd1:cut (wc (B5 b)) 1 1=some [.c (.bool b.isRec)]:=rfl
@[simp] theorem cutw_bd2:cut (wc (B5 b)) 2 1=some [.c (.str b.name)]:=rfl
@[simp] theorem cutw_bd3:cut (wc (B5 b)) 3 1=some [.c (.bool b.sig)]:=rfl
@[simp] theorem cutw_bd4:cut (wc (B5 b)) 4 5=some (wc b.ty.row):=by rw[Ty.row_eq];rfl
@[simp] theorem cutw_bd9:cut (wc (B5 b)) 9 11=some (wc b.body.row):=by rw[Exp.row_eq];rfl
@[simp] theorem cutw_bd:cut (wc (B5 b)) 0 20=some (wc (B5 b)):=rfl
end
def bW (b:BindD):List W:=[.c (.int .i64 0),.c (.bool b.isRec),.c (.str b.name),.c (.bool b.sig),.c (.int .i64 b.ty.kind),.c (.str b.ty.name),.c (.int .i64 b.ty.id),.c (.int .i64 b.ty.home),if b.sig=true then .c (.sl (Ty.rows b.ty.args)) else .nil,
 .c (.int .i64 b.body.kind),.c (.int .i64 b.body.pos),.c (.str b.body.name),.c (.int .i64 b.body.num),.c (.sl (Exp.rows b.body.kids)),.c (.sl (Exp.armRows b.body.arms)),.c (.int .i64 b.body.ty.kind),.c (.str b.body.ty.name),.c (.int .i64 b.body.ty.id),.c (.int .i64 b.body.ty.home),.c (.sl (Ty.rows b.body.ty.args))]
def bWs (l:List BindD):WW1:=l.map bW
@[simp] theorem bW_len (b:BindD):(bW b).length=20:=rfl
@[simp] theorem bWs_len (l:List BindD):(bWs l).length=l.length:=by simp[bWs]
@[simp] theorem bWs_snoc (l:List BindD) (b:BindD):bWs l++[bW b]=bWs (l++[b]):=by simp[bWs]
@[simp] theorem bWs0:bWs []=[]:=rfl
theorem K4 (b:BindD){P:W->Prop}(hc:∀c,P (.c c))(hn:P .nil):∀w∈bW b,P w:=by
 intro w hw;unfold bW at hw;simp only[qG,qag,or_false]at hw;rcases hw with rfl|rfl|rfl|rfl|rfl|rfl|rfl|rfl|rfl|rfl|rfl|rfl|rfl|rfl|rfl|rfl|rfl|rfl|rfl|rfl<;>grind
@[simp] theorem okRows_bW (l:List BindD):AZ 20 (bWs l)=true:=by
 unfold AZ bWs;simp;exact fun b _ y hy=>K4 b (P:=fun y=>Ap y=true) (fun _=>rfl) rfl y hy
theorem Qy (L:LO1)(d:Nat)(b:BindD){y:W}(hy:y∈bW b):W.ids L d y=[]:=
 K4 b (P:=fun y=>W.ids L d y=[]) (fun c=>by cases d<;>rfl) (by cases d<;>rfl) y hy
@[simp] theorem bWs_allIds (L:LO1) (d:Nat) (l:List BindD) (p:Nat->Bool):((bWs l).all fun a=>a.all fun b=>(W.ids L d b).all p)=true:=by
 simp only[qE,bWs,qJ];rintro _ ⟨b,_,rfl⟩ y hy;rw[Qy L d b hy];simp
@[simp] theorem bWs_ids (L:LO1) (d:Nat) (l:List BindD):(bWs l).flatMap (fun x=>x.flatMap (W.ids L d))=[]:=by
 simp only[qaf,bWs,qJ];rintro _ ⟨b,_,rfl⟩ y hy;exact Qy L d b hy
@[simp] theorem bWs_refs (d:Nat) (l:List BindD):(bWs l).flatMap (fun x=>x.flatMap (W.refs d))=[]:=by
 simp only[qaf,bWs,qJ];rintro _ ⟨b,_,rfl⟩ y hy;exact K4 b (P:=fun y=>W.refs d y=[]) (fun c=>by cases d<;>rfl) (by cases d<;>rfl) y hy
@[simp] theorem bWs_ren (ρ:LN1) (d:Nat) (l:List BindD):(bWs l).map (fun x=>x.map (W.ren ρ d))=bWs l:=by
 unfold bWs;rw[qas];refine qM fun b _=>?_;show(bW b).map (W.ren ρ d)=bW b;refine(qM (g:=id) fun y hy=>?_).trans (List.map_id _);exact K4 b (P:=fun y=>W.ren ρ d y=id y) (fun c=>by cases d<;>rfl) (by cases d<;>rfl) y hy
theorem Xt (L:LO1)(d:Nat)(l:List BindD)(h:∀b∈l,b.sig=false->b.ty.args=[]):Ae (Ae (W.toC L d)) (bWs l)=some (CQ l):=by
 unfold bWs CQ
 induction l with
 |nil=>rfl
 |cons b r ih=>
  have h1:Ae (W.toC L d) (bW b)=some (B5 b):=by
   have hb:=h b sy;unfold bW B5;cases hs:b.sig<;>simp_all
  simp_all
end Go.Vs
namespace Go.Vs.Tryz
open Go Go.Vs
variable {A:Ag}
abbrev M2 (ds:List DataD)(bs:List BindD):V:=.ag [.c (.sl (AM ds)),.c (.sl (CQ bs))]
def Im (ds:List DataD)(b:BindD):Prop:=b.name∈B1/\mkE ds b.body/\b.body.weight<=1768/\b.ty.size<=687194767360/\(b.sig=false->b.ty=tz)
def pre4:List Str:=[[112],[113],[114],[115]]
def pS0 (L:List Int)(ds:List DataD)(bs:List BindD)(cv:V)(n i J:Nat):St:=⟨[(4,.sc (.ptr 64 0)),(5,.sc (.ptr 256 0)),(6,.sc (.ptr 576 0)),(7,cv),(8,intV n),(9,intV i)],[(64,some (.box [.nil,.nil])),(256,some (Ao L J)),(576,some (.box [.c (.sl (AM ds)),.arr 642 i])),(642,some (.arr 20 (bWs bs) 0))]⟩
def pS0t (L:List Int)(ds:List DataD)(bs:List BindD)(cv:V)(n i J:Nat):St:=⟨[(4,.sc (.ptr 64 0)),(5,.sc (.ptr 256 0)),(6,.sc (.ptr 576 0)),(7,cv),(8,intV n),(9,intV i),(26,Ac true)],[(64,some (.box [.nil,.nil])),(256,some (Ao L J)),(576,some (.box [.c (.sl (AM ds)),.arr 642 i])),(642,some (.arr 20 (bWs bs) 0))]⟩
def pS1 (L:List Int)(ds:List DataD)(bs:List BindD)(cv:V)(n i J:Nat)(r:Bool)(nm:Str):St:=⟨[(4,.sc (.ptr 64 0)),(5,.sc (.ptr 256 0)),(6,.sc (.ptr 576 0)),(7,cv),(8,intV n),(9,intV i),(10,.sc (.ptr 1792 0))],[(64,some (.box [.nil,.nil])),(256,some (Ao L J)),(576,some (.box [.c (.sl (AM ds)),.arr 642 i])),(642,some (.arr 20 (bWs bs) 0)),(1280,some (.arr 1 [[.c (.str [112])],[.c (.str [113])],[.c (.str [114])],[.c (.str [115])]] 0)),(1792,some (.box [zi,.c (.bool r),.c (.str nm),.c (.bool false),zi,zs,zi,zi,.nil,zi,zi,zs,zi,.nil,.nil,zi,zs,zi,zi,.nil]))]⟩
def pS2 (L:List Int)(ds:List DataD)(bs:List BindD)(cv:V)(n i J:Nat)(r:Bool)(nm:Str)(x:Ty):St:=⟨[(4,.sc (.ptr 64 0)),(5,.sc (.ptr 256 0)),(6,.sc (.ptr 576 0)),(7,cv),(8,intV n),(9,intV i),(10,.sc (.ptr 1792 0)),(11,.sc (.ptr 2240 0))],[(64,some (.box [.nil,.nil])),(256,some (Ao L J)),(576,some (.box [.c (.sl (AM ds)),.arr 642 i])),(642,some (.arr 20 (bWs bs) 0)),(1792,some (.box [zi,.c (.bool r),.c (.str nm),.c (.bool false),zi,zs,zi,zi,.nil,zi,zi,zs,zi,.nil,.nil,zi,zs,zi,zi,.nil])),(2240,some (.box (wc x.row)))]⟩
def pS3 (L:List Int)(ds:List DataD)(bs:List BindD)(cv:V)(n i J:Nat)(r:Bool)(nm:Str)(x:Ty):St:=⟨[(4,.sc (.ptr 64 0)),(5,.sc (.ptr 256 0)),(6,.sc (.ptr 576 0)),(7,cv),(8,intV n),(9,intV i),(10,.sc (.ptr 1792 0)),(11,.sc (.ptr 2240 0)),(44,Ac false)],[(64,some (.box [.nil,.nil])),(256,some (Ao L J)),(576,some (.box [.c (.sl (AM ds)),.arr 642 i])),(642,some (.arr 20 (bWs bs) 0)),(1792,some (.box [zi,.c (.bool r),.c (.str nm),.c (.bool false),zi,zs,zi,zi,.nil,zi,zi,zs,zi,.nil,.nil,zi,zs,zi,zi,.nil])),(2240,some (.box (wc x.row)))]⟩
def pS4 (L:List Int)(ds:List DataD)(bs:List BindD)(cv:V)(n i J:Nat)(r g:Bool)(nm:Str)(x:Ty):St:=⟨[(4,.sc (.ptr 64 0)),(5,.sc (.ptr 256 0)),(6,.sc (.ptr 576 0)),(7,cv),(8,intV n),(9,intV i),(10,.sc (.ptr 1792 0)),(11,.sc (.ptr 2240 0))],[(64,some (.box [.nil,.nil])),(256,some (Ao L J)),(576,some (.box [.c (.sl (AM ds)),.arr 642 i])),(642,some (.arr 20 (bWs bs) 0)),(1792,some (.box [zi,.c (.bool r),.c (.str nm),.c (.bool g),zi,zs,zi,zi,.nil,zi,zi,zs,zi,.nil,.nil,zi,zs,zi,zi,.nil])),(2240,some (.box (wc x.row)))]⟩
def pS5 (L:List Int)(ds:List DataD)(bs:List BindD)(cv:V)(n i J:Nat)(r g:Bool)(nm:Str)(x:Ty)(t0 t1 t2 t3 t4:W):St:=⟨[(4,.sc (.ptr 64 0)),(5,.sc (.ptr 256 0)),(6,.sc (.ptr 576 0)),(7,cv),(8,intV n),(9,intV i),(10,.sc (.ptr 1792 0)),(11,.sc (.ptr 2240 0))],[(64,some (.box [.nil,.nil])),(256,some (Ao L J)),(576,some (.box [.c (.sl (AM ds)),.arr 642 i])),(642,some (.arr 20 (bWs bs) 0)),(1792,some (.box [zi,.c (.bool r),.c (.str nm),.c (.bool g),t0,t1,t2,t3,t4,zi,zi,zs,zi,.nil,.nil,zi,zs,zi,zi,.nil])),(2240,some (.box (wc x.row)))]⟩
def pS5b (L:List Int)(ds:List DataD)(bs:List BindD)(cv:V)(n i J:Nat)(r g:Bool)(nm:Str)(x:Ty)(t0 t1 t2 t3 t4:W):St:=⟨[(4,.sc (.ptr 64 0)),(5,.sc (.ptr 256 0)),(6,.sc (.ptr 576 0)),(7,cv),(8,intV n),(9,intV i),(10,.sc (.ptr 1792 0)),(11,.sc (.ptr 2240 0)),(54,Ac false)],[(64,some (.box [.nil,.nil])),(256,some (Ao L J)),(576,some (.box [.c (.sl (AM ds)),.arr 642 i])),(642,some (.arr 20 (bWs bs) 0)),(1792,some (.box [zi,.c (.bool r),.c (.str nm),.c (.bool g),t0,t1,t2,t3,t4,zi,zi,zs,zi,.nil,.nil,zi,zs,zi,zi,.nil])),(2240,some (.box (wc x.row)))]⟩
def pS6 (L:List Int)(ds:List DataD)(bs:List BindD)(cv:V)(n i J:Nat)(r g:Bool)(nm:Str)(x:Ty)(t0 t1 t2 t3 t4:W)(iv:V):St:=⟨[(4,.sc (.ptr 64 0)),(5,.sc (.ptr 256 0)),(6,.sc (.ptr 576 0)),(7,cv),(8,intV n),(9,intV i),(10,.sc (.ptr 1792 0)),(11,.sc (.ptr 2240 0)),(12,iv)],[(64,some (.box [.nil,.nil])),(256,some (Ao L J)),(576,some (.box [.c (.sl (AM ds)),.arr 642 i])),(642,some (.arr 20 (bWs bs) 0)),(1792,some (.box [zi,.c (.bool r),.c (.str nm),.c (.bool g),t0,t1,t2,t3,t4,zi,zi,zs,zi,.nil,.nil,zi,zs,zi,zi,.nil])),(2240,some (.box (wc x.row)))]⟩
def pS7 (L:List Int)(ds:List DataD)(bs:List BindD)(cv:V)(n i J:Nat)(r g:Bool)(nm:Str)(x:Ty)(t0 t1 t2 t3 t4:W)(iv:V):St:=⟨[(4,.sc (.ptr 64 0)),(5,.sc (.ptr 256 0)),(6,.sc (.ptr 576 0)),(7,cv),(8,intV n),(9,intV i),(10,.sc (.ptr 1792 0)),(11,.sc (.ptr 2240 0)),(12,iv),(59,Ac false)],[(64,some (.box [.nil,.nil])),(256,some (Ao L J)),(576,some (.box [.c (.sl (AM ds)),.arr 642 i])),(642,some (.arr 20 (bWs bs) 0)),(1792,some (.box [zi,.c (.bool r),.c (.str nm),.c (.bool g),t0,t1,t2,t3,t4,zi,zi,zs,zi,.nil,.nil,zi,zs,zi,zi,.nil])),(2240,some (.box (wc x.row)))]⟩
def pS8 (L:List Int)(ds:List DataD)(bs:List BindD)(cv:V)(n i J:Nat)(r g:Bool)(nm:Str)(x:Ty)(t0 t1 t2 t3 t4:W)(e:Exp):St:=⟨[(4,.sc (.ptr 64 0)),(5,.sc (.ptr 256 0)),(6,.sc (.ptr 576 0)),(7,cv),(8,intV n),(9,intV i),(10,.sc (.ptr 1792 0)),(11,.sc (.ptr 2240 0))],[(64,some (.box [.nil,.nil])),(256,some (Ao L J)),(576,some (.box [.c (.sl (AM ds)),.arr 642 i])),(642,some (.arr 20 (bWs bs) 0)),(1792,some (.box [zi,.c (.bool r),.c (.str nm),.c (.bool g),t0,t1,t2,t3,t4,.c (.int .i64 e.kind),.c (.int .i64 e.pos),.c (.str e.name),.c (.int .i64 e.num),.c (.sl (Exp.rows e.kids)),.c (.sl (Exp.armRows e.arms)),.c (.int .i64 e.ty.kind),.c (.str e.ty.name),.c (.int .i64 e.ty.id),.c (.int .i64 e.ty.home),.c (.sl (Ty.rows e.ty.args))])),(2240,some (.box (wc x.row)))]⟩
def pS9 (L:List Int)(ds:List DataD)(bs:List BindD)(cv:V)(n i J:Nat)(r g:Bool)(nm:Str)(x:Ty)(t0 t1 t2 t3 t4:W)(e:Exp)(u v:Ty)(c:Int):St:=⟨[(4,.sc (.ptr 64 0)),(5,.sc (.ptr 256 0)),(6,.sc (.ptr 576 0)),(7,cv),(8,intV n),(9,intV i),(10,.sc (.ptr 1792 0)),(14,.sc (.ptr 5248 0))],[(64,some (.box [.nil,.nil])),(256,some (Ao L J)),(576,some (.box [.c (.sl (AM ds)),.arr 642 i])),(642,some (.arr 20 (bWs bs) 0)),(1792,some (.box [zi,.c (.bool r),.c (.str nm),.c (.bool g),t0,t1,t2,t3,t4,.c (.int .i64 e.kind),.c (.int .i64 e.pos),.c (.str e.name),.c (.int .i64 e.num),.c (.sl (Exp.rows e.kids)),.c (.sl (Exp.armRows e.arms)),.c (.int .i64 e.ty.kind),.c (.str e.ty.name),.c (.int .i64 e.ty.id),.c (.int .i64 e.ty.home),.c (.sl (Ty.rows e.ty.args))])),(2240,some (.box (wc x.row))),(5184,some (.box (wc u.row))),(5248,some (.box (wc (AY c v))))]⟩
def pSa (L:List Int)(ds:List DataD)(bs:List BindD)(cv:V)(n i J:Nat)(r g:Bool)(nm:Str)(t0 t1 t2 t3 t4:W)(e:Exp)(v:Ty)(c:Int):St:=⟨[(4,.sc (.ptr 64 0)),(5,.sc (.ptr 256 0)),(6,.sc (.ptr 576 0)),(7,cv),(8,intV n),(9,intV i),(10,.sc (.ptr 1792 0)),(14,.sc (.ptr 5248 0))],[(64,some (.box [.nil,.nil])),(256,some (Ao L J)),(576,some (.box [.c (.sl (AM ds)),.arr 642 i])),(642,some (.arr 20 (bWs bs) 0)),(1792,some (.box [zi,.c (.bool r),.c (.str nm),.c (.bool g),t0,t1,t2,t3,t4,.c (.int .i64 e.kind),.c (.int .i64 e.pos),.c (.str e.name),.c (.int .i64 e.num),.c (.sl (Exp.rows e.kids)),.c (.sl (Exp.armRows e.arms)),.c (.int .i64 e.ty.kind),.c (.str e.ty.name),.c (.int .i64 e.ty.id),.c (.int .i64 e.ty.home),.c (.sl (Ty.rows e.ty.args))])),(5248,some (.box (wc (AY c v))))]⟩
def pSb (L:List Int)(ds:List DataD)(bs:List BindD)(cv:V)(n i J:Nat)(r g:Bool)(nm:Str)(t0 t1 t2 t3 t4:W)(e:Exp)(v:Ty)(c:Int):St:=⟨[(4,.sc (.ptr 64 0)),(5,.sc (.ptr 256 0)),(6,.sc (.ptr 576 0)),(7,cv),(8,intV n),(9,intV i),(10,.sc (.ptr 1792 0)),(14,.sc (.ptr 5248 0)),(92,Ac false)],[(64,some (.box [.nil,.nil])),(256,some (Ao L J)),(576,some (.box [.c (.sl (AM ds)),.arr 642 i])),(642,some (.arr 20 (bWs bs) 0)),(1792,some (.box [zi,.c (.bool r),.c (.str nm),.c (.bool g),t0,t1,t2,t3,t4,.c (.int .i64 e.kind),.c (.int .i64 e.pos),.c (.str e.name),.c (.int .i64 e.num),.c (.sl (Exp.rows e.kids)),.c (.sl (Exp.armRows e.arms)),.c (.int .i64 e.ty.kind),.c (.str e.ty.name),.c (.int .i64 e.ty.id),.c (.int .i64 e.ty.home),.c (.sl (Ty.rows e.ty.args))])),(5248,some (.box (wc (AY c v))))]⟩
def pSc (L:List Int)(ds:List DataD)(bs:List BindD)(cv:V)(n i J:Nat)(r g:Bool)(nm:Str)(t0 t1 t2 t3 t4:W)(e:Exp)(v:Ty)(c:Int):St:=⟨[(4,.sc (.ptr 64 0)),(5,.sc (.ptr 256 0)),(6,.sc (.ptr 576 0)),(7,cv),(8,intV n),(9,intV i),(10,.sc (.ptr 1792 0))],[(64,some (.box [.nil,.nil])),(256,some (Ao L J)),(576,some (.box [.c (.sl (AM ds)),.arr 642 i])),(642,some (.arr 20 (bWs bs) 0)),(1792,some (.box [zi,.c (.bool r),.c (.str nm),.c (.bool g),t0,t1,t2,t3,t4,.c (.int .i64 e.kind),.c (.int .i64 e.pos),.c (.str e.name),.c (.int .i64 e.num),.c (.sl (Exp.rows e.kids)),.c (.sl (Exp.armRows e.arms)),.c (.int .i64 e.ty.kind),.c (.str e.ty.name),.c (.int .i64 e.ty.id),.c (.int .i64 e.ty.home),.c (.sl (Ty.rows e.ty.args))])),(5248,some (.box (wc (AY c v))))]⟩
def pSd (L:List Int)(ds:List DataD)(bs:List BindD)(cv:V)(n i J:Nat)(o1 o2:Obj):St:=⟨[(4,.sc (.ptr 64 0)),(5,.sc (.ptr 256 0)),(6,.sc (.ptr 576 0)),(7,cv),(8,intV n),(9,intV i)],[(64,some (.box [.nil,.nil])),(256,some (Ao L J)),(576,some (.box [.c (.sl (AM ds)),.arr 642 (i+1)])),(642,some (.arr 20 (bWs bs) 0)),(1792,some o1),(7040,some o2)]⟩
def IA (L:List Int)(ds:List DataD)(n i:Nat)(s:St):Prop:=∃bs ctx J cv,bs.length=i/\(∀b∈bs,Im ds b)/\ctxOk i 50000 ctx/\J<=L.length/\(cv=Be ctx\/(cv=.sc .nil/\ctx=[]))/\s=pS0 L ds bs cv n i J
def sigT (g:Bool)(x:Ty)(t0 t1 t2 t3 t4:W):Prop:=(g=true/\t0=.c (.int .i64 x.kind)/\t1=.c (.str x.name)/\t2=.c (.int .i64 x.id)/\t3=.c (.int .i64 x.home)/\t4=.c (.sl (Ty.rows x.args)))\/(g=false/\t0=zi/\t1=zs/\t2=zi/\t3=zi/\t4=.nil)
theorem Zbb (L:List Int)(ds:List DataD)(hL:L.length<=687194767360)(hds:fitDs ds)(n i:Nat)(hi:i<n)(hn:n<=4)(s:St)(hs:IA L ds n i s):wp (K A) K1 (fun e s'=>e=.normal/\IA L ds n (i+1) s') s:=by
 obtain⟨bs,ctx,J,cv,hb,hbs,hctx,hJ,hcv0,rfl⟩:=hs;have hint:=Ff (A:=A);have hty:∀I,I<=L.length->∃r,EH L 25 r/\(K A).call 45 [.sc (.ptr 0 0),Aw ds,tysV nam3,intV 2] [Ao L I]=some r:=fun I h=>Vu (A:=A) L ds nam3 hL hds (by simp[nam3]) (by simp[nam3]) ZdI 2 I oz h
 have htyN:∀I,I<=L.length->∃r,EH L 25 r/\(K A).call 45 [.sc (.ptr 0 0),Aw ds,.sc (.c (.sl [])),intV 2] [Ao L I]=some r:=fun I h=>LC (A:=A) L ds hL hds 2 I oz h;have hnam:=Zg0 (A:=A);have hin:(i:Int)<n:=oz
 have hds1:=hds.1;have hcv:=hcv0;obtain⟨P,hct,hcve⟩:∃P:Prop,P/\((P=((0:Nat)=0)/\cv=Be ctx)\/(P=(ctx=[])/\cv=.sc .nil)):=by
  rcases hcv0 with h|⟨h1,h2⟩
  .exact⟨_,rfl,.inl ⟨rfl,h⟩⟩
  .exact⟨_,h2,.inr ⟨rfl,h1⟩⟩
 rcases hcve with ⟨rfl,hcve⟩|⟨rfl,hcve⟩
 all_goals
  skip
  unfold K1;refine D3 (pS0t L ds bs cv n i J) (by simp[hcve,hct,pS0,pS0t,hin]) ?_;refine EN (fun s=>∃b ctx2 J2 ob1 ob2,Im ds b/\ctxOk (i+1) 50000 ctx2/\J2<=L.length/\s=pSd L ds (bs++[b]) (Be ctx2) n i J2 ob1 ob2) ?_ ?_
  .rw [wp_block]
   refine EN (fun s=>∃r nm J,nm∈B1/\J<=L.length/\s=pS1 L ds bs cv n i J r nm) ?_ ?_
   .obtain ⟨k,J1,hk,hJ1,hc⟩:=BC (A:=A) L J 4 hJ hL oz oz
    obtain⟨r,hr⟩:∃r,decide ((k:Int)=1)=r:=⟨_,rfl⟩;have l0:([[.c (.str [112])],[.c (.str [113])],[.c (.str [114])],[.c (.str [115])]]:WW1)[0]?=some [.c (.str [112])]:=rfl;have l1:([[.c (.str [112])],[.c (.str [113])],[.c (.str [114])],[.c (.str [115])]]:WW1)[1]?=some [.c (.str [113])]:=rfl
    have l2:([[.c (.str [112])],[.c (.str [113])],[.c (.str [114])],[.c (.str [115])]]:WW1)[2]?=some [.c (.str [114])]:=rfl;have l3:([[.c (.str [112])],[.c (.str [113])],[.c (.str [114])],[.c (.str [115])]]:WW1)[3]?=some [.c (.str [115])]:=rfl;have m2:AH (intV 2) 4=some 2:=rfl;have m3:AH (intV 3) 4=some 3:=rfl;have hi4:i=0\/i=1\/i=2\/i=3:=oz;rcases hi4 with rfl|rfl|rfl|rfl
    .refine wp_mono (Q:=fun e s=>e=.normal/\s=pS1 L ds bs cv n 0 J1 r [112]) (by simp (disch:=try exact zd) [hcve,hct,pS0t,pS1,hc,hr,hb,l0,l1,l2,l3,m2,m3]) ?_
     rintro e s ⟨h1,h2⟩;exact⟨h1,r,_,J1,by decide,hJ1,h2⟩
    .refine wp_mono (Q:=fun e s=>e=.normal/\s=pS1 L ds bs cv n 1 J1 r [113]) (by simp (disch:=try exact zd) [hcve,hct,pS0t,pS1,hc,hr,hb,l0,l1,l2,l3,m2,m3]) ?_
     rintro e s ⟨h1,h2⟩;exact⟨h1,r,_,J1,by decide,hJ1,h2⟩
    .refine wp_mono (Q:=fun e s=>e=.normal/\s=pS1 L ds bs cv n 2 J1 r [114]) (by simp (disch:=try exact zd) [hcve,hct,pS0t,pS1,hc,hr,hb,l0,l1,l2,l3,m2,m3]) ?_
     rintro e s ⟨h1,h2⟩;exact⟨h1,r,_,J1,by decide,hJ1,h2⟩
    .refine wp_mono (Q:=fun e s=>e=.normal/\s=pS1 L ds bs cv n 3 J1 r [115]) (by simp (disch:=try exact zd) [hcve,hct,pS0t,pS1,hc,hr,hb,l0,l1,l2,l3,m2,m3]) ?_
     rintro e s ⟨h1,h2⟩;exact⟨h1,r,_,J1,by decide,hJ1,h2⟩
   clear hJ J;rintro _ ⟨r,nm,J,hnm,hJ,rfl⟩;refine EN (fun s=>∃x J,tyG x/\x.size<=25/\J<=L.length/\s=pS2 L ds bs cv n i J r nm x) ?_ ?_
   .obtain ⟨_,⟨x,J1,x1,x2,x3,rfl⟩,hx⟩:=hty J hJ
    refine wp_mono (Q:=fun e s=>e=.normal/\s=pS2 L ds bs cv n i J1 r nm x) (by simp(disch:=try exact zd) [hcve,hct,pS1,pS2,hnam,hx,hb]) ?_;rintro e s ⟨h1,h2⟩;exact⟨h1,x,J1,x1,x2,x3,h2⟩
   clear hJ J;rintro _ ⟨x,J,hxG,hxz,hJ,rfl⟩;refine EN (fun s=>∃x J,tyG x/\x.size<=25/\J<=L.length/\(s=pS2 L ds bs cv n i J r nm x\/s=pS3 L ds bs cv n i J r nm x)) ?_ ?_
   .obtain ⟨k,J1,hk,hJ1,hc⟩:=BC (A:=A) L J 3 hJ hL oz oz
    by_cases hk0:k=0
    .obtain ⟨_,⟨y,J2,y1,y2,y3,rfl⟩,hy⟩:=htyN J1 hJ1
     subst hk0;refine wp_mono (Q:=fun e s=>e=.normal/\s=pS2 L ds bs cv n i J2 r nm y) (by simp(disch:=try exact zd) [hcve,hct,pS2,hc,hy,hb]) ?_;rintro e s ⟨h1,h2⟩;exact⟨h1,y,J2,y1,y2,y3,.inl h2⟩
    .have hk0':¬(k:Int)=0:=oz
     refine wp_mono (Q:=fun e s=>e=.normal/\s=pS3 L ds bs cv n i J1 r nm x) (by simp(disch:=try exact zd) [hcve,hct,pS2,pS3,hc,hk0,hk0',hb]) ?_;rintro e s ⟨h1,h2⟩;exact⟨h1,x,J1,hxG,hxz,hJ1,.inr h2⟩
   clear hJ J hxG hxz x;rintro s ⟨x,J,hxG,hxz,hJ,hs⟩;refine EN (fun s=>∃g J,J<=L.length/\s=pS4 L ds bs cv n i J r g nm x) ?_ ?_
   .obtain ⟨k,J1,hk,hJ1,hc⟩:=BC (A:=A) L J 2 hJ hL oz oz
    obtain⟨g,hg⟩:∃g,decide ((k:Int)=0)=g:=⟨_,rfl⟩;have hg0:decide (k=0)=g:=(by rw[<-hg];simp);refine wp_mono (Q:=fun e s=>e=.normal/\s=pS4 L ds bs cv n i J1 r g nm x) (by rcases hs with rfl | rfl<;>simp(disch:=try exact zd) [hcve,hct,pS2,pS3,pS4,hc,hg,hg0,hb]) ?_;rintro e s ⟨h1,h2⟩;exact⟨h1,g,J1,hJ1,h2⟩
   clear hJ J hs s;rintro _ ⟨g,J,hJ,rfl⟩;refine EN (fun s=>∃t0 t1 t2 t3 t4,sigT g x t0 t1 t2 t3 t4/\(s=pS5 L ds bs cv n i J r g nm x t0 t1 t2 t3 t4\/s=pS5b L ds bs cv n i J r g nm x t0 t1 t2 t3 t4)) ?_ ?_
   .cases g with
    |true=>
     refine wp_mono (Q:=fun e s=>e=.normal/\s=pS5 L ds bs cv n i J r true nm x (.c (.int .i64 x.kind)) (.c (.str x.name)) (.c (.int .i64 x.id)) (.c (.int .i64 x.home)) (.c (.sl (Ty.rows x.args)))) (by simp(disch:=try exact zd) [hcve,hct,pS4,pS5,hb,Ty.row_eq]) ?_;rintro e s ⟨h1,h2⟩;exact⟨h1,_,_,_,_,_,.inl ⟨rfl,rfl,rfl,rfl,rfl,rfl⟩,.inl h2⟩
    |false=>
     refine wp_mono (Q:=fun e s=>e=.normal/\s=pS5b L ds bs cv n i J r false nm x zi zs zi zi .nil) (by simp(disch:=try exact zd) [hcve,hct,pS4,pS5b,hb]) ?_;rintro e s ⟨h1,h2⟩;exact⟨h1,_,_,_,_,_,.inr ⟨rfl,rfl,rfl,rfl,rfl,rfl⟩,.inr h2⟩
   rintro s ⟨t0,t1,t2,t3,t4,ht,hs⟩;have hrr:(∀ρ d,W.ren ρ d t0=t0)/\(∀ρ d,W.ren ρ d t1=t1)/\(∀ρ d,W.ren ρ d t2=t2)/\(∀ρ d,W.ren ρ d t3=t3)/\∀ρ d,W.ren ρ d t4=t4:=by
    rcases ht with ⟨_,rfl,rfl,rfl,rfl,rfl⟩|⟨_,rfl,rfl,rfl,rfl,rfl⟩<;>exact⟨fun ρ d=>by cases d<;>rfl,fun ρ d=>by cases d<;>rfl,fun ρ d=>by cases d<;>rfl,fun ρ d=>by cases d<;>rfl,fun ρ d=>by cases d<;>rfl⟩
   obtain⟨hr0,hr1,hr2,hr3,hr4⟩:=hrr;refine D3 (pS6 L ds bs cv n i J r g nm x t0 t1 t2 t3 t4 cv) (by rcases hs with rfl | rfl<;>simp(disch:=try exact zd) [hcve,hct,pS5,pS5b,pS6,hb]) ?_;clear hs s;obtain⟨_,⟨u,u1,u2,rfl⟩,hu⟩:=ZdA (A:=A) x hxG.1 oz;have hmu:=GJ (A:=A) u;have hpu:=FY (A:=A) ctx nm 0 u (by have:=hctx.1;omega);simp only[Be,hct,entRows0,qad]at hpu
   refine EN (fun s=>∃inn iv,ctxOk (i+1) 50000 inn/\(iv=Be inn\/(iv=.sc .nil/\inn=[]))/\(s=pS6 L ds bs cv n i J r g nm x t0 t1 t2 t3 t4 iv\/s=pS7 L ds bs cv n i J r g nm x t0 t1 t2 t3 t4 iv)) ?_ ?_
   .cases r with
    |true=>
     refine wp_mono (Q:=fun e s=>e=.normal/\s=pS6 L ds bs cv n i J true g nm x t0 t1 t2 t3 t4 (Be (ctx++[⟨nm,0,u⟩]))) (by simp(disch:=try exact zd) [hcve,hct,pS6,hu,hmu,hpu,hb]) ?_;rintro e s ⟨h1,h2⟩;exact⟨h1,_,_,hctx.push (c:=0) oz hnm oz u1 oz,.inl rfl,.inl h2⟩
    |false=>
     refine wp_mono (Q:=fun e s=>e=.normal/\s=pS7 L ds bs cv n i J false g nm x t0 t1 t2 t3 t4 cv) (by simp(disch:=try exact zd) [hcve,hct,pS6,pS7,hb]) ?_;rintro e s ⟨h1,h2⟩;exact⟨h1,ctx,cv,hctx.up oz,hcv,.inr h2⟩
   rintro s ⟨inn,iv,hinn,hiv,hs⟩;refine EN (fun s=>∃e J,mkE ds e/\e.weight<=1768/\J<=L.length/\s=pS8 L ds bs cv n i J r g nm x t0 t1 t2 t3 t4 e) ?_ ?_
   .obtain ⟨_,⟨e,J1,e1,e2,e3,rfl⟩,he⟩:=ZcB (A:=A) L ds hL hds 3 oz inn u J (hinn.up oz) u1 oz hJ
    have he:(K A).call 44 [.sc (.ptr 0 0),Aw ds,.sc (.c (.sl (BZ inn))),tyV u,intV 3] [Ao L J]=some (expV e,[Ao L J1]):=he;have her:=Exp.row_eq e
    refine wp_mono (Q:=fun e' s=>e'=.normal/\s=pS8 L ds bs cv n i J1 r g nm x t0 t1 t2 t3 t4 e) (by rcases hiv with rfl | ⟨rfl,rfl⟩<;>(try simp only[entRows0]at he)<;>rcases hs with rfl | rfl<;>simp(disch:=try exact zd) [hcve,hct,pS6,pS7,pS8,hu,he,hb,her,hr0,hr1,hr2,hr3,hr4]) ?_;rintro e' s ⟨h1,h2⟩;exact⟨h1,e,J1,e1,qr e2 (by decide),e3,h2⟩
   clear hJ J hs s hiv iv hinn inn;rintro _ ⟨e,J,e1,e2,hJ,rfl⟩;obtain⟨_,⟨a,v,c,a1,a2,c1,v1,v2,rfl⟩,hsg⟩:=Rt (A:=A) x hxG.1 oz 98;refine D3 (pS9 L ds bs cv n i J r g nm x t0 t1 t2 t3 t4 e a v c) (by simp(disch:=try exact zd) [hcve,hct,pS8,pS9,hsg,hb,AY,hr0,hr1,hr2,hr3,hr4]) ?_
   refine EN (fun s=>∃(v:Ty) (c:Nat),c<=900/\tyB 0 c v/\v.size<=50000/\(s=pSa L ds bs cv n i J r g nm t0 t1 t2 t3 t4 e v c\/s=pSb L ds bs cv n i J r g nm t0 t1 t2 t3 t4 e v c)) ?_ ?_
   .have hrow:(Exp.row e)=[.int .i64 e.kind,.int .i64 e.pos,.str e.name,.int .i64 e.num,.sl (Exp.rows e.kids),.sl (Exp.armRows e.arms),.int .i64 e.ty.kind,.str e.ty.name,.int .i64 e.ty.id,.int .i64 e.ty.home,.sl (Ty.rows e.ty.args)]:=by rw [Exp.row_eq]
    obtain⟨_,⟨p,rfl⟩,hh1⟩:=J9 (A:=A) 10 e oz;obtain⟨_,⟨q,rfl⟩,hh2⟩:=J9 (A:=A) 11 e oz;have hmi:=GJ (A:=A) (.mk 4 [73,110,116] 0 0 []);simp only[expV,hrow,wc,qt,qX]at hh1 hh2
    have yes:∀s,s=pSa L ds bs cv n i J r g nm t0 t1 t2 t3 t4 e (.mk 4 [73,110,116] 0 0 []) 0->∃(v:Ty) (c:Nat),c<=900/\tyB 0 c v/\v.size<=50000/\(s=pSa L ds bs cv n i J r g nm t0 t1 t2 t3 t4 e v c\/s=pSb L ds bs cv n i J r g nm t0 t1 t2 t3 t4 e v c):=
     fun s h=>⟨_,0,oz,Nw,by rw[Ty.size_leaf];omega,.inl h⟩
    have no:∀s,s=pSb L ds bs cv n i J r g nm t0 t1 t2 t3 t4 e v c->∃(v:Ty) (c:Nat),c<=900/\tyB 0 c v/\v.size<=50000/\(s=pSa L ds bs cv n i J r g nm t0 t1 t2 t3 t4 e v c\/s=pSb L ds bs cv n i J r g nm t0 t1 t2 t3 t4 e v c):=
     fun s h=>⟨v,c,oz,v1,oz,.inr h⟩
    cases g with
    |true=>
     refine wp_mono (Q:=fun e' s=>e'=.normal/\s=pSb L ds bs cv n i J r true nm t0 t1 t2 t3 t4 e v c) (by simp(disch:=try exact zd) [hcve,hct,pS9,pSb,hb,hr0,hr1,hr2,hr3,hr4]) ?_;rintro e' s ⟨h1,h2⟩;exact⟨h1,no s h2⟩
    |false=>
     cases p with
     |true=>
      refine wp_mono (Q:=fun e' s=>e'=.normal/\s=pSa L ds bs cv n i J r false nm t0 t1 t2 t3 t4 e (.mk 4 [73,110,116] 0 0 []) 0) (by simp(disch:=try exact zd) [hcve,hct,pS9,pSa,hb,hr0,hr1,hr2,hr3,hr4,hh1,hh2,hint,hmi]) ?_;rintro e' s ⟨h1,h2⟩;exact⟨h1,yes s h2⟩
     |false=>
      cases q with
      |true=>
       refine wp_mono (Q:=fun e' s=>e'=.normal/\s=pSa L ds bs cv n i J r false nm t0 t1 t2 t3 t4 e (.mk 4 [73,110,116] 0 0 []) 0) (by simp(disch:=try exact zd) [hcve,hct,pS9,pSa,hb,hr0,hr1,hr2,hr3,hr4,hh1,hh2,hint,hmi]) ?_;rintro e' s ⟨h1,h2⟩;exact⟨h1,yes s h2⟩
      |false=>
       refine wp_mono (Q:=fun e' s=>e'=.normal/\s=pSb L ds bs cv n i J r false nm t0 t1 t2 t3 t4 e v c) (by simp(disch:=try exact zd) [hcve,hct,pS9,pSb,hb,hr0,hr1,hr2,hr3,hr4,hh1,hh2]) ?_;rintro e' s ⟨h1,h2⟩;exact⟨h1,no s h2⟩
   clear v1 v2 c1 hsg a2 a1 a v c;rintro s ⟨v,c,hc,hvS,hvz,hs⟩;have hpu2:=FY (A:=A) ctx nm c v (by have:=hctx.1;omega);have hsr:wc (AY c v)=.c (.int .i64 c)::wc v.row:=rfl;simp only[Be,schV,hsr,hct,entRows0,qad]at hpu2
   refine D3 (pSc L ds bs (Be (ctx++[⟨nm,c,v⟩])) n i J r g nm t0 t1 t2 t3 t4 e v c) (by rcases hs with rfl | rfl<;>simp(disch:=try exact zd) [hcve,hct,pSa,pSb,pSc,hpu2,hb,AY,hr0,hr1,hr2,hr3,hr4]) ?_;have hbok:∀t:Ty,t.size<=1000->(g=false->t=tz)->Im ds ⟨r,nm,g,t,e⟩:=fun t ht htz=>⟨hnm,e1,e2,by simp only;omega,htz⟩;rcases ht with ⟨rfl,rfl,rfl,rfl,rfl,rfl⟩|⟨rfl,rfl,rfl,rfl,rfl,rfl⟩
   .simp (disch:=try exact zd) [hcve,hct,pSc,hb]
    refine⟨⟨r,nm,true,x,e⟩,hbok x oz (fun h=>by cases h),ctx++[⟨nm,c,v⟩],hctx.push oz hnm hc hvS hvz,J,hJ,?_⟩;simp[hcve,hct,pSd];exact bWs_snoc bs ⟨r,nm,true,x,e⟩
   .simp (disch:=try exact zd) [hcve,hct,pSc,hb]
    refine⟨⟨r,nm,false,tz,e⟩,hbok tz (by decide) (fun _=>rfl),ctx++[⟨nm,c,v⟩],hctx.push oz hnm hc hvS hvz,J,hJ,?_⟩;simp[hcve,hct,pSd];exact bWs_snoc bs ⟨r,nm,false,tz,e⟩
  .rintro s ⟨b,ctx2,J2,ob1,ob2,b1,b2,b3,rfl⟩
   simp(disch:=try exact zd) [hcve,hct,pSd,IA,exists_and_left];refine⟨bs++[b],by simp[hb],?_,ctx2,b2,J2,b3,.inl (by simp[pS0])⟩;intro y hy;rcases qp.1 hy with hy|hy
   .exact hbs y hy
   .simp only [qo] at hy
    exact hy▸b1
def X8 (ds7:List DataD)(r:V×List Obj):Prop:=∃ds bs,(∀d∈ds,d∈ds7)/\Gx ds/\bs.length<=4/\(∀b∈bs,Im ds b)/\r=(M2 ds bs,[])
theorem Zbf (bits:Int)(codes:List Int)(hL:codes.length<=687194767360)(ds7:List DataD)(h7:ds7.length=7)(hg:∀d∈ds7,fitD d)(h55:(K A).call 81 [] []=some (Aw ds7,[])):
 ∃r,X8 ds7 r/\(K A).call 29 [intV bits,Cy codes] []=some r:=by
 obtain⟨_,⟨ds,hd1,hd2,rfl⟩,hd⟩:=Zhf (A:=A) bits ds7 h7 (fun d h=>(hg d h).1) h55;have hds:fitDs ds:=⟨hd2.1,fun d h=>hg d (hd1 d h)⟩;obtain⟨k,J,hk,hJ,hc⟩:=BC (A:=A) codes 0 4 oz hL oz oz;refine AB _ (vf:=v29) (by rfl) rfl sy ?_;unfold v29;have hc0:(K A).call 62 [.sc (.ptr 0 0),intV 4] [.box [.c (.sl (Bo codes)),.c (.int .i64 0)]]=some (intV k,[Ao codes J]):=hc
 simp(disch:=try exact zd) [hd,hc0];have h0:IA codes ds (k+1) 0 (pS0 codes ds [] (.sc .nil) (k+1) 0 J):=⟨[],[],J,.sc .nil,rfl,by simp,⟨by simp,by simp⟩,hJ,.inr ⟨rfl,rfl⟩,rfl⟩;have hk1:(1:Int)+k=((k+1:Nat):Int):=oz
 refine Al (fun i s=>IA codes ds (k+1) i s) (k+1) (by simpa[pS0,hk1]using h0) ?_ ?_
 .intro i s hi hs
  exact wp_mono (Zbb codes ds hL hds (k+1) i hi oz s hs) fun e s h=>.inl h
 .rintro s ⟨bs,ctx,J2,cv,hb,hbs,hctx,hJ2,_,rfl⟩
  have hbl:bs.length<=4:=oz
  have htc:=fun L d=>Xt L d bs fun b hm hs=>by rw[(hbs b hm).2.2.2.2 hs];rfl
  unfold K1;simp(disch:=try exact zd) [pS0,hb,htc];exact⟨ds,bs,hd1,hd2,hbl,hbs,rfl⟩
variable {A:Ag}
@[simp] theorem fit_bind (l:List BindD):BK 20 (CQ l)=true:=F8 bindRow_len l
def Dp (g:Exp->Exp)(l:List BindD)(nm:Str):Exp:=l.foldr (fun b e=>.mk (if b.isRec then 7 else 6) 0 b.name 0 [g b.body,e] [] tz) (.mk 1 0 nm 0 [] [] tz)
theorem Ia (g:Exp->Exp)(b:BindD)(l:List BindD)(nm:Str):Dp g (b::l) nm=.mk (if b.isRec then 7 else 6) 0 b.name 0 [g b.body,Dp g l nm] [] tz:=rfl
theorem ZD (l:List BindD)(nm:Str):Aj (Dp id l nm)=Dp Aj l nm:=by
 induction l with
 |nil=>
  rw[Eb];simp[Dp,DF,Exp.children,Exp.kids,Exp.arms,Exp.kind,Exp.name,Exp.num,Exp.ty]
 |cons b l ih=>
  rw[Ia,Ia,Eb,<-ih];simp[DF,Exp.children,Exp.kids,Exp.arms,Exp.kind,Exp.name,Exp.num,Exp.ty]
theorem ZfY {g:Exp->Exp}{B:Nat}{l:List BindD}(h:∀b∈l,(g b.body).weight<=B)(nm:Str):(Dp g l nm).weight<=1+l.length*(B+1):=by
 induction l with
 |nil=>
  have:=F6 1 0 nm;show(Exp.mk 1 0 nm 0 [] [] tz).weight<=1+0*(B+1);omega
 |cons b l ih=>
  have h1:=h b sy;have h2:=ih fun b hb=>h b (by simp[hb]);rw[Ia,Gi];simp only[qt,qX,qQ,qaJ,qI,Nat.succ_mul];omega
def Ow (bs:List BindD):Str:=(bs.getLast?.map (·.name)).getD []
theorem We {bs:List BindD}{b:BindD}{i:Nat}(h:bs[i]?=some b)(hi:i+1=bs.length):Ow bs=b.name:=by
 unfold Ow;rw[List.getLast?_eq_getElem?,show bs.length-1=i by omega,h];rfl
def CT (g:Exp->Exp)(bs:List BindD):Exp:=if bs=[] then .mk 3 0 [] 0 [] [] tz else Dp g bs (Ow bs)
theorem Zb2 (bs:List BindD):Aj (CT id bs)=CT Aj bs:=by
 unfold CT;split
 .rw [Eb]
  simp[DF,Exp.children,Exp.kids,Exp.arms,Exp.kind,Exp.name,Exp.num,Exp.ty]
 .exact ZD _ _
theorem Yt (ds:List DataD)(bs:List BindD)(hb:bs.length<=1000)(hw:∀b∈bs,b.body.weight<=1000000):(K A).call 28 [M2 ds bs] []=some (expV (CT Aj bs),[]):=by
 refine fnO v28 ?_;unfold v28;by_cases hz:bs=[]
 .subst hz
  simp(disch:=try exact zd) [-getElem?_pos];simp[CT,expV,Hs]
 .obtain ⟨n,hn⟩:∃ n,bs.length=n+1:=⟨bs.length-1,by have:=qay.2 hz;omega⟩
  obtain⟨b0,hb0⟩:=Ab (l:=bs) (i:=n) oz;have hlast:=We hb0 hn.symm;have hcl:CT Aj bs=Dp Aj bs b0.name:=by unfold CT;rw[if_neg hz,hlast]
  rw[hcl];have hn0:¬((n:Int)+1=0):=oz
  simp(disch:=try exact zd) [hn,hn0,hb0,hz,-getElem?_pos];refine Al (fun j s=>∃(i:Nat) (cs:List W),i+j=n+1/\(cs=wc (Dp Aj (bs.drop i) b0.name).row\/(cs=IB 1 b0.name/\Dp Aj (bs.drop i) b0.name=.mk 1 0 b0.name 0 [] [] tz))/\
   s=⟨[(1,.sc (.ptr 64 0)),(2,.sc (.ptr 128 0)),(3,.sc (.ptr 1216 0)),(4,intV ((i:Int)-1))],[(64,some (.box [.c (.sl (AM ds)),.c (.sl (CQ bs))])),(128,some (.box zE)),(1216,some (.box cs))]⟩) (n+1)
   ⟨n+1,IB 1 b0.name,oz,.inr ⟨rfl,by rw[qae oz];rfl⟩,by simp⟩ ?_ ?_
  .rintro j s hj ⟨i,cs,hij,hcs,rfl⟩
   obtain⟨i,rfl⟩:∃k,i=k+1:=⟨i-1,oz⟩;obtain⟨b,hbi⟩:=Ab (l:=bs) (i:=i) oz;have hst:=Pc (A:=A) b.body (by have:=hw b (qc hbi);omega);have hd:bs.drop i=b::bs.drop (i+1):=by
    rw[qa7 oz];congr 1;have:=qj (l:=bs) (i:=i) oz;rw[hbi]at this;exact(qaW this).symm
   have hlt:i<bs.length:=oz;have hcl2:Dp Aj (bs.drop i) b0.name=.mk (if b.isRec then 7 else 6) 0 b.name 0 [Aj b.body,Dp Aj (bs.drop (i+1)) b0.name] [] tz:=(by rw[hd,Ia]);generalize hE:Dp Aj (bs.drop (i+1)) b0.name=E at *
   unfold LV;cases hr:b.isRec with
   |true=>
    simp only[hr,if_true]at hcl2;rcases hcs with rfl|⟨rfl,rfl⟩
    .simp (disch:=try exact zd) [hbi,hst,hr,hlt,-getElem?_pos]
     exact⟨i,oz,rfl,by rw[hcl2];simp[CK,wc]⟩
    .simp (disch:=try exact zd) [hbi,hst,hr,hlt,-getElem?_pos]
     exact⟨i,oz,rfl,by rw[hcl2];simp[CK,Hs,wc]⟩
   |false=>
    simp only[hr,qx,if_false]at hcl2;rcases hcs with rfl|⟨rfl,rfl⟩
    .simp (disch:=try exact zd) [hbi,hst,hr,hlt,-getElem?_pos]
     exact⟨i,oz,rfl,by rw[hcl2];simp[CK,wc]⟩
    .simp (disch:=try exact zd) [hbi,hst,hr,hlt,-getElem?_pos]
     exact⟨i,oz,rfl,by rw[hcl2];simp[CK,Hs,wc]⟩
  .rintro s ⟨i,cs,hij,hcs,rfl⟩
   obtain rfl:i=0:=oz;rw[qbm]at hcs;unfold LV;rcases hcs with rfl|⟨rfl,hE⟩
   .simp(disch:=try exact zd) [-getElem?_pos]
   .simp(disch:=try exact zd) [hE,expV,Hs]
variable {A:Ag}
theorem SQ {ds:List DataD}{nm:Str}(hn:nm∈B1):∀(l:List BindD),(∀b∈l,b.name∈B1/\mkE ds b.body)->mkE ds (Dp id l nm)
 |[],_=>Fs (by simp[mkE1,mkS,annT,numB,Exp.kind,Exp.pos,Exp.name,Exp.num,Exp.kids,Exp.arms,Exp.ty,tz,Ty.size_leaf,hn])
 |b::l,h=>by
  obtain⟨h1,h2⟩:=h b sy;rw[Ia,F5];refine⟨?_,?_,by simp⟩
  .cases b.isRec<;>simp[mkE1,mkS,annT,numB,Exp.kind,Exp.pos,Exp.name,Exp.num,Exp.kids,Exp.arms,Exp.ty,tz,Ty.size_leaf,h1]
  .intro x hx
   rcases qG.1 hx with rfl|hx
   .exact h2
   .rw [qo.1 hx]
    exact SQ hn l fun c hc=>h c (by simp[hc])
theorem ZaL {ds:List DataD}{bs:List BindD}(h:∀b∈bs,b.name∈B1/\mkE ds b.body):mkE ds (CT id bs):=by
 unfold CT;split
 .exact Fs (by simp[mkE1,mkS,annT,numB,Exp.kind,Exp.pos,Exp.name,Exp.num,Exp.kids,Exp.arms,Exp.ty,tz,Ty.size_leaf])
 .rename_i hb
  refine SQ ?_ bs h;obtain⟨b,hb2⟩:∃b,bs[bs.length-1]?=some b:=Ab (by have:=qay.2 hb;omega);rw[We hb2 (by have:=qay.2 hb;omega)];exact(h b (qc hb2)).1
theorem Za0 {B:Nat}{bs:List BindD}(h:∀b∈bs,b.body.weight<=B):(CT id bs).weight<=1+bs.length*(B+1):=by
 unfold CT;split
 .have:=F6 3 0 []
  omega
 .exact ZfY h _
theorem Zg {ds:List DataD}{bs:List BindD}(hc:ET ds)(hb:bs.length<=4)(h:∀b∈bs,Im ds b):OkR (CT Aj bs)/\tyBd (CT Aj bs):=by
 have hm:=ZaL fun b hm=>⟨(h b hm).1,(h b hm).2.1⟩;have hw:=Za0 (B:=1768) fun b hm=>(h b hm).2.2.1;have h4:bs.length*(1768+1)<=4*1769:=qD _ hb;rw[<-Zb2,Ml _ hm.pos];have hst:=hm.stE hc;exact⟨⟨hst,7100,Lo _ (by have:=K3 (CT id bs);omega),oz,oz⟩,hm.tyBd⟩
theorem OkR.ty {e:Exp}(h:OkR e):tyBd e:=by
 have hl:=h.1.lf;clear h
 induction e using Exp.ind with
 |h e ih=>
  rw[Ez];exact⟨hl.2.one.2.2.2.1,fun x hx=>ih x hx (hl.child hx)⟩
theorem OkR.wt {e:Exp}(h:OkR e):e.weight<=100000000:=by
 obtain⟨_,B,hB⟩:=h;exact hB.sm
variable {A:Ag}
def LF (e:Exp)(o:Option (Exp×Nat)):V:=match o with
 |some p=>.tu [expV p.1,intV 4,Ac true]
 |none=>.tu [expV e,intV 0,Ac false]
def chBR (T:List Str)(vars:List Str)(b:Exp)(i:Nat):Exp:=Cr ((renL T vars).take i) b
def chSR (T:List Str)(args:List Exp)(b:Exp)(i:Nat):Exp:=Cr ((argL T args).take i) b
theorem Rs (l m:List (Str×Exp))(e:Exp):Cr (l++m) e=Cr m (Cr l e):=by
 unfold Cr;rw[qaR]
theorem TM (l:List (Str×Exp))(p:Str×Exp)(b:Exp):Cr (l++[p]) b=refP (Cr l b) p.1 p.2:=by rw[Rs];rfl
theorem ZeK {T vars:List Str}{b:Exp}{i:Nat}{v:Str}(h:vars[i]?=some v):chBR T vars b (i+1)=refP (chBR T vars b i) v (varX (Au i T)):=by
 have h2:(renL T vars)[i]?=some (v,varX (Au i T)):=by unfold renL;simp[h]
 unfold chBR;rw[AP h2,TM]
theorem ZbN {T:List Str}{args:List Exp}{b:Exp}{i:Nat}{x:Exp}(h:args[i]?=some x):chSR T args b (i+1)=refP (chSR T args b i) (Au i T) x:=by
 have h2:(argL T args)[i]?=some (Au i T,x):=by unfold argL;simp[h]
 unfold chSR;rw[AP h2,TM]
theorem Td (e:Exp)(vars:List Str):renL (Ai e) vars=renL (An e) vars:=by
 unfold renL;simp only[MO]
theorem WO (e:Exp)(args:List Exp):argL (Ai e) args=argL (An e) args:=by
 unfold argL;simp only[MO]
theorem U2 (T vars:List Str):∀p∈renL T vars,okE p.2:=by
 intro p hp;obtain⟨q,_,rfl⟩:=qJ.1 hp;exact DX _
theorem XQ {T:List Str}{args:List Exp}(h:∀a∈args,okE a):∀p∈argL T args,okE p.2:=by
 intro p hp;obtain⟨⟨y,i⟩,hq,rfl⟩:=qJ.1 hp;exact h y (qc (qal.1 hq))
theorem CaseOk.renR {e k:Exp}{a:ArmH×Exp}(h:CaseOk 6000 e k a)(j:Nat):shp (chBR (An e) a.1.vars a.2 j)/\(chBR (An e) a.1.vars a.2 j).weight<=a.2.weight:=by
 obtain⟨r1,r2,r3⟩:=h.ren j;have hs:=(FS ((renL (An e) a.1.vars).take j) a.2 a.2 (B0 _) (h.ok.child (Bp h.am)) fun p hp=>U2 _ _ p (qW hp)).1;rw[Td]at r1 r3;have hw:=sameP.weight _ _ hs;exact⟨sameP.shp _ _ hs r1.1,by unfold chBR;omega⟩
theorem CaseOk.subR {e k:Exp}{a:ArmH×Exp}(h:CaseOk 6000 e k a)(j:Nat):shp (chSR (An e) (spine k).2 (Cr (renL (An e) a.1.vars) a.2) j)/\(chSR (An e) (spine k).2 (Cr (renL (An e) a.1.vars) a.2) j).weight<=100000000000:=by
 obtain⟨s1,s2,s3⟩:=h.sub j;have hsw:=h.lm.wt;obtain⟨q1,q2⟩:=FS (renL (An e) a.1.vars) a.2 a.2 (B0 _) (h.ok.child (Bp h.am)) (U2 _ _);have hs:=(FS ((argL (An e) (spine k).2).take j) _ _ q1 q2 fun p hp=>XQ (fun x hx=>(h.args x hx).1) p (qW hp)).1;rw[Td,WO]at s1 s3;have hw:=sameP.weight _ _ hs;exact⟨sameP.shp _ _ hs s1.1,by unfold chSR;omega⟩
theorem Ln (e:Exp)(x:Str)(b:Exp)(hl:e.weight<=100000000000)(hs:shp e)(hb:b.wf)(hbw:b.weight<=100000000000):(K A).call 103 [expV e,strV x,expV b] []=some (expV (refP e x b),[]):=MR e.weight e x b (qg _) hl hs hb hbw
def Eu (e:Exp)(con:Str)(args:List Exp)(i:Nat):St:=⟨[(1,strV con),(2,BX args),(3,.sc (.ptr 64 0)),(6,.sc (.ptr 128 0)),(9,intV i)],[(64,some (.box (wc e.row))),(128,some (.box [zi,zi,zs,zi,.nil,.nil,zi,zs,zi,zi,.nil]))]⟩
theorem Wn (e:Exp)(con:Str)(args:List Exp)(hw:e.weight<=687194767360)(i:Nat)(a:ArmH×Exp)(ha:e.arms[i]?=some a)(hn:a.1.con≠con):wp (K A) HB (fun x s'=>x=.normal/\s'=Eu e con args (i+1)) (Eu e con args i):=by
 have hi:=(qf.1 ha).1;have hal:=e.children_le;rw[e.children_len]at hal;unfold HB Eu;simp(maxSteps:=9^7) (disch:=try exact zd) [hi,ha,hn,-getElem?_pos]
theorem XC (e k:Exp)(hk:e.kids=[k])(he:okE e)(hl:lfE e)(hw:e.weight<=6000):(K A).call 105 [expV e,strV (spine k).1.name,BX (spine k).2] []=some (LF e (BY refP An e (spine k).1.name (spine k).2),[]):=by
 have hkm:k∈e.children:=AE (by rw[hk];simp);have hkl:=Exp.child_lt hkm;have hsk:=(he.child hkm).1;have hal:=e.children_le;rw[e.children_len]at hal;have hsl:=G4 k hsk;have hus:=Kj (A:=A) e oz;have hul:=Hx e;refine fnO v105 ?_;unfold v105;simp(maxSteps:=9^7) (disch:=try exact zd) [-getElem?_pos];cases hf:e.arms.find? fun a=>a.1.con==(spine k).1.name with
 |none=>
  refine Am (Eu e (spine k).1.name (spine k).2) e.arms.length (by simp[Eu]) (fun i hi=>?_) ?_
  .obtain ⟨a,ha⟩:=Ab hi
   refine Wn e _ _ oz i a ha fun hc=>?_;have:=List.find?_eq_none.1 hf a (qc ha);simp[hc]at this
  .unfold BY
   rw[hf];unfold HB Eu LF;simp(maxSteps:=9^7) (disch:=try exact zd) [-getElem?_pos]
 |some a=>
  obtain⟨hp,i,hi,hai,hlt⟩:=List.find?_eq_some_iff_getElem.1 hf;have hai':e.arms[i]?=some a:=by rw[qj hi,hai]
  refine Am (Eu e (spine k).1.name (spine k).2) i (by simp[Eu]) (fun j hj=>?_) ?_
  .obtain ⟨b,hb⟩:=Ab (l:=e.arms) (i:=j) oz
   refine Wn e _ _ oz j b hb fun hc=>?_;have h1:=hlt j hj;have h2:e.arms[j]'(by omega)=b:=(qf.1 hb).2;rw[h2]at h1;simp[hc]at h1
  .have hcon:a.1.con=(spine k).1.name:=by simpa using hp
   unfold BY;rw[hf];simp only;by_cases hv:a.1.vars.length=(spine k).2.length
   .rw [if_pos hv]
    have hC:CaseOk 6000 e k a:=⟨he,hl,Lim.small hw,hk,qc hai'⟩;have hsum:=hC.sum;have hch:JK refP (DW (An e) a.1.vars (spine k).2) a.2=chSR (An e) (spine k).2 (chBR (An e) a.1.vars a.2 a.1.vars.length) (spine k).2.length:=by
     unfold chSR chBR;rw[qh (show(renL (An e) a.1.vars).length<=_ by simp[renL]),qh (show(argL (An e) (spine k).2).length<=_ by simp[argL]),<-Rs];rfl
    rw[hch];have hfr:∀i:Nat,i<=6000->(K A).call 110 [intV i,AA (An e)] []=some (strV (Au i (An e)),[]):=fun i hi=>WA (A:=A) i (An e) oz oz;unfold HB Eu LF;simp(maxSteps:=9^7) (disch:=try exact zd) [hi,hai',hcon,hv,hus,-getElem?_pos];refine Am (fun i=>⟨[(2,BX (spine k).2),(6,.sc (.ptr 128 0)),(10,.sc (.ptr 1024 0)),(12,.sc (.ptr 2304 0)),(11,AA (An e)),(13,intV i)],
     [(128,some (.box [zi,zi,zs,zi,.nil,.nil,zi,zs,zi,zi,.nil])),(1024,some (.box (wc (Ax a)))),(2304,some (.box (wc (chBR (An e) a.1.vars a.2 i).row)))]⟩) (spine k).2.length ?_ ?_ ?_
    .simp[chBR,Cr]
    .intro i hi
     obtain⟨v,hvi⟩:=Ab (l:=a.1.vars) (i:=i) oz;obtain⟨r1,r3⟩:=hC.renR i;have hren:=Zgs (A:=A) (chBR (An e) a.1.vars a.2 i) v (Au i (An e)) oz r1;rw[show refS _ _ _ _=_ from(ZeK hvi).symm]at hren;have hf:=hfr i oz;have hi2:i<a.1.vars.length:=oz;unfold HH;simp(maxSteps:=9^7) (disch:=try exact zd) [hi,hi2,hvi,hf,hren,-getElem?_pos]
    .have hB:chBR (An e) a.1.vars a.2 (spine k).2.length=Cr (renL (An e) a.1.vars) a.2:=by
      unfold chBR;rw[qh (by simp[renL];omega)]
     rw[hB];unfold HH;simp(maxSteps:=9^7) (disch:=try exact zd) [-getElem?_pos];refine Am (fun i=>⟨[(2,BX (spine k).2),(6,.sc (.ptr 128 0)),(12,.sc (.ptr 2304 0)),(11,AA (An e)),(14,intV i)],
      [(128,some (.box [zi,zi,zs,zi,.nil,.nil,zi,zs,zi,zi,.nil])),(1024,some (.box (wc (Ax a)))),(2304,some (.box (wc (chSR (An e) (spine k).2 (Cr (renL (An e) a.1.vars) a.2) i).row)))]⟩) (spine k).2.length ?_ ?_ ?_
     .simp[chSR,Cr]
     .intro i hi
      obtain⟨x,hx⟩:=Ab (l:=(spine k).2) (i:=i) hi;obtain⟨s1,s2⟩:=hC.subR i;obtain⟨x1,x2,x3,_⟩:=hC.args x (qc hx);have hsu:=Ln (A:=A) (chSR (An e) (spine k).2 (Cr (renL (An e) a.1.vars) a.2) i) (Au i (An e)) x s2 s1 x1.1.wf oz;rw[<-ZbN hx]at hsu;have hf:=hfr i oz;unfold JJ;simp(maxSteps:=9^7) (disch:=try exact zd) [hi,hx,hf,hsu,-getElem?_pos]
     .unfold JJ
      simp(maxSteps:=9^7) (disch:=try exact zd) [-getElem?_pos]
   .rw [if_neg hv]
    have hv':¬(a.1.vars.length:Int)=(spine k).2.length:=oz;unfold HB Eu LF;simp(maxSteps:=9^7) (disch:=try exact zd) [hi,hai',hcon,hv,hv',-getElem?_pos]
variable {A:Ag}
theorem UL (e f x:Exp)(m:Int)(b:Bool)(hl:e.weight<=687194767360)(hf:e.kids[0]?=some f)(hc:(K A).call 50 [expV f] []=some (.tu [expV x,intV m,Ac b],[])):
 (K A).call 104 [expV e] []=some (.tu [expV (AD e (x::e.children.tail)),intV m,Ac b],[]):=by
 have hkl:0<e.kids.length:=by
  cases hh:e.kids with
  |nil=>rw[hh]at hf;simp at hf
  |cons a l=>simp
 have hle:=e.children_le;rw[e.children_len]at hle;have hch:=E7 (A:=A) e oz;have hcl:=e.children_len;have hset:e.children.set 0 x=x::e.children.tail:=by
  cases hh:e.children with
  |nil=>rw[hh]at hcl;simp at hcl;omega
  |cons a l=>rfl
 have hrs:setRow (wr (Exp.rows e.children)) 0 (wc x.row)=wr (Exp.rows (x::e.children.tail)):=by rw[DH,hset]
 have hCl:(x::e.children.tail).length=e.kids.length+e.arms.length:=by rw[<-hset,List.length_set,hcl]
 have hw:=Sg (A:=A) e (x::e.children.tail) hCl hl;obtain⟨c0,hg0⟩:∃c,e.children[0]?=some c:=Ab oz;rw[hcl]at hch;have hrow':=BQ e
 have hrowW:wc (AD e (x::e.children.tail)).row=[.c (.int .i64 e.kind),.c (.int .i64 e.pos),.c (.str e.name),.c (.int .i64 e.num),.c (.sl (Exp.rows ((x::e.children.tail).take e.kids.length))),.c (.sl (Exp.armRows (Av e.arms ((x::e.children.tail).drop e.kids.length)))),.c (.int .i64 e.ty.kind),.c (.str e.ty.name),.c (.int .i64 e.ty.id),.c (.int .i64 e.ty.home),.c (.sl (Ty.rows e.ty.args))]:=by rw[Exp.row_eq];rfl
 have hkW:((x::e.children.tail).take e.kids.length).length=e.kids.length:=by rw[qR,hCl];omega
 have haW:(Av e.arms ((x::e.children.tail).drop e.kids.length)).length=e.arms.length:=by rw[armsW_len,qab,hCl];omega
 refine fnO v104 ?_;unfold v104;generalize x::e.children.tail=cs at *
 simp only[expV,hrow']at hch hw;simp(maxSteps:=9^7) (disch:=try exact zd) [hf,hc,hch,hrs,hg0,hw,hrowW,hCl,hkW,haW,hrow',-getElem?_pos]
theorem get0 {α:Type}(x:α)(l:List α):(x::l)[0]?=some x:=rfl
theorem get1 {α:Type}(x y:α)(l:List α):(x::y::l)[1]?=some y:=rfl
def N0 (A:Ag)(n:Nat)(e:Exp):Prop:=∃(x:Exp) (m:Int) (b:Bool),(K A).call 50 [expV e] []=some (.tu [expV x,intV m,Ac b],[])/\
 ((b=true/\∃m':Nat,m=m'/\Aq refP An BS n e=some (x,m'))\/(b=false/\Aq refP An BS n e=none))
theorem GX {n:Nat}{e x:Exp}{m:Nat}(h:(K A).call 50 [expV e] []=some (.tu [expV x,intV m,Ac true],[]))(hs:Aq refP An BS n e=some (x,m)):N0 A n e:=⟨x,m,true,h,.inl ⟨rfl,m,rfl,hs⟩⟩
theorem O6 {n:Nat}{e x:Exp}{m:Int}(h:(K A).call 50 [expV e] []=some (.tu [expV x,intV m,Ac false],[]))(hs:Aq refP An BS n e=none):N0 A n e:=⟨x,m,false,h,.inr ⟨rfl,hs⟩⟩
theorem OJ:∀(n:Nat)(e:Exp),e.weight<=n->okE e->lfE e->recZ e->e.weight<=6000->N0 A n e
 |0,e,h,_,_,_,_=>by have:=e.weight_pos;omega
 |n+1,e,hn,he,hl,hz,hw=>by
  have hs:=he.1;by_cases h2:e.kind=5\/e.kind=6\/e.kind=7
  .obtain ⟨f,a,hk⟩:=JW hs h2
   have hf:e.kids[0]?=some f:=(by rw[hk];rfl);have hfm:f∈e.children:=AE (qc hf);have ham:a∈e.children:=AE (by rw[hk];simp);have hlf:=Exp.child_lt hfm;have hla:=Exp.child_lt ham;rcases h2 with h5|h6|h7
   .by_cases h4:f.kind=4
    .obtain ⟨k,hfk⟩:=Lu (hs.child hfm) (.inl h4)
     have hkm:k∈f.children:=AE (by rw[hfk];simp);have hlk:=Exp.child_lt hkm;have hsu:=Ln (A:=A) k f.name a oz ((hs.child hfm).child hkm) (hs.child ham).wf oz;refine GX (m:=1) (x:=refP k f.name a) ?_ (by unfold Aq;rw[hk];simp[h5,h4,hfk]);refine fnO v50 ?_;unfold v50;simp(maxSteps:=9^7) (disch:=try exact zd) [h5,hk,h4,hfk,get0,get1,hsu,-getElem?_pos]
    .obtain ⟨x,m,b,hc,hb⟩:=OJ n f oz (he.child hfm) (hl.child hfm) (hz.child hfm) oz
     have hfi:=UL (A:=A) e f x m b oz hf hc;refine⟨AD e (x::e.children.tail),m,b,?_,?_⟩
     .refine fnO v50 ?_
      unfold v50;simp(maxSteps:=9^7) (disch:=try exact zd) [h5,hk,h4,get0,get1,hfi,-getElem?_pos]
     .have hg:Aq refP An BS (n+1) e=(Aq refP An BS n f).map fun p=>(AD e (p.1::e.children.tail),p.2):=by
       conv=>lhs;unfold Aq
       rw[hk];simp[h5,h4]
      rw[hg];rcases hb with ⟨hb,m',hm',h1⟩|⟨hb,h1⟩
      .exact .inl ⟨hb,m',hm',by rw[h1];rfl⟩
      .exact .inr ⟨hb,by rw[h1];rfl⟩
   .have hsu:=Ln (A:=A) a e.name f oz (hs.child ham) (hs.child hfm).wf oz
    refine GX (m:=2) (x:=refP a e.name f) ?_ (by unfold Aq;rw[hk];simp[h6]);refine fnO v50 ?_;unfold v50;simp(maxSteps:=9^7) (disch:=try exact zd) [h6,hk,get0,get1,hsu,-getElem?_pos]
   .have hag:=Gc he h7 hfm
    have hsm:=SZ (f:=f) hs hz h7;have hsu:=Ln (A:=A) a e.name (BS e f) oz (hs.child ham) (sameP.shp _ _ hsm hag.1).wf (by have:=sameP.weight _ _ hsm;have:=Me (f:=f) he h7;omega)
    rw[show expV (BS e f)=.ag [.c (.int .i64 7),.c (.int .i64 0),.c (.str e.name),.c (.int .i64 0),.c (.sl [f.row,f.row]),.c (.sl []),.c (.int .i64 0),.c (.str []),.c (.int .i64 0),.c (.int .i64 0),.c (.sl [])] by unfold BS;simp only[expV,Exp.row_eq (Exp.mk _ _ _ _ _ _ _)];rfl]at hsu;refine GX (m:=3) (x:=refP a e.name (BS e f)) ?_ (by unfold Aq;rw[hk];simp[h7]);refine fnO v50 ?_;unfold v50
    simp(maxSteps:=9^7) (disch:=try exact zd) [h7,hk,get0,get1,hsu,-getElem?_pos]
  .by_cases h1:e.kind=4\/e.kind=8\/e.kind=9\/e.kind=11
   .obtain ⟨k,hk⟩:=Lu hs h1
    have hf:e.kids[0]?=some k:=(by rw[hk];rfl);have hkm:k∈e.children:=AE (qc hf);have hlk:=Exp.child_lt hkm;rcases h1 with h4|h8|h9|h11
    .refine O6 (m:=0) (x:=e) ?_ (by unfold Aq;rw [hk];simp [h4])
     refine fnO v50 ?_;unfold v50;simp(maxSteps:=9^7) (disch:=try exact zd) [h4,-getElem?_pos]
    .have hsp:=MQ (A:=A) k (hs.child hkm) oz
     have hspq:=HF k.weight k [] (qg _) (hs.child hkm);by_cases hm:(spine k).1.kind=2
     .have hc:=XC (A:=A) e k hk he hl hw
      have hg:Aq refP An BS (n+1) e=BY refP An e (spine k).1.name (spine k).2:=by
       conv=>lhs;unfold Aq
       rw[hk];simp[h8,hspq,hm]
      cases ho:BY refP An e (spine k).1.name (spine k).2 with
      |none=>
       rw[ho]at hc;replace hc:(K A).call 105 [expV e,strV (spine k).1.name,BX (spine k).2] []=some (.tu [expV e,intV 0,Ac false],[]):=hc;refine O6 (m:=0) (x:=e) ?_ (by rw[hg,ho]);refine fnO v50 ?_;unfold v50;simp(maxSteps:=9^7) (disch:=try exact zd) [h8,hk,get0,hsp,hm,hc,-getElem?_pos]
      |some p=>
       rw[ho]at hc;replace hc:(K A).call 105 [expV e,strV (spine k).1.name,BX (spine k).2] []=some (.tu [expV p.1,intV 4,Ac true],[]):=hc;have h4:p.2=4:=by
        unfold BY at ho;split at ho
        .cases ho
        .split at ho
         .exact(congrArg Prod.snd (qaW ho)).symm
         .cases ho
       refine GX (m:=4) (x:=p.1) ?_ (by rw[hg,ho,<-h4]);refine fnO v50 ?_;unfold v50;simp(maxSteps:=9^7) (disch:=try exact zd) [h8,hk,get0,hsp,hm,hc,-getElem?_pos]
     .obtain ⟨x,m,b,hc,hb⟩:=OJ n k oz (he.child hkm) (hl.child hkm) (hz.child hkm) oz
      have hfi:=UL (A:=A) e k x m b oz hf hc;refine⟨AD e (x::e.children.tail),m,b,?_,?_⟩
      .refine fnO v50 ?_
       unfold v50;simp(maxSteps:=9^7) (disch:=try exact zd) [h8,hk,get0,hsp,hm,hfi,-getElem?_pos]
      .have hg:Aq refP An BS (n+1) e=(Aq refP An BS n k).map fun p=>(AD e (p.1::e.children.tail),p.2):=by
        conv=>lhs;unfold Aq
        rw[hk];simp[h8,hspq,hm]
       rw[hg];rcases hb with ⟨hb,m',hm',h1⟩|⟨hb,h1⟩
       .exact .inl ⟨hb,m',hm',by rw[h1];rfl⟩
       .exact .inr ⟨hb,by rw[h1];rfl⟩
    .refine GX (m:=5) (x:=k) ?_ (by unfold Aq;rw [hk];simp [h9])
     refine fnO v50 ?_;unfold v50;simp(maxSteps:=9^7) (disch:=try exact zd) [h9,hk,get0,-getElem?_pos]
    .refine GX (m:=6) (x:=k) ?_ (by unfold Aq;rw [hk];simp [h11])
     refine fnO v50 ?_;unfold v50;simp(maxSteps:=9^7) (disch:=try exact zd) [h11,hk,get0,-getElem?_pos]
   .refine O6 (m:=0) (x:=e) ?_ (by unfold Aq;rw [TP hs h2 h1])
    have k5:¬e.kind=5:=oz;have k6:¬e.kind=6:=oz;have k7:¬e.kind=7:=oz;have k8:¬e.kind=8:=oz;have k9:¬e.kind=9:=oz;have k11:¬e.kind=11:=oz;refine fnO v50 ?_;unfold v50;simp(maxSteps:=9^7) (disch:=try exact zd) [k5,k6,k7,k8,k9,k11,-getElem?_pos]
variable {A:Ag}
def LB (ds:List DataD)(e:Exp):Prop:=rawE1 ds e/\annT e/\numB e/\(e.kind=8->e.arms≠[])/\∀a∈e.arms,a.1.vars.length<=2
def rawN (ds:List DataD)(e:Exp):Prop:=e.fold fun e l=>LB ds e/\∀p∈l,p
theorem Sd (ds:List DataD)(e:Exp):rawN ds e=(LB ds e/\∀x∈e.children,rawN ds x):=by
 have:=Exp.fold_eq (fun e (l:List Prop)=>LB ds e/\∀p∈l,p) e;unfold rawN;rw[this];simp only[qU]
theorem rawN.one {ds:List DataD}{e:Exp}(h:rawN ds e):LB ds e:=by rw[Sd]at h;exact h.1
theorem rawN.child {ds:List DataD}{e x:Exp}(h:rawN ds e)(hx:x∈e.children):rawN ds x:=by rw[Sd]at h;exact h.2 x hx
theorem rawN.mkE {ds:List DataD}{e:Exp}:rawN ds e->(e.fold fun e l=>(∀a∈e.arms,a.1.vars.Nodup)/\∀p∈l,p)->mkE ds e:=by
 induction e using Exp.ind with
 |h e ih=>
  intro h hp;rw[Exp.fold_eq]at hp;simp only[qU]at hp;rw[Kf];refine⟨?_,fun x hx=>ih x hx (h.child hx) (hp.2 x hx)⟩;obtain⟨⟨h1,h2,h3,h4,h5,h6⟩,h7,h8,h9,h10⟩:=h.one;refine⟨h1,fun a ha=>?_,qr h3 (by decide),h7,h8,?_⟩
  .obtain ⟨g1,g2,g3,g4⟩:=h2 a ha
   exact⟨g1,g2,h10 a ha,hp.1 a ha,fun v hv=>Ge (g4 v hv)⟩
  .rcases h6 with h|h|h|h|h|h|h|h
   .exact .inl ⟨h.1,Ge h.2.1,h.2.2⟩
   .exact .inr (.inl h)
   .exact .inr (.inr (.inl h))
   .exact .inr (.inr (.inr (.inl ⟨h.1,Ge h.2.1,h.2.2⟩)))
   .exact .inr (.inr (.inr (.inr (.inl h))))
   .exact .inr (.inr (.inr (.inr (.inr (.inl ⟨h.1,Ge h.2.1,h.2.2⟩)))))
   .exact .inr (.inr (.inr (.inr (.inr (.inr (.inl h))))))
   .exact .inr (.inr (.inr (.inr (.inr (.inr (.inr ⟨h.1,h.2.1,h.2.2,h9 h.1⟩))))))
def RawN (L:List Int)(ds:List DataD)(B:Nat)(r:V×List Obj):Prop:=∃e J,rawN ds e/\e.weight<=B/\J<=L.length/\r=(expV e,[Ao L J])
def ArmN (L:List Int)(ds:List DataD)(dd:DataD)(x:Exp)(B d i:Nat)(s:St):Prop:=∃arms J,arms.length=i/\J<=L.length/\(∀a∈arms,armE ds a/\rawN ds a.2/\a.2.weight<=B/\a.1.vars.length<=2)/\
 s=⟨[(0,.sc (.ptr 0 0)),(1,Aw ds),(2,intV (d+1)),(6,.sc (.ptr 64 0)),(13,.sc (.ptr 10176 0)),(14,.sc (.ptr 10752 0)),(15,intV i)],
  [(0,some (Ao L J)),(64,some (.box [zi,zi,zs,zi,.nil,.nil,zi,zs,zi,zi,.nil])),(10176,some (.box (wc (A2 dd)))),(10624,some (.arr 11 [wc x.row] 0)),
    (10752,some (.box [.c (.int .i64 8),zi,zs,zi,.arr 10624 1,.arr 10822 i,zi,zs,zi,zi,.nil])),(10822,some (.arr 14 (wr (Exp.armRows arms)) 0))]⟩
variable {A:Ag}
theorem Tx (u:CC1)(e:Exp)(h:StE e)(hw:e.weight<=6000):(K A).call 17 [.sc (.c (.sl u)),expV e] []=some (Dh e (Aq refP An BS e.weight e)):=by
 obtain⟨x,m,b,hc,hb⟩:=OJ (A:=A) e.weight e (qg _) h.ok h.lf h.rz hw;have hsm:=Nq e.weight e h.ok h.rz;refine fnO v17 ?_;rcases hb with ⟨rfl,m',rfl,hs⟩|⟨rfl,hs⟩
 .rw [hs] at hsm
  cases hp:Aq subP Ai AG e.weight e with
  |none=>rw[hp]at hsm;exact hsm.elim
  |some p=>
   rw[hp]at hsm;have hx:=Gf _ e _ (qg _) h.ok h.lf (Lim.small hw) hp;have hwx:=sameP.weight _ _ hsm.1;have hok:=RP _ _ hsm.1 (IQ (fun e f he hk hf=>Gc he hk hf) _ e _ h.ok hp);have hst:=Pc (A:=A) x (by
    have h1:=hx.1;simp only at h1 hwx;omega)
   rw[hs];unfold v17 Dh;simp(maxSteps:=9^7) (disch:=try exact zd) [hc,hst]
 .rw [hs]
  unfold v17 Dh;simp(disch:=try exact zd) [hc]
theorem ZaP {e:Exp}(h:StE e):Aq refP An BS e.weight e=none↔Aq subP Ai AG e.weight e=none:=by
 have hsm:=Nq e.weight e h.ok h.rz;constructor
 .intro hn
  rw[hn]at hsm;cases hp:Aq subP Ai AG e.weight e with
  |none=>rfl
  |some p=>rw[hp]at hsm;exact hsm.elim
 .intro hn
  rw[hn]at hsm;cases hp:Aq refP An BS e.weight e with
  |none=>rfl
  |some p=>rw[hp]at hsm;exact hsm.elim
theorem TV {e:Exp}(h:StE e):Dh e (Aq refP An BS e.weight e)=Dh e (Aq subP Ai AG e.weight e):=by
 have hsm:=Nq e.weight e h.ok h.rz;cases hp:Aq subP Ai AG e.weight e with
 |none=>rw[(ZaP h).2 hp]
 |some p=>
  rw[hp]at hsm;cases hr:Aq refP An BS e.weight e with
  |none=>rw[hr]at hsm;exact hsm.elim
  |some q=>
   rw[hr]at hsm;unfold Dh;simp only;rw[ZaE _ _ hsm.1,hsm.2]
variable {A:Ag}
def wfT (e:Exp):Prop:=e.wf/\tyBd e
theorem mkE.wfT {ds:List DataD}{e:Exp}(h:mkE ds e):wfT e:=⟨h.wf,h.tyBd⟩
theorem rawE.wfT {ds:List DataD}{e:Exp}(h:rawE ds e):wfT e:=⟨h.wf,h.tyBd⟩
theorem wfT.child {e x:Exp}(h:wfT e)(hx:x∈e.children):wfT x:=⟨h.1.child hx,h.2.child hx⟩
def PutR (B:Nat)(r:V×List Obj):Prop:=∃e b,wfT e/\e.weight<=B/\r=(.tu [expV e,Ac b],[])
variable {A:Ag}
def ZcV (B:Nat)(b:BindD):Prop:=wfT b.body/\b.body.weight<=B
def setB (b:BindD)(x:Exp):BindD:=⟨b.isRec,b.name,b.sig,b.ty,x⟩
def MutR (ds:List DataD)(n B:Nat)(r:V×List Obj):Prop:=∃bs:List BindD,bs.length=n/\(∀b∈bs,ZcV B b)/\r=(M2 ds bs,[])
def Zir (L:List Int)(ds:List DataD)(bs:List BindD)(i n r:Nat)(s:St):Prop:=∃(path:List Int) (e:Exp) (J:Nat),path.length<=r/\wfT e/\e.weight<=100000/\J<=L.length/\
 s=⟨[(2,.sc (.ptr 64 0)),(4,.sc (.ptr 128 0)),(5,.sc (.ptr 320 0)),(6,intV i),(7,.sc (.arr 1473 path.length)),(8,.sc (.ptr 1920 0)),(9,intV ((n:Int)-r))],
  [(64,some (.box [.c (.sl (AM ds)),.c (.sl (CQ bs))])),(128,some (.box [.nil,.nil])),(320,some (Ao L J)),(1473,some (.arr 1 (wr (Bo path)) 0)),(1920,some (.box (wc e.row)))]⟩
variable {A:Ag}
variable {A:Ag}
def RunQ (u:CC1)(k:Nat)(e:Exp)(i:Nat):St:=⟨[(0,.sc (.c (.sl u))),(2,intV k),(4,.sc (.ptr 64 0)),(6,.sc (.ptr 128 0)),(9,intV i)],[(64,some (.box (wc e.row))),(128,some (.box Lx))]⟩
theorem Zc7 (u:CC1)(e:Exp)(k:Int)(h:OkR e):(K A).call 70 [.sc (.c (.sl u)),expV e,intV k] []=some (.tu [expV (runP (kP k) e).1,intV ((runP (kP k) e).2:Nat),Ac (decide (valP (runP (kP k) e).1))],[]):=by
 refine fnO v70 ?_;have hk:(if (300:Int)<(if (0:Int)>k then 0 else k) then (300:Int) else (if (0:Int)>k then 0 else k))=(kP k:Int):=by
  unfold kP;split<;>split at *<;>omega
 have hk3:kP k<=300:=by unfold kP;omega
 have h51:=Pc (A:=A) e (by have:=h.wt;omega);rw[Ml e h.1.ps]at h51;generalize kP k=n at *
 unfold v70;simp(disch:=try exact zd) [hk,h51];refine Al (fun i s=>∃cur,OkR cur/\i<=n/\runP n e=((runP (n-i) cur).1,(runP (n-i) cur).2+i)/\s=RunQ u n cur i) (runP n e).2 ⟨e,h,qaa _,rfl,by simp[RunQ]⟩ ?_ ?_
 .rintro i s hi ⟨cur,hok,hin,hr,rfl⟩
  have h2:=congrArg Prod.snd hr;simp only at h2;obtain⟨j,hj⟩:∃j,n-i=j+1:=⟨n-i-1,by have:=F3 (n-i) cur;omega⟩;have hwt:=hok.wt;have h15:=Wo (A:=A) cur hok.1.ok.1.wf oz;rw[hj]at hr h2;cases hp:Aq subP Ai AG cur.weight cur with
  |none=>
   rw[G5 hp]at h2;simp only at h2;omega
  |some p=>
   by_cases hn:2000<Ay cur
   .rw [G8 hn] at h2
    simp only at h2;omega
   .rw [Fw hp hn] at hr
    have h17:=Tx (A:=A) u cur hok.1 (by have:=Jm cur hok.1.lf.2;omega);rw[TV hok.1,hp]at h17;unfold Dh at h17;have hnx:=hok.next hp hn;have hiI:(i:Int)<n:=oz;have hnI:(Ay cur:Int)<=2000:=oz;obtain⟨x,r⟩:=p;simp only at *
    generalize Aj x=y at *
    refine wp_mono (Q:=fun e' s'=>e'=.normal/\s'=RunQ u n y (i+1)) ?_ ?_
    .unfold I7 RunQ
     simp(disch:=try exact zd) [hiI,hnI,h15,h17]
    .rintro e' s' ⟨rfl,rfl⟩
     exact .inl ⟨rfl,y,hnx,oz,by rw[hr,show n-(i+1)=j by omega,qaE,qbe 1 i],rfl⟩
 .rintro s ⟨cur,hok,hin,hr,rfl⟩
  have h2:=congrArg Prod.snd hr;simp only at h2;have hz:=L4 (k:=n-(runP n e).2) (e:=cur) oz;have h1:(runP n e).1=cur:=by rw[hr,hz]
  rw[h1];generalize (runP n e).2=m at *
  have hwt:=hok.wt;have h15:=Wo (A:=A) cur hok.1.ok.1.wf oz;have h20:=ZgH (A:=A) cur hok.1.ok.1 oz;by_cases hm:m=n
  .have hmI:¬(m:Int)<n:=oz
   unfold I7 RunQ;simp(disch:=try exact zd) [hmI,h20]
  .have hmI:(m:Int)<n:=oz
   obtain⟨j,hj⟩:∃j,n-m=j+1:=⟨n-m-1,oz⟩;rw[hj]at h2 hz;by_cases hn:2000<Ay cur
   .have hnI:¬(Ay cur:Int)<=2000:=oz
    unfold I7 RunQ;simp(disch:=try exact zd) [hmI,hnI,h15,h20]
   .have hnI:(Ay cur:Int)<=2000:=oz
    have h17:=Tx (A:=A) u cur hok.1 (by have:=Jm cur hok.1.lf.2;omega);cases hp:Aq subP Ai AG cur.weight cur with
    |none=>
     rw[TV hok.1,hp]at h17;unfold Dh at h17;unfold I7 RunQ;simp(disch:=try exact zd) [hmI,hnI,h15,h17,h20]
    |some p=>
     rw[Fw hp hn]at h2;simp only at h2;omega
abbrev runV (e:Exp)(k:Int):V:=.tu [expV (runP (kP k) e).1,intV ((runP (kP k) e).2:Nat),Ac (decide (valP (runP (kP k) e).1))]
theorem OkR.equal {e:Exp}(h:OkR e):(K A).call 18 [expV e,expV e] []=some (Ac true,[]):=by
 have hw:=h.wt;obtain⟨_,⟨q,hq,rfl⟩,heq⟩:=R8 (A:=A) e e h.ty oz oz;have hqt:q=true:=hq.2 (B0 _);rw[heq,hqt]
variable {A:Ag}
def bigM:Nat:=100000000
def cW:Nat:=24010000
theorem WT:23997998<=cW:=by decide
theorem ZeP:cW<=24010000:=by decide
theorem OkR.wtM {e:Exp}(h:OkR e):e.weight<=bigM:=h.wt
abbrev appE (f a:Exp):Exp:=.mk 5 0 [] 0 [f,a] [] tz
def BG:Nat->Nat->Exp->Exp×Nat
 |0,_,e=>(e,0)
 |f+1,k,e=>if (spine (runP k e).1).1.kind=2 then
  (spine (runP k e).1).2.foldl (fun p a=>(appE p.1 (BG f (k-p.2) a).1,p.2+(BG f (k-p.2) a).2)) ((spine (runP k e).1).1,(runP k e).2)
  else runP k e
def Br (f k:Nat)(l:List Exp)(p:Exp×Nat):Exp×Nat:=l.foldl (fun p a=>(appE p.1 (BG f (k-p.2) a).1,p.2+(BG f (k-p.2) a).2)) p
theorem NC (f k:Nat)(e:Exp):BG (f+1) k e=if (spine (runP k e).1).1.kind=2 then Br f k (spine (runP k e).1).2 ((spine (runP k e).1).1,(runP k e).2) else runP k e:=rfl
theorem ZdH (f k:Nat)(l:List Exp)(a:Exp)(p:Exp×Nat):Br f k (l++[a]) p=(appE (Br f k l p).1 (BG f (k-(Br f k l p).2) a).1,(Br f k l p).2+(BG f (k-(Br f k l p).2) a).2):=by
 unfold Br;rw[qaR];rfl
theorem OkR.child {e x:Exp}(h:OkR e)(hx:x∈e.children):OkR x:=by
 obtain⟨⟨h1,h2,h3,h4⟩,B,hB⟩:=h;rw[EB]at h2;exact⟨⟨h1.child hx,h2.2 x hx,h3.child hx,h4.child hx⟩,B,hB.child hx⟩
theorem OkR.spine {e:Exp}(h:OkR e):OkR (spine e).1/\∀x∈(spine e).2,OkR x:=Ih (P:=OkR) (fun _ _ q hx=>q.child hx) e h.1.ok.1 h
theorem QN:∀(k:Nat)(e:Exp),OkR e->(runP k e).1.weight<=e.weight+(runP k e).2*cW
 |0,_,_=>Nat.le_add_right _ _
 |k+1,e,h=>by
  cases hp:Aq subP Ai AG e.weight e with
  |none=>rw[G5 hp];exact Nat.le_add_right _ _
  |some p=>
   by_cases hn:2000<Ay e
   .rw[G8 hn];exact Nat.le_add_right _ _
   .rw [Fw hp hn]
    have hw:=Jm e h.1.lf.2;have h1:=(Gf e.weight e p (qg _) h.1.ok h.1.lf ⟨Lo e (Nat.le_of_not_lt hn),oz,oz⟩ hp).1;have h2:=QN k _ (h.next hp hn);rw[S3]at h2;simp only;rw[qaU,Nat.one_mul];have:=WT;omega
def WhOk (f k:Nat)(e:Exp):Prop:=(BG f k e).2<=k/\tyBd (BG f k e).1/\(BG f k e).1.weight<=e.weight+(BG f k e).2*cW
theorem OX {f k:Nat}(ih:∀k e,OkR e->WhOk f k e):∀(l:List Exp) (p:Exp×Nat),(∀a∈l,OkR a)->tyBd p.1->p.2<=k->
 p.2<=(Br f k l p).2/\(Br f k l p).2<=k/\tyBd (Br f k l p).1/\(Br f k l p).1.weight+p.2*cW<=p.1.weight+(l.map Exp.weight).sum+l.length+(Br f k l p).2*cW
 |[],p,_,h1,h2=>⟨qg _,h2,h1,by simp[Br]⟩
 |a::l,p,h,h1,h2=>by
  obtain⟨g1,g2,g3⟩:=ih (k-p.2) a (h a sy);have ht:tyBd (appE p.1 (BG f (k-p.2) a).1):=by
   rw[Ez];refine⟨by show tz.size<=_;decide,fun x hx=>?_⟩;rw[BD]at hx;simp only[qX,qK,qG,qag,or_false]at hx;rcases hx with rfl|rfl
   .exact h1
   .exact g2
  have hf:Br f k (a::l) p=Br f k l (appE p.1 (BG f (k-p.2) a).1,p.2+(BG f (k-p.2) a).2):=rfl;rw[hf];generalize BG f (k-p.2) a=q at *
  obtain⟨q1,q2,q3,q4⟩:=OX (k:=k) ih l (appE p.1 q.1,p.2+q.2) (fun b hb=>h b (by simp[hb])) ht (by simp only;omega);simp only[JV,qaU]at q1 q4;simp only[qt,qQ,qI];refine⟨oz,q2,q3,?_⟩;generalize p.2*cW=x1 at *
  generalize q.2*cW=x2 at *
  generalize (Br f k l (appE p.1 q.1,p.2+q.2)).2*cW=x3 at *
  omega
theorem LK (f:Nat):∀(k:Nat) (e:Exp),OkR e->WhOk f k e:=by
 induction f with
 |zero=>
  intro k e h;unfold WhOk BG;exact⟨qaa _,h.ty,by simp⟩
 |succ f ih=>
  intro k e h;have hr:=h.run k;have hw:=QN k e h;have hl:=F3 k e;unfold WhOk;rw[NC];split
  .obtain ⟨h1,h2⟩:=hr.spine
   obtain⟨q1,q2,q3,q4⟩:=OX (k:=k) ih (spine (runP k e).1).2 ((spine (runP k e).1).1,(runP k e).2) h2 h1.ty hl;have hs:=Ke _ hr.1.ok.1;simp only at q1 q4;exact⟨q2,q3,oz⟩
  .exact⟨hl,hr.ty,hw⟩
theorem Xa {f k:Nat}{e:Exp}(h:OkR e)(hf:k*bigM+e.weight<f+1){i:Nat}{a:Exp}(ha:(spine (runP k e).1).2[i]?=some a):
 OkR a/\(Br f k ((spine (runP k e).1).2.take i) ((spine (runP k e).1).1,(runP k e).2)).2<=k/\(k-(Br f k ((spine (runP k e).1).2.take i) ((spine (runP k e).1).1,(runP k e).2)).2)*bigM+a.weight<f:=by
 have hr:=h.run k;obtain⟨h1,h2⟩:=hr.spine;have hm:=qc ha;obtain⟨q1,q2,_,_⟩:=OX (f:=f) (k:=k) (LK f) ((spine (runP k e).1).2.take i) ((spine (runP k e).1).1,(runP k e).2) (fun b hb=>h2 b (qW hb)) h1.ty (F3 k e);refine⟨h2 a hm,q2,?_⟩;have hlt:=QE hr.1.ok.1 hm;have hwa:=(h2 a hm).wtM;have hpos:=e.weight_pos
 generalize (Br f k ((spine (runP k e).1).2.take i) ((spine (runP k e).1).1,(runP k e).2)).2=m at *
 by_cases h0:m=0
 .have hz:=L4 (k:=k) (e:=e) (by simp only at q1;omega)
  rw[hz]at hlt;subst h0;simp only at hlt;rw[Nat.sub_zero];omega
 .have:(k-m)*bigM+bigM<=k*bigM:=by
   rw[<-Nat.succ_mul];exact qD _ oz
  omega
theorem SL (k:Int):(if (300:Int)<(if (0:Int)>k then 0 else k) then (300:Int) else (if (0:Int)>k then 0 else k))=(kP k:Int)/\kP k<=300/\kP (kP k:Nat)=kP k:=by
 unfold kP;split<;>split at *<;>omega
def WhIH (A:Ag)(u:CC1)(F f:Nat):Prop:=∀(k:Int) (e:Exp),OkR e->kP k*bigM+e.weight<f->(K A).call F [.sc (.c (.sl u)),expV e,intV k] []=some (.tu [expV (BG f (kP k) e).1,intV ((BG f (kP k) e).2:Nat)],[])
theorem QD {u:CC1}{F f n i:Nat}{e:Exp}(ih:WhIH A u F f)(h:OkR e)(hn:n<=300)(hf:n*bigM+e.weight<f+1)(hi:i<(spine (runP n e).1).2.length):∃(a:Exp) (p q:Exp×Nat),(spine (runP n e).1).2[i]?=some a/\
 Br f n ((spine (runP n e).1).2.take i) ((spine (runP n e).1).1,(runP n e).2)=p/\Br f n ((spine (runP n e).1).2.take (i+1)) ((spine (runP n e).1).1,(runP n e).2)=(appE p.1 q.1,p.2+q.2)/\(n:Int)-p.2<=n/\p.2<=n/\
 (K A).call F [.sc (.c (.sl u)),expV a,intV ((n:Int)-p.2)] []=some (.tu [expV q.1,intV (q.2:Nat)],[])/\IntKind.i64.wrap ((p.2:Int)+q.2)=(p.2:Int)+q.2/\
 wc (appE p.1 q.1).row=[.c (.int .i64 5),zi,zs,zi,.c (.sl [p.1.row,q.1.row]),.c (.sl []),zi,zs,zi,zi,.c (.sl [])]:=by
 obtain⟨a,ha⟩:=Ab hi;obtain⟨g1,g2,g3⟩:=Xa h hf ha;rw[AP ha,ZdH];generalize Br f n ((spine (runP n e).1).2.take i) ((spine (runP n e).1).1,(runP n e).2)=p at *
 have hq:kP ((n:Int)-p.2)=n-p.2:=by unfold kP;omega
 have hc:=ih ((n:Int)-p.2) a g1 (by rw[hq];exact g3);have hqk:=(LK f (n-p.2) a g1).1;rw[hq]at hc;exact⟨a,p,_,ha,rfl,rfl,oz,g2,hc,FA _ oz,by rw[Jo];rfl⟩
def WhS (u:CC1)(n:Nat)(args:List Exp)(x:Exp)(p:Exp×Nat)(i:Nat):St:=
 ⟨[(0,.sc (.c (.sl u))),(2,intV n),(6,.sc (.ptr 128 0)),(8,intV p.2),(10,.sc (.ptr 1536 0)),(41,BX args),(42,intV args.length),(43,intV i)],[(64,some (.box (wc x.row))),(128,some (.box Lx)),(1536,some (.box (wc p.1.row)))]⟩
theorem Zbp (u:CC1)(f:Nat):WhIH A u 35 f:=by
 induction f with
 |zero=>intro k e h hf;omega
 |succ f ih=>
  intro k e h hf;obtain⟨hk,hk3,hkk⟩:=SL k;have h33:=Ze1 (A:=A) u e (kP k:Nat) h;rw[hkk]at h33;generalize kP k=n at *
  have hr:=h.run n;have hl:=F3 n e;rw[Ml _ hr.1.ps]at h33;have hwr:=hr.wt;have h41:=NX (A:=A) (runP n e).1 hr.1.ok.1 oz;have hlen:=G4 _ hr.1.ok.1;have hro:=fun i hi=>QD (i:=i) ih h hk3 hf hi;rw[NC];refine fnO v35 ?_;unfold v35;by_cases h2:(spine (runP n e).1).1.kind=2
  .have hv:valP (runP n e).1:=.inr (.inr h2)
   rw[if_pos h2];simp(maxSteps:=9^7) (disch:=try exact zd) [hk,h33,h41,hv,h2,-getElem?_pos];refine Am (fun i=>WhS u n (spine (runP n e).1).2 (runP n e).1 (Br f n ((spine (runP n e).1).2.take i) ((spine (runP n e).1).1,(runP n e).2)) i) (spine (runP n e).1).2.length (by simp[WhS,Br]) ?_ ?_
   .intro i hi
    obtain⟨a,p,q,ha,hp,hp1,g1,g2,hc,hwr2,hrow⟩:=hro i hi;rw[hp,hp1];generalize (spine (runP n e).1).2=args at *
    unfold Mn WhS;simp(maxSteps:=9^7) (disch:=try exact zd) [hi,ha,hc,hrow,hwr2,-getElem?_pos]
   .rw [qh (qg _)]
    generalize Br f n (spine (runP n e).1).2 ((spine (runP n e).1).1,(runP n e).2)=p at *
    unfold Mn WhS;simp(maxSteps:=9^7) (disch:=try exact zd) [-getElem?_pos]
  .rw [if_neg h2]
   by_cases hv:valP (runP n e).1 <;>
   simp(maxSteps:=9^7) (disch:=try exact zd) [hk,h33,h41,hv,h2,-getElem?_pos]
def WhQ (u:CC1)(n:Nat)(args:List Exp)(x:Exp)(p:Exp×Nat)(i:Nat):St:=
 ⟨[(0,.sc (.c (.sl u))),(2,intV n),(6,.sc (.ptr 128 0)),(9,intV p.2),(12,BX args),(13,.sc (.ptr 2560 0)),(14,intV i)],[(128,some (.box Lx)),(1024,some (.box (wc x.row))),(2560,some (.box (wc p.1.row)))]⟩
theorem ZbK (u:CC1)(f:Nat):WhIH A u 36 f:=by
 induction f with
 |zero=>intro k e h hf;omega
 |succ f ih=>
  intro k e h hf;obtain⟨hk,hk3,hkk⟩:=SL k;have h70:=Zc7 (A:=A) u e (kP k:Nat) h;rw[hkk]at h70;generalize kP k=n at *
  have hr:=h.run n;have hl:=F3 n e;have hwr:=hr.wt;have h56:=MQ (A:=A) (runP n e).1 hr.1.ok.1 oz;have hlen:=G4 _ hr.1.ok.1;have hro:=fun i hi=>QD (i:=i) ih h hk3 hf hi;rw[NC];refine fnO v36 ?_;unfold v36;by_cases h2:(spine (runP n e).1).1.kind=2
  .have hv:valP (runP n e).1:=.inr (.inr h2)
   rw[if_pos h2];simp(maxSteps:=9^7) (disch:=try exact zd) [hk,h70,h56,hv,h2,-getElem?_pos];refine Am (fun i=>WhQ u n (spine (runP n e).1).2 (runP n e).1 (Br f n ((spine (runP n e).1).2.take i) ((spine (runP n e).1).1,(runP n e).2)) i) (spine (runP n e).1).2.length (by simp[WhQ,Br]) ?_ ?_
   .intro i hi
    obtain⟨a,p,q,ha,hp,hp1,g1,g2,hc,hwr2,hrow⟩:=hro i hi;rw[hp,hp1];generalize (spine (runP n e).1).2=args at *
    unfold LM WhQ;simp(maxSteps:=9^7) (disch:=try exact zd) [hi,ha,hc,hrow,hwr2,-getElem?_pos]
   .rw [qh (qg _)]
    generalize Br f n (spine (runP n e).1).2 ((spine (runP n e).1).1,(runP n e).2)=p at *
    unfold LM WhQ;simp(maxSteps:=9^7) (disch:=try exact zd) [-getElem?_pos]
  .rw [if_neg h2]
   by_cases hv:valP (runP n e).1 <;>
   simp(maxSteps:=9^7) (disch:=try exact zd) [hk,h70,h56,hv,h2,-getElem?_pos]
def Gl:Nat:=301*bigM+1
theorem Q8 {e:Exp}(h:OkR e)(k:Int):kP k*bigM+e.weight<Gl:=by
 have h1:=h.wtM;have h2:kP k*bigM<=300*bigM:=qD _ (by unfold kP;omega);have h3:301*bigM=300*bigM+bigM:=Nat.succ_mul 300 bigM;unfold Gl;omega
theorem WR {e:Exp}(h:OkR e)(f k:Nat)(hk:k<=300):(K A).call 18 [expV (BG f k e).1,expV (BG f k e).1] []=some (Ac true,[]):=by
 obtain⟨h1,h2,h3⟩:=LK f k e h;have h4:=h.wt;have h5:(BG f k e).2*cW<=300*24010000:=Nat.mul_le_mul oz ZeP;generalize BG f k e=x at *
 obtain⟨_,⟨q,hq,rfl⟩,heq⟩:=R8 (A:=A) x.1 x.1 h2 oz oz;have hqt:q=true:=hq.2 (B0 _);rw[heq,hqt]
theorem Zge (bits:Int)(codes:List Int)(steps:Int)(ds7:List DataD)(h7:ds7.length=7)(hg:∀d∈ds7,fitD d)(hcn:ET ds7)(h55:(K A).call 81 [] []=some (Aw ds7,[]))(h25:(K A).call 25 [] []=some (Ac true,[])):
 (K A).call 9 [intV bits,Cy codes,intV steps] []=some (Ac true,[]):=by
 refine fnO v9 ?_;have hf:(K A).call 12 [Cy codes] []=some (Ac (decide (codes.length<=60)),[]):=few8 (A:=A) codes;unfold v9;by_cases hl:codes.length<=60
 .obtain ⟨_,⟨ds,bs,hd,hgd,hb,hbs,rfl⟩,hp⟩:=Zbf (A:=A) bits codes oz ds7 h7 hg h55
  have h28:=Yt (A:=A) ds bs oz fun b hm=>by have:=(hbs b hm).2.2.1;omega
  obtain⟨hok,hty⟩:=Zg (fun d h=>hcn d (hd d h)) hb hbs;generalize CT Aj bs=e at *
  have h35:=fun k=>Zbp (A:=A) (AM ds) Gl k e hok (Q8 hok k);have h36:=fun k=>ZbK (A:=A) (AM ds) Gl k e hok (Q8 hok k);obtain⟨i,hi,hmi⟩:=Ut (A:=A) steps 40 oz oz;have heq:=fun k=>WR (A:=A) hok Gl (kP k) (by unfold kP;omega);have a1:=h35 i;have a2:=h36 i;have a3:=heq i;have b1:=h35 (-1);have b2:=h36 (-1);have b3:=heq (-1);clear h35 h36 heq;generalize BG Gl (kP i) e=r at *
  generalize BG Gl (kP (-1)) e=q at *
  have g0:∀x y:List W,[x,y][0]?=some x:=fun _ _=>rfl;have g1:∀x y:List W,[x,y][1]?=some y:=fun _ _=>rfl;simp(maxSteps:=9^7) (disch:=try exact zd) [h25,hf,hl,hp,h28,hmi,-getElem?_pos]
  refine Am (fun j=>⟨[(7,.sc (.ptr 768 0)),(8,.sc (.ptr 1024 0)),(27,.sc (.arr 1280 2)),(28,intV 2),(29,intV j)],[(768,some (.box [.c (.sl (AM ds)),.c (.sl (CQ bs))])),(1024,some (.box (wc e.row))),(1280,some (.arr 1 [[.c (.int .i64 i)],[.c (.int .i64 (-1))]] 0))]⟩) 2 sy ?_ ?_
  .intro j hj
   obtain rfl|rfl:j=0\/j=1:=oz
   .unfold l9_0
    simp(maxSteps:=9^7) (disch:=try exact zd) [a1,a2,a3,g0,-getElem?_pos]
   .unfold l9_0
    simp(maxSteps:=9^7) (disch:=try exact zd) [b1,b2,b3,g1,-getElem?_pos]
  .unfold l9_0
   simp(maxSteps:=9^7) (disch:=try exact zd) [-getElem?_pos]
 .simp(disch:=try exact zd) [h25,hf,hl,-getElem?_pos]
end Go.Vs.Tryz
