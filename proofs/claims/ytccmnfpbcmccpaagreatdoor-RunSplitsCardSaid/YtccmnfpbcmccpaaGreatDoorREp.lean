/- Made programs, walked. -/
import Derived.Test.YtccmnfpbcmccpaaGreatDoorRDp
set_option linter.unusedSimpArgs false
set_option linter.unusedVariables false
set_option linter.deprecated false
set_option maxHeartbeats 32000000
namespace Go.Vs
open Go
structure BindD where
 isRec:Bool
 name:Str
 sig:Bool
 ty:Ty
 body:Exp
def BW (b:BindD):List Cell:=[.int .i64 0,.bool b.isRec,.str b.name,.bool b.sig,.int .i64 b.ty.kind,.str b.ty.name,.int .i64 b.ty.id,.int .i64 b.ty.home,.sl (Ty.rows b.ty.args),.int .i64 b.body.kind,.int .i64 b.body.pos,.str b.body.name,.int .i64 b.body.num,.sl (Exp.rows b.body.kids),.sl (Exp.armRows b.body.arms),.int .i64 b.body.ty.kind,.str b.body.ty.name,.int .i64 b.body.ty.id,.int .i64 b.body.ty.home,.sl (Ty.rows b.body.ty.args)]
def C1 (l:List BindD):List (List Cell):=l.map BW
@[simp] theorem bindRow_len (b:BindD):(BW b).length=20:=rfl
@[simp] theorem bindRows_len (l:List BindD):(C1 l).length=l.length:=by simp[C1]
@[simp] theorem bindRows_get (l:List BindD) (i:Nat):(C1 l)[i]?=(l[i]?).map BW:=by simp[C1]
@[simp] theorem okRows_bind (l:List BindD):AW 20 (wr (C1 l))=true:=CV l bindRow_len
@[simp] theorem bindRows_snoc (l:List BindD) (x:BindD):wr (C1 l)++[wc (BW x)]=wr (C1 (l++[x])):=by simp[C1,wr]
@[simp] theorem bindRows0:C1 []=[]:=rfl
section
variable (b:BindD)
@[simp] theorem cut_bd1:cut (BW b) 1 1=some [.bool b.isRec]:=rfl
@[simp] theorem cut_bd2:cut (BW b) 2 1=some [.str b.name]:=rfl
@[simp] theorem cut_bd3:cut (BW b) 3 1=some [.bool b.sig]:=rfl
@[simp] theorem cut_bd4:cut (BW b) 4 5=some b.ty.row:=by rw[Ty.row_eq];rfl
@[simp] theorem cut_bd9:cut (BW b) 9 11=some b.body.row:=by rw[Exp.row_eq];rfl
@[simp] theorem cut_bd:cut (BW b) 0 20=some (BW b):=rfl
@[simp] theorem cutw_bd1:cut (wc (BW b)) 1 1=some [.c (.bool b.isRec)]:=rfl
@[simp] theorem cutw_bd2:cut (wc (BW b)) 2 1=some [.c (.str b.name)]:=rfl
@[simp] theorem cutw_bd3:cut (wc (BW b)) 3 1=some [.c (.bool b.sig)]:=rfl
@[simp] theorem cutw_bd4:cut (wc (BW b)) 4 5=some (wc b.ty.row):=by rw[Ty.row_eq];rfl
@[simp] theorem cutw_bd9:cut (wc (BW b)) 9 11=some (wc b.body.row):=by rw[Exp.row_eq];rfl
@[simp] theorem cutw_bd:cut (wc (BW b)) 0 20=some (wc (BW b)):=rfl
end
def bW (b:BindD):List W:=[.c (.int .i64 0),.c (.bool b.isRec),.c (.str b.name),.c (.bool b.sig),.c (.int .i64 b.ty.kind),.c (.str b.ty.name),.c (.int .i64 b.ty.id),.c (.int .i64 b.ty.home),if b.sig=true then .c (.sl (Ty.rows b.ty.args)) else .nil,
 .c (.int .i64 b.body.kind),.c (.int .i64 b.body.pos),.c (.str b.body.name),.c (.int .i64 b.body.num),.c (.sl (Exp.rows b.body.kids)),.c (.sl (Exp.armRows b.body.arms)),.c (.int .i64 b.body.ty.kind),.c (.str b.body.ty.name),.c (.int .i64 b.body.ty.id),.c (.int .i64 b.body.ty.home),.c (.sl (Ty.rows b.body.ty.args))]
def bWs (l:List BindD):List (List W):=l.map bW
@[simp] theorem bW_len (b:BindD):(bW b).length=20:=rfl
@[simp] theorem bWs_len (l:List BindD):(bWs l).length=l.length:=by simp[bWs]
@[simp] theorem bWs_snoc (l:List BindD) (b:BindD):bWs l++[bW b]=bWs (l++[b]):=by simp[bWs]
@[simp] theorem bWs0:bWs []=[]:=rfl
theorem IY (b:BindD){P:W->Prop}(hc:∀c,P (.c c))(hn:P .nil):∀w∈bW b,P w:=by
 intro w hw;unfold bW at hw;simp only[qD,qY,or_false]at hw;rcases hw with rfl|rfl|rfl|rfl|rfl|rfl|rfl|rfl|rfl|rfl|rfl|rfl|rfl|rfl|rfl|rfl|rfl|rfl|rfl|rfl
 all_goals first | exact hc _ | (split<;>first | exact hc _ | exact hn)
@[simp] theorem okRows_bW (l:List BindD):AW 20 (bWs l)=true:=by
 unfold AW bWs;simp;exact fun b _ y hy=>IY b (P:=fun y=>An y=true) (fun _=>rfl) rfl y hy
theorem O9 (L:Nat->Option Obj)(d:Nat)(b:BindD){y:W}(hy:y∈bW b):W.ids L d y=[]:=
 IY b (P:=fun y=>W.ids L d y=[]) (fun c=>by cases d<;>rfl) (by cases d<;>rfl) y hy
@[simp] theorem bWs_allIds (L:Nat->Option Obj) (d:Nat) (l:List BindD) (p:Nat->Bool):((bWs l).all fun a=>a.all fun b=>(W.ids L d b).all p)=true:=by
 simp only[qz,bWs,qH];rintro _ ⟨b,_,rfl⟩ y hy;rw[O9 L d b hy];simp
@[simp] theorem bWs_ids (L:Nat->Option Obj) (d:Nat) (l:List BindD):(bWs l).flatMap (fun x=>x.flatMap (W.ids L d))=[]:=by
 simp only[qab,bWs,qH];rintro _ ⟨b,_,rfl⟩ y hy;exact O9 L d b hy
@[simp] theorem bWs_refs (d:Nat) (l:List BindD):(bWs l).flatMap (fun x=>x.flatMap (W.refs d))=[]:=by
 simp only[qab,bWs,qH];rintro _ ⟨b,_,rfl⟩ y hy;exact IY b (P:=fun y=>W.refs d y=[]) (fun c=>by cases d<;>rfl) (by cases d<;>rfl) y hy
@[simp] theorem bWs_ren (ρ:Nat->Option Nat) (d:Nat) (l:List BindD):(bWs l).map (fun x=>x.map (W.ren ρ d))=bWs l:=by
 unfold bWs;rw[qao];refine qK fun b _=>?_;show(bW b).map (W.ren ρ d)=bW b;refine(qK (g:=id) fun y hy=>?_).trans (List.map_id _);exact IY b (P:=fun y=>W.ren ρ d y=id y) (fun c=>by cases d<;>rfl) (by cases d<;>rfl) y hy
theorem ZaK (L:Nat->Option Obj)(d:Nat)(l:List BindD)(h:∀b∈l,b.sig=false->b.ty.args=[]):Ab (Ab (W.toC L d)) (bWs l)=some (C1 l):=by
 unfold bWs C1
 induction l with
 |nil=>rfl
 |cons b r ih=>
  have h1:Ab (W.toC L d) (bW b)=some (BW b):=by
   have hb:=h b (by simp);unfold bW BW;cases hs:b.sig with
   |true=>simp[Ab]
   |false=>simp[Ab,hb hs,Ty.rows]
  simp only[qu,Ab,h1,ih fun c hc=>h c (by simp[hc])]
end Go.Vs
namespace Go.Vs.Tryz
open Go Go.Vs
variable {A:Af}
abbrev TF (ds:List DataD)(bs:List BindD):V:=.ag [.c (.sl (AC ds)),.c (.sl (C1 bs))]
def Im (ds:List DataD)(b:BindD):Prop:=b.name∈BQ/\mkE ds b.body/\b.body.weight<=1768/\b.ty.size<=687194767360/\(b.sig=false->b.ty=tz)
def pre4:List Str:=[[112],[113],[114],[115]]
def pS0 (L:List Int)(ds:List DataD)(bs:List BindD)(cv:V)(n i J:Nat):St:=⟨[(4,.sc (.ptr 64 0)),(5,.sc (.ptr 256 0)),(6,.sc (.ptr 576 0)),(7,cv),(8,intV n),(9,intV i)],[(64,some (.box [.nil,.nil])),(256,some (Am L J)),(576,some (.box [.c (.sl (AC ds)),.arr 642 i])),(642,some (.arr 20 (bWs bs) 0))]⟩
def pS0t (L:List Int)(ds:List DataD)(bs:List BindD)(cv:V)(n i J:Nat):St:=⟨[(4,.sc (.ptr 64 0)),(5,.sc (.ptr 256 0)),(6,.sc (.ptr 576 0)),(7,cv),(8,intV n),(9,intV i),(26,Ac true)],[(64,some (.box [.nil,.nil])),(256,some (Am L J)),(576,some (.box [.c (.sl (AC ds)),.arr 642 i])),(642,some (.arr 20 (bWs bs) 0))]⟩
def pS1 (L:List Int)(ds:List DataD)(bs:List BindD)(cv:V)(n i J:Nat)(r:Bool)(nm:Str):St:=⟨[(4,.sc (.ptr 64 0)),(5,.sc (.ptr 256 0)),(6,.sc (.ptr 576 0)),(7,cv),(8,intV n),(9,intV i),(10,.sc (.ptr 1792 0))],[(64,some (.box [.nil,.nil])),(256,some (Am L J)),(576,some (.box [.c (.sl (AC ds)),.arr 642 i])),(642,some (.arr 20 (bWs bs) 0)),(1280,some (.arr 1 [[.c (.str [112])],[.c (.str [113])],[.c (.str [114])],[.c (.str [115])]] 0)),(1792,some (.box [zi,.c (.bool r),.c (.str nm),.c (.bool false),zi,zs,zi,zi,.nil,zi,zi,zs,zi,.nil,.nil,zi,zs,zi,zi,.nil]))]⟩
def pS2 (L:List Int)(ds:List DataD)(bs:List BindD)(cv:V)(n i J:Nat)(r:Bool)(nm:Str)(x:Ty):St:=⟨[(4,.sc (.ptr 64 0)),(5,.sc (.ptr 256 0)),(6,.sc (.ptr 576 0)),(7,cv),(8,intV n),(9,intV i),(10,.sc (.ptr 1792 0)),(11,.sc (.ptr 2240 0))],[(64,some (.box [.nil,.nil])),(256,some (Am L J)),(576,some (.box [.c (.sl (AC ds)),.arr 642 i])),(642,some (.arr 20 (bWs bs) 0)),(1792,some (.box [zi,.c (.bool r),.c (.str nm),.c (.bool false),zi,zs,zi,zi,.nil,zi,zi,zs,zi,.nil,.nil,zi,zs,zi,zi,.nil])),(2240,some (.box (wc x.row)))]⟩
def pS3 (L:List Int)(ds:List DataD)(bs:List BindD)(cv:V)(n i J:Nat)(r:Bool)(nm:Str)(x:Ty):St:=⟨[(4,.sc (.ptr 64 0)),(5,.sc (.ptr 256 0)),(6,.sc (.ptr 576 0)),(7,cv),(8,intV n),(9,intV i),(10,.sc (.ptr 1792 0)),(11,.sc (.ptr 2240 0)),(44,Ac false)],[(64,some (.box [.nil,.nil])),(256,some (Am L J)),(576,some (.box [.c (.sl (AC ds)),.arr 642 i])),(642,some (.arr 20 (bWs bs) 0)),(1792,some (.box [zi,.c (.bool r),.c (.str nm),.c (.bool false),zi,zs,zi,zi,.nil,zi,zi,zs,zi,.nil,.nil,zi,zs,zi,zi,.nil])),(2240,some (.box (wc x.row)))]⟩
def pS4 (L:List Int)(ds:List DataD)(bs:List BindD)(cv:V)(n i J:Nat)(r g:Bool)(nm:Str)(x:Ty):St:=⟨[(4,.sc (.ptr 64 0)),(5,.sc (.ptr 256 0)),(6,.sc (.ptr 576 0)),(7,cv),(8,intV n),(9,intV i),(10,.sc (.ptr 1792 0)),(11,.sc (.ptr 2240 0))],[(64,some (.box [.nil,.nil])),(256,some (Am L J)),(576,some (.box [.c (.sl (AC ds)),.arr 642 i])),(642,some (.arr 20 (bWs bs) 0)),(1792,some (.box [zi,.c (.bool r),.c (.str nm),.c (.bool g),zi,zs,zi,zi,.nil,zi,zi,zs,zi,.nil,.nil,zi,zs,zi,zi,.nil])),(2240,some (.box (wc x.row)))]⟩
def pS5 (L:List Int)(ds:List DataD)(bs:List BindD)(cv:V)(n i J:Nat)(r g:Bool)(nm:Str)(x:Ty)(t0 t1 t2 t3 t4:W):St:=⟨[(4,.sc (.ptr 64 0)),(5,.sc (.ptr 256 0)),(6,.sc (.ptr 576 0)),(7,cv),(8,intV n),(9,intV i),(10,.sc (.ptr 1792 0)),(11,.sc (.ptr 2240 0))],[(64,some (.box [.nil,.nil])),(256,some (Am L J)),(576,some (.box [.c (.sl (AC ds)),.arr 642 i])),(642,some (.arr 20 (bWs bs) 0)),(1792,some (.box [zi,.c (.bool r),.c (.str nm),.c (.bool g),t0,t1,t2,t3,t4,zi,zi,zs,zi,.nil,.nil,zi,zs,zi,zi,.nil])),(2240,some (.box (wc x.row)))]⟩
def pS5b (L:List Int)(ds:List DataD)(bs:List BindD)(cv:V)(n i J:Nat)(r g:Bool)(nm:Str)(x:Ty)(t0 t1 t2 t3 t4:W):St:=⟨[(4,.sc (.ptr 64 0)),(5,.sc (.ptr 256 0)),(6,.sc (.ptr 576 0)),(7,cv),(8,intV n),(9,intV i),(10,.sc (.ptr 1792 0)),(11,.sc (.ptr 2240 0)),(54,Ac false)],[(64,some (.box [.nil,.nil])),(256,some (Am L J)),(576,some (.box [.c (.sl (AC ds)),.arr 642 i])),(642,some (.arr 20 (bWs bs) 0)),(1792,some (.box [zi,.c (.bool r),.c (.str nm),.c (.bool g),t0,t1,t2,t3,t4,zi,zi,zs,zi,.nil,.nil,zi,zs,zi,zi,.nil])),(2240,some (.box (wc x.row)))]⟩
def pS6 (L:List Int)(ds:List DataD)(bs:List BindD)(cv:V)(n i J:Nat)(r g:Bool)(nm:Str)(x:Ty)(t0 t1 t2 t3 t4:W)(iv:V):St:=⟨[(4,.sc (.ptr 64 0)),(5,.sc (.ptr 256 0)),(6,.sc (.ptr 576 0)),(7,cv),(8,intV n),(9,intV i),(10,.sc (.ptr 1792 0)),(11,.sc (.ptr 2240 0)),(12,iv)],[(64,some (.box [.nil,.nil])),(256,some (Am L J)),(576,some (.box [.c (.sl (AC ds)),.arr 642 i])),(642,some (.arr 20 (bWs bs) 0)),(1792,some (.box [zi,.c (.bool r),.c (.str nm),.c (.bool g),t0,t1,t2,t3,t4,zi,zi,zs,zi,.nil,.nil,zi,zs,zi,zi,.nil])),(2240,some (.box (wc x.row)))]⟩
def pS7 (L:List Int)(ds:List DataD)(bs:List BindD)(cv:V)(n i J:Nat)(r g:Bool)(nm:Str)(x:Ty)(t0 t1 t2 t3 t4:W)(iv:V):St:=⟨[(4,.sc (.ptr 64 0)),(5,.sc (.ptr 256 0)),(6,.sc (.ptr 576 0)),(7,cv),(8,intV n),(9,intV i),(10,.sc (.ptr 1792 0)),(11,.sc (.ptr 2240 0)),(12,iv),(59,Ac false)],[(64,some (.box [.nil,.nil])),(256,some (Am L J)),(576,some (.box [.c (.sl (AC ds)),.arr 642 i])),(642,some (.arr 20 (bWs bs) 0)),(1792,some (.box [zi,.c (.bool r),.c (.str nm),.c (.bool g),t0,t1,t2,t3,t4,zi,zi,zs,zi,.nil,.nil,zi,zs,zi,zi,.nil])),(2240,some (.box (wc x.row)))]⟩
def pS8 (L:List Int)(ds:List DataD)(bs:List BindD)(cv:V)(n i J:Nat)(r g:Bool)(nm:Str)(x:Ty)(t0 t1 t2 t3 t4:W)(e:Exp):St:=⟨[(4,.sc (.ptr 64 0)),(5,.sc (.ptr 256 0)),(6,.sc (.ptr 576 0)),(7,cv),(8,intV n),(9,intV i),(10,.sc (.ptr 1792 0)),(11,.sc (.ptr 2240 0))],[(64,some (.box [.nil,.nil])),(256,some (Am L J)),(576,some (.box [.c (.sl (AC ds)),.arr 642 i])),(642,some (.arr 20 (bWs bs) 0)),(1792,some (.box [zi,.c (.bool r),.c (.str nm),.c (.bool g),t0,t1,t2,t3,t4,.c (.int .i64 e.kind),.c (.int .i64 e.pos),.c (.str e.name),.c (.int .i64 e.num),.c (.sl (Exp.rows e.kids)),.c (.sl (Exp.armRows e.arms)),.c (.int .i64 e.ty.kind),.c (.str e.ty.name),.c (.int .i64 e.ty.id),.c (.int .i64 e.ty.home),.c (.sl (Ty.rows e.ty.args))])),(2240,some (.box (wc x.row)))]⟩
def pS9 (L:List Int)(ds:List DataD)(bs:List BindD)(cv:V)(n i J:Nat)(r g:Bool)(nm:Str)(x:Ty)(t0 t1 t2 t3 t4:W)(e:Exp)(u v:Ty)(c:Int):St:=⟨[(4,.sc (.ptr 64 0)),(5,.sc (.ptr 256 0)),(6,.sc (.ptr 576 0)),(7,cv),(8,intV n),(9,intV i),(10,.sc (.ptr 1792 0)),(14,.sc (.ptr 5248 0))],[(64,some (.box [.nil,.nil])),(256,some (Am L J)),(576,some (.box [.c (.sl (AC ds)),.arr 642 i])),(642,some (.arr 20 (bWs bs) 0)),(1792,some (.box [zi,.c (.bool r),.c (.str nm),.c (.bool g),t0,t1,t2,t3,t4,.c (.int .i64 e.kind),.c (.int .i64 e.pos),.c (.str e.name),.c (.int .i64 e.num),.c (.sl (Exp.rows e.kids)),.c (.sl (Exp.armRows e.arms)),.c (.int .i64 e.ty.kind),.c (.str e.ty.name),.c (.int .i64 e.ty.id),.c (.int .i64 e.ty.home),.c (.sl (Ty.rows e.ty.args))])),(2240,some (.box (wc x.row))),(5184,some (.box (wc u.row))),(5248,some (.box (wc (AU c v))))]⟩
def pSa (L:List Int)(ds:List DataD)(bs:List BindD)(cv:V)(n i J:Nat)(r g:Bool)(nm:Str)(t0 t1 t2 t3 t4:W)(e:Exp)(v:Ty)(c:Int):St:=⟨[(4,.sc (.ptr 64 0)),(5,.sc (.ptr 256 0)),(6,.sc (.ptr 576 0)),(7,cv),(8,intV n),(9,intV i),(10,.sc (.ptr 1792 0)),(14,.sc (.ptr 5248 0))],[(64,some (.box [.nil,.nil])),(256,some (Am L J)),(576,some (.box [.c (.sl (AC ds)),.arr 642 i])),(642,some (.arr 20 (bWs bs) 0)),(1792,some (.box [zi,.c (.bool r),.c (.str nm),.c (.bool g),t0,t1,t2,t3,t4,.c (.int .i64 e.kind),.c (.int .i64 e.pos),.c (.str e.name),.c (.int .i64 e.num),.c (.sl (Exp.rows e.kids)),.c (.sl (Exp.armRows e.arms)),.c (.int .i64 e.ty.kind),.c (.str e.ty.name),.c (.int .i64 e.ty.id),.c (.int .i64 e.ty.home),.c (.sl (Ty.rows e.ty.args))])),(5248,some (.box (wc (AU c v))))]⟩
def pSb (L:List Int)(ds:List DataD)(bs:List BindD)(cv:V)(n i J:Nat)(r g:Bool)(nm:Str)(t0 t1 t2 t3 t4:W)(e:Exp)(v:Ty)(c:Int):St:=⟨[(4,.sc (.ptr 64 0)),(5,.sc (.ptr 256 0)),(6,.sc (.ptr 576 0)),(7,cv),(8,intV n),(9,intV i),(10,.sc (.ptr 1792 0)),(14,.sc (.ptr 5248 0)),(92,Ac false)],[(64,some (.box [.nil,.nil])),(256,some (Am L J)),(576,some (.box [.c (.sl (AC ds)),.arr 642 i])),(642,some (.arr 20 (bWs bs) 0)),(1792,some (.box [zi,.c (.bool r),.c (.str nm),.c (.bool g),t0,t1,t2,t3,t4,.c (.int .i64 e.kind),.c (.int .i64 e.pos),.c (.str e.name),.c (.int .i64 e.num),.c (.sl (Exp.rows e.kids)),.c (.sl (Exp.armRows e.arms)),.c (.int .i64 e.ty.kind),.c (.str e.ty.name),.c (.int .i64 e.ty.id),.c (.int .i64 e.ty.home),.c (.sl (Ty.rows e.ty.args))])),(5248,some (.box (wc (AU c v))))]⟩
def pSc (L:List Int)(ds:List DataD)(bs:List BindD)(cv:V)(n i J:Nat)(r g:Bool)(nm:Str)(t0 t1 t2 t3 t4:W)(e:Exp)(v:Ty)(c:Int):St:=⟨[(4,.sc (.ptr 64 0)),(5,.sc (.ptr 256 0)),(6,.sc (.ptr 576 0)),(7,cv),(8,intV n),(9,intV i),(10,.sc (.ptr 1792 0))],[(64,some (.box [.nil,.nil])),(256,some (Am L J)),(576,some (.box [.c (.sl (AC ds)),.arr 642 i])),(642,some (.arr 20 (bWs bs) 0)),(1792,some (.box [zi,.c (.bool r),.c (.str nm),.c (.bool g),t0,t1,t2,t3,t4,.c (.int .i64 e.kind),.c (.int .i64 e.pos),.c (.str e.name),.c (.int .i64 e.num),.c (.sl (Exp.rows e.kids)),.c (.sl (Exp.armRows e.arms)),.c (.int .i64 e.ty.kind),.c (.str e.ty.name),.c (.int .i64 e.ty.id),.c (.int .i64 e.ty.home),.c (.sl (Ty.rows e.ty.args))])),(5248,some (.box (wc (AU c v))))]⟩
def pSd (L:List Int)(ds:List DataD)(bs:List BindD)(cv:V)(n i J:Nat)(o1 o2:Obj):St:=⟨[(4,.sc (.ptr 64 0)),(5,.sc (.ptr 256 0)),(6,.sc (.ptr 576 0)),(7,cv),(8,intV n),(9,intV i)],[(64,some (.box [.nil,.nil])),(256,some (Am L J)),(576,some (.box [.c (.sl (AC ds)),.arr 642 (i+1)])),(642,some (.arr 20 (bWs bs) 0)),(1792,some o1),(7040,some o2)]⟩
def HJ (L:List Int)(ds:List DataD)(n i:Nat)(s:St):Prop:=∃bs ctx J cv,bs.length=i/\(∀b∈bs,Im ds b)/\ctxOk i 50000 ctx/\J<=L.length/\(cv=Bc ctx\/(cv=.sc .nil/\ctx=[]))/\s=pS0 L ds bs cv n i J
def sigT (g:Bool)(x:Ty)(t0 t1 t2 t3 t4:W):Prop:=(g=true/\t0=.c (.int .i64 x.kind)/\t1=.c (.str x.name)/\t2=.c (.int .i64 x.id)/\t3=.c (.int .i64 x.home)/\t4=.c (.sl (Ty.rows x.args)))\/(g=false/\t0=zi/\t1=zs/\t2=zi/\t3=zi/\t4=.nil)
theorem Zeg (L:List Int)(ds:List DataD)(hL:L.length<=687194767360)(hds:fitDs ds)(n i:Nat)(hi:i<n)(hn:n<=4)(s:St)(hs:HJ L ds n i s):wp (K A) Kd (fun e s'=>e=.normal/\HJ L ds n (i+1) s') s:=by
 obtain⟨bs,ctx,J,cv,hb,hbs,hctx,hJ,hcv0,rfl⟩:=hs;have hint:=EM (A:=A);have hty:∀I,I<=L.length->∃r,EC L 25 r/\(K A).call 45 [.sc (.ptr 0 0),Ar ds,tysV nam3,intV 2] [Am L I]=some r:=fun I h=>PW (A:=A) L ds nam3 hL hds (by simp[nam3]) (by simp[nam3]) Zef 2 I (by omega) h
 have htyN:∀I,I<=L.length->∃r,EC L 25 r/\(K A).call 45 [.sc (.ptr 0 0),Ar ds,.sc (.c (.sl [])),intV 2] [Am L I]=some r:=fun I h=>Kw (A:=A) L ds hL hds 2 I (by omega) h;have hnam:=XW (A:=A);have hin:(i:Int)<n:=by omega
 have hds1:=hds.1;have hcv:=hcv0;obtain⟨P,hct,hcve⟩:∃P:Prop,P/\((P=((0:Nat)=0)/\cv=Bc ctx)\/(P=(ctx=[])/\cv=.sc .nil)):=by
  rcases hcv0 with h|⟨h1,h2⟩
  .exact⟨_,rfl,.inl ⟨rfl,h⟩⟩
  .exact⟨_,h2,.inr ⟨rfl,h1⟩⟩
 rcases hcve with ⟨rfl,hcve⟩|⟨rfl,hcve⟩
 all_goals
  skip
  unfold Kd;refine EG (pS0t L ds bs cv n i J) (by simp[hcve,hct,pS0,pS0t,hin]) ?_;refine Ea (fun s=>∃b ctx2 J2 ob1 ob2,Im ds b/\ctxOk (i+1) 50000 ctx2/\J2<=L.length/\s=pSd L ds (bs++[b]) (Bc ctx2) n i J2 ob1 ob2) ?_ ?_
  .rw [wp_block]
   refine Ea (fun s=>∃r nm J,nm∈BQ/\J<=L.length/\s=pS1 L ds bs cv n i J r nm) ?_ ?_
   .obtain ⟨k,J1,hk,hJ1,hc⟩:=Bv (A:=A) L J 4 hJ hL (by omega) (by omega)
    obtain⟨r,hr⟩:∃r,decide ((k:Int)=1)=r:=⟨_,rfl⟩;have l0:([[.c (.str [112])],[.c (.str [113])],[.c (.str [114])],[.c (.str [115])]]:List (List W))[0]?=some [.c (.str [112])]:=rfl;have l1:([[.c (.str [112])],[.c (.str [113])],[.c (.str [114])],[.c (.str [115])]]:List (List W))[1]?=some [.c (.str [113])]:=rfl
    have l2:([[.c (.str [112])],[.c (.str [113])],[.c (.str [114])],[.c (.str [115])]]:List (List W))[2]?=some [.c (.str [114])]:=rfl;have l3:([[.c (.str [112])],[.c (.str [113])],[.c (.str [114])],[.c (.str [115])]]:List (List W))[3]?=some [.c (.str [115])]:=rfl;have m2:Ax (intV 2) 4=some 2:=rfl;have m3:Ax (intV 3) 4=some 3:=rfl;have hi4:i=0\/i=1\/i=2\/i=3:=(by omega);rcases hi4 with rfl|rfl|rfl|rfl
    .refine wp_mono (Q:=fun e s=>e=.normal/\s=pS1 L ds bs cv n 0 J1 r [112]) (by simp (disch:=try exact zd) [hcve,hct,pS0t,pS1,hc,hr,hb,l0,l1,l2,l3,m2,m3,-getElem?_pos]) ?_
     rintro e s ⟨h1,h2⟩;exact⟨h1,r,_,J1,by decide,hJ1,h2⟩
    .refine wp_mono (Q:=fun e s=>e=.normal/\s=pS1 L ds bs cv n 1 J1 r [113]) (by simp (disch:=try exact zd) [hcve,hct,pS0t,pS1,hc,hr,hb,l0,l1,l2,l3,m2,m3,-getElem?_pos]) ?_
     rintro e s ⟨h1,h2⟩;exact⟨h1,r,_,J1,by decide,hJ1,h2⟩
    .refine wp_mono (Q:=fun e s=>e=.normal/\s=pS1 L ds bs cv n 2 J1 r [114]) (by simp (disch:=try exact zd) [hcve,hct,pS0t,pS1,hc,hr,hb,l0,l1,l2,l3,m2,m3,-getElem?_pos]) ?_
     rintro e s ⟨h1,h2⟩;exact⟨h1,r,_,J1,by decide,hJ1,h2⟩
    .refine wp_mono (Q:=fun e s=>e=.normal/\s=pS1 L ds bs cv n 3 J1 r [115]) (by simp (disch:=try exact zd) [hcve,hct,pS0t,pS1,hc,hr,hb,l0,l1,l2,l3,m2,m3,-getElem?_pos]) ?_
     rintro e s ⟨h1,h2⟩;exact⟨h1,r,_,J1,by decide,hJ1,h2⟩
   clear hJ J;rintro _ ⟨r,nm,J,hnm,hJ,rfl⟩;refine Ea (fun s=>∃x J,tyG x/\x.size<=25/\J<=L.length/\s=pS2 L ds bs cv n i J r nm x) ?_ ?_
   .obtain ⟨_,⟨x,J1,x1,x2,x3,rfl⟩,hx⟩:=hty J hJ
    refine wp_mono (Q:=fun e s=>e=.normal/\s=pS2 L ds bs cv n i J1 r nm x) (by simp(disch:=try exact zd) [hcve,hct,pS1,pS2,hnam,hx,hb,-getElem?_pos]) ?_;rintro e s ⟨h1,h2⟩;exact⟨h1,x,J1,x1,x2,x3,h2⟩
   clear hJ J;rintro _ ⟨x,J,hxG,hxz,hJ,rfl⟩;refine Ea (fun s=>∃x J,tyG x/\x.size<=25/\J<=L.length/\(s=pS2 L ds bs cv n i J r nm x\/s=pS3 L ds bs cv n i J r nm x)) ?_ ?_
   .obtain ⟨k,J1,hk,hJ1,hc⟩:=Bv (A:=A) L J 3 hJ hL (by omega) (by omega)
    by_cases hk0:k=0
    .obtain ⟨_,⟨y,J2,y1,y2,y3,rfl⟩,hy⟩:=htyN J1 hJ1
     subst hk0;refine wp_mono (Q:=fun e s=>e=.normal/\s=pS2 L ds bs cv n i J2 r nm y) (by simp(disch:=try exact zd) [hcve,hct,pS2,hc,hy,hb,-getElem?_pos]) ?_;rintro e s ⟨h1,h2⟩;exact⟨h1,y,J2,y1,y2,y3,.inl h2⟩
    .have hk0':¬(k:Int)=0:=by omega
     refine wp_mono (Q:=fun e s=>e=.normal/\s=pS3 L ds bs cv n i J1 r nm x) (by simp(disch:=try exact zd) [hcve,hct,pS2,pS3,hc,hk0,hk0',hb,-getElem?_pos]) ?_;rintro e s ⟨h1,h2⟩;exact⟨h1,x,J1,hxG,hxz,hJ1,.inr h2⟩
   clear hJ J hxG hxz x;rintro s ⟨x,J,hxG,hxz,hJ,hs⟩;refine Ea (fun s=>∃g J,J<=L.length/\s=pS4 L ds bs cv n i J r g nm x) ?_ ?_
   .obtain ⟨k,J1,hk,hJ1,hc⟩:=Bv (A:=A) L J 2 hJ hL (by omega) (by omega)
    obtain⟨g,hg⟩:∃g,decide ((k:Int)=0)=g:=⟨_,rfl⟩;have hg0:decide (k=0)=g:=(by rw[<-hg];simp);refine wp_mono (Q:=fun e s=>e=.normal/\s=pS4 L ds bs cv n i J1 r g nm x) (by rcases hs with rfl | rfl<;>simp(disch:=try exact zd) [hcve,hct,pS2,pS3,pS4,hc,hg,hg0,hb,-getElem?_pos]) ?_;rintro e s ⟨h1,h2⟩;exact⟨h1,g,J1,hJ1,h2⟩
   clear hJ J hs s;rintro _ ⟨g,J,hJ,rfl⟩;refine Ea (fun s=>∃t0 t1 t2 t3 t4,sigT g x t0 t1 t2 t3 t4/\(s=pS5 L ds bs cv n i J r g nm x t0 t1 t2 t3 t4\/s=pS5b L ds bs cv n i J r g nm x t0 t1 t2 t3 t4)) ?_ ?_
   .cases g with
    |true=>
     refine wp_mono (Q:=fun e s=>e=.normal/\s=pS5 L ds bs cv n i J r true nm x (.c (.int .i64 x.kind)) (.c (.str x.name)) (.c (.int .i64 x.id)) (.c (.int .i64 x.home)) (.c (.sl (Ty.rows x.args)))) (by simp(disch:=try exact zd) [hcve,hct,pS4,pS5,hb,Ty.row_eq,-getElem?_pos]) ?_;rintro e s ⟨h1,h2⟩;exact⟨h1,_,_,_,_,_,.inl ⟨rfl,rfl,rfl,rfl,rfl,rfl⟩,.inl h2⟩
    |false=>
     refine wp_mono (Q:=fun e s=>e=.normal/\s=pS5b L ds bs cv n i J r false nm x zi zs zi zi .nil) (by simp(disch:=try exact zd) [hcve,hct,pS4,pS5b,hb,-getElem?_pos]) ?_;rintro e s ⟨h1,h2⟩;exact⟨h1,_,_,_,_,_,.inr ⟨rfl,rfl,rfl,rfl,rfl,rfl⟩,.inr h2⟩
   rintro s ⟨t0,t1,t2,t3,t4,ht,hs⟩;have hrr:(∀ρ d,W.ren ρ d t0=t0)/\(∀ρ d,W.ren ρ d t1=t1)/\(∀ρ d,W.ren ρ d t2=t2)/\(∀ρ d,W.ren ρ d t3=t3)/\∀ρ d,W.ren ρ d t4=t4:=by
    rcases ht with ⟨_,rfl,rfl,rfl,rfl,rfl⟩|⟨_,rfl,rfl,rfl,rfl,rfl⟩<;>exact⟨fun ρ d=>by cases d<;>rfl,fun ρ d=>by cases d<;>rfl,fun ρ d=>by cases d<;>rfl,fun ρ d=>by cases d<;>rfl,fun ρ d=>by cases d<;>rfl⟩
   obtain⟨hr0,hr1,hr2,hr3,hr4⟩:=hrr;refine EG (pS6 L ds bs cv n i J r g nm x t0 t1 t2 t3 t4 cv) (by rcases hs with rfl | rfl<;>simp(disch:=try exact zd) [hcve,hct,pS5,pS5b,pS6,hb,-getElem?_pos]) ?_;clear hs s;obtain⟨_,⟨u,u1,u2,rfl⟩,hu⟩:=Zcg (A:=A) x hxG.1 (by omega);have hmu:=GQ (A:=A) u;have hpu:=FC (A:=A) ctx nm 0 u (by have:=hctx.1;omega);simp only[Bc,hct,entRows0,qah]at hpu
   refine Ea (fun s=>∃inn iv,ctxOk (i+1) 50000 inn/\(iv=Bc inn\/(iv=.sc .nil/\inn=[]))/\(s=pS6 L ds bs cv n i J r g nm x t0 t1 t2 t3 t4 iv\/s=pS7 L ds bs cv n i J r g nm x t0 t1 t2 t3 t4 iv)) ?_ ?_
   .cases r with
    |true=>
     refine wp_mono (Q:=fun e s=>e=.normal/\s=pS6 L ds bs cv n i J true g nm x t0 t1 t2 t3 t4 (Bc (ctx++[⟨nm,0,u⟩]))) (by simp(disch:=try exact zd) [hcve,hct,pS6,hu,hmu,hpu,hb,-getElem?_pos]) ?_;rintro e s ⟨h1,h2⟩;exact⟨h1,_,_,hctx.push (c:=0) (by omega) hnm (by omega) u1 (by omega),.inl rfl,.inl h2⟩
    |false=>
     refine wp_mono (Q:=fun e s=>e=.normal/\s=pS7 L ds bs cv n i J false g nm x t0 t1 t2 t3 t4 cv) (by simp(disch:=try exact zd) [hcve,hct,pS6,pS7,hb,-getElem?_pos]) ?_;rintro e s ⟨h1,h2⟩;exact⟨h1,ctx,cv,hctx.up (by omega),hcv,.inr h2⟩
   rintro s ⟨inn,iv,hinn,hiv,hs⟩;refine Ea (fun s=>∃e J,mkE ds e/\e.weight<=1768/\J<=L.length/\s=pS8 L ds bs cv n i J r g nm x t0 t1 t2 t3 t4 e) ?_ ?_
   .obtain ⟨_,⟨e,J1,e1,e2,e3,rfl⟩,he⟩:=ZcB (A:=A) L ds hL hds 3 (by omega) inn u J (hinn.up (by omega)) u1 (by omega) hJ
    have he:(K A).call 44 [.sc (.ptr 0 0),Ar ds,.sc (.c (.sl (BV inn))),tyV u,intV 3] [Am L J]=some (expV e,[Am L J1]):=he;have her:=Exp.row_eq e
    refine wp_mono (Q:=fun e' s=>e'=.normal/\s=pS8 L ds bs cv n i J1 r g nm x t0 t1 t2 t3 t4 e) (by rcases hiv with rfl | ⟨rfl,rfl⟩<;>(try simp only[entRows0]at he)<;>rcases hs with rfl | rfl<;>simp(disch:=try exact zd) [hcve,hct,pS6,pS7,pS8,hu,he,hb,her,hr0,hr1,hr2,hr3,hr4,-getElem?_pos]) ?_;rintro e' s ⟨h1,h2⟩;exact⟨h1,e,J1,e1,qt e2 (by decide),e3,h2⟩
   clear hJ J hs s hiv iv hinn inn;rintro _ ⟨e,J,e1,e2,hJ,rfl⟩;obtain⟨_,⟨a,v,c,a1,a2,c1,v1,v2,rfl⟩,hsg⟩:=Tb (A:=A) x hxG.1 (by omega) 98;refine EG (pS9 L ds bs cv n i J r g nm x t0 t1 t2 t3 t4 e a v c) (by simp(disch:=try exact zd) [hcve,hct,pS8,pS9,hsg,hb,AU,hr0,hr1,hr2,hr3,hr4,-getElem?_pos]) ?_
   refine Ea (fun s=>∃(v:Ty) (c:Nat),c<=900/\tyB 0 c v/\v.size<=50000/\(s=pSa L ds bs cv n i J r g nm t0 t1 t2 t3 t4 e v c\/s=pSb L ds bs cv n i J r g nm t0 t1 t2 t3 t4 e v c)) ?_ ?_
   .have hrow:(Exp.row e)=[.int .i64 e.kind,.int .i64 e.pos,.str e.name,.int .i64 e.num,.sl (Exp.rows e.kids),.sl (Exp.armRows e.arms),.int .i64 e.ty.kind,.str e.ty.name,.int .i64 e.ty.id,.int .i64 e.ty.home,.sl (Ty.rows e.ty.args)]:=by rw [Exp.row_eq]
    obtain⟨_,⟨p,rfl⟩,hh1⟩:=I5 (A:=A) 10 e (by omega);obtain⟨_,⟨q,rfl⟩,hh2⟩:=I5 (A:=A) 11 e (by omega);have hmi:=GQ (A:=A) (.mk 4 [73,110,116] 0 0 []);simp only[expV,hrow,wc,qu,qaj]at hh1 hh2
    have yes:∀s,s=pSa L ds bs cv n i J r g nm t0 t1 t2 t3 t4 e (.mk 4 [73,110,116] 0 0 []) 0->∃(v:Ty) (c:Nat),c<=900/\tyB 0 c v/\v.size<=50000/\(s=pSa L ds bs cv n i J r g nm t0 t1 t2 t3 t4 e v c\/s=pSb L ds bs cv n i J r g nm t0 t1 t2 t3 t4 e v c):=
     fun s h=>⟨_,0,by omega,Nu,by rw[Ty.size_leaf];omega,.inl h⟩
    have no:∀s,s=pSb L ds bs cv n i J r g nm t0 t1 t2 t3 t4 e v c->∃(v:Ty) (c:Nat),c<=900/\tyB 0 c v/\v.size<=50000/\(s=pSa L ds bs cv n i J r g nm t0 t1 t2 t3 t4 e v c\/s=pSb L ds bs cv n i J r g nm t0 t1 t2 t3 t4 e v c):=
     fun s h=>⟨v,c,by omega,v1,by omega,.inr h⟩
    cases g with
    |true=>
     refine wp_mono (Q:=fun e' s=>e'=.normal/\s=pSb L ds bs cv n i J r true nm t0 t1 t2 t3 t4 e v c) (by simp(disch:=try exact zd) [hcve,hct,pS9,pSb,hb,hr0,hr1,hr2,hr3,hr4,-getElem?_pos]) ?_;rintro e' s ⟨h1,h2⟩;exact⟨h1,no s h2⟩
    |false=>
     cases p with
     |true=>
      refine wp_mono (Q:=fun e' s=>e'=.normal/\s=pSa L ds bs cv n i J r false nm t0 t1 t2 t3 t4 e (.mk 4 [73,110,116] 0 0 []) 0) (by simp(disch:=try exact zd) [hcve,hct,pS9,pSa,hb,hr0,hr1,hr2,hr3,hr4,hh1,hh2,hint,hmi,-getElem?_pos]) ?_;rintro e' s ⟨h1,h2⟩;exact⟨h1,yes s h2⟩
     |false=>
      cases q with
      |true=>
       refine wp_mono (Q:=fun e' s=>e'=.normal/\s=pSa L ds bs cv n i J r false nm t0 t1 t2 t3 t4 e (.mk 4 [73,110,116] 0 0 []) 0) (by simp(disch:=try exact zd) [hcve,hct,pS9,pSa,hb,hr0,hr1,hr2,hr3,hr4,hh1,hh2,hint,hmi,-getElem?_pos]) ?_;rintro e' s ⟨h1,h2⟩;exact⟨h1,yes s h2⟩
      |false=>
       refine wp_mono (Q:=fun e' s=>e'=.normal/\s=pSb L ds bs cv n i J r false nm t0 t1 t2 t3 t4 e v c) (by simp(disch:=try exact zd) [hcve,hct,pS9,pSb,hb,hr0,hr1,hr2,hr3,hr4,hh1,hh2,-getElem?_pos]) ?_;rintro e' s ⟨h1,h2⟩;exact⟨h1,no s h2⟩
   clear v1 v2 c1 hsg a2 a1 a v c;rintro s ⟨v,c,hc,hvS,hvz,hs⟩;have hpu2:=FC (A:=A) ctx nm c v (by have:=hctx.1;omega);have hsr:wc (AU c v)=.c (.int .i64 c)::wc v.row:=rfl;simp only[Bc,schV,hsr,hct,entRows0,qah]at hpu2
   refine EG (pSc L ds bs (Bc (ctx++[⟨nm,c,v⟩])) n i J r g nm t0 t1 t2 t3 t4 e v c) (by rcases hs with rfl | rfl<;>simp(disch:=try exact zd) [hcve,hct,pSa,pSb,pSc,hpu2,hb,AU,hr0,hr1,hr2,hr3,hr4,-getElem?_pos]) ?_;have hbok:∀t:Ty,t.size<=1000->(g=false->t=tz)->Im ds ⟨r,nm,g,t,e⟩:=fun t ht htz=>⟨hnm,e1,e2,by simp only;omega,htz⟩;rcases ht with ⟨rfl,rfl,rfl,rfl,rfl,rfl⟩|⟨rfl,rfl,rfl,rfl,rfl,rfl⟩
   .simp (disch:=try exact zd) [hcve,hct,pSc,hb,-getElem?_pos]
    refine⟨⟨r,nm,true,x,e⟩,hbok x (by omega) (fun h=>by cases h),ctx++[⟨nm,c,v⟩],hctx.push (by omega) hnm hc hvS hvz,J,hJ,?_⟩;simp[hcve,hct,pSd];exact bWs_snoc bs ⟨r,nm,true,x,e⟩
   .simp (disch:=try exact zd) [hcve,hct,pSc,hb,-getElem?_pos]
    refine⟨⟨r,nm,false,tz,e⟩,hbok tz (by decide) (fun _=>rfl),ctx++[⟨nm,c,v⟩],hctx.push (by omega) hnm hc hvS hvz,J,hJ,?_⟩;simp[hcve,hct,pSd];exact bWs_snoc bs ⟨r,nm,false,tz,e⟩
  .rintro s ⟨b,ctx2,J2,ob1,ob2,b1,b2,b3,rfl⟩
   simp(disch:=try exact zd) [hcve,hct,pSd,HJ,exists_and_left,-getElem?_pos];refine⟨bs++[b],by simp[hb],?_,ctx2,b2,J2,b3,.inl (by simp[pS0])⟩;intro y hy;rcases qp.1 hy with hy|hy
   .exact hbs y hy
   .simp only [qk] at hy
    exact hy▸b1
def Zfd (ds7:List DataD)(r:V×List Obj):Prop:=∃ds bs,(∀d∈ds,d∈ds7)/\FX ds/\bs.length<=4/\(∀b∈bs,Im ds b)/\r=(TF ds bs,[])
theorem Zc2 (bits:Int)(codes:List Int)(hL:codes.length<=687194767360)(ds7:List DataD)(h7:ds7.length=7)(hg:∀d∈ds7,fitD d)(h55:(K A).call 81 [] []=some (Ar ds7,[])):
 ∃r,Zfd ds7 r/\(K A).call 29 [intV bits,Cl codes] []=some r:=by
 obtain⟨_,⟨ds,hd1,hd2,rfl⟩,hd⟩:=ZbU (A:=A) bits ds7 h7 (fun d h=>(hg d h).1) h55;have hds:fitDs ds:=⟨hd2.1,fun d h=>hg d (hd1 d h)⟩;obtain⟨k,J,hk,hJ,hc⟩:=Bv (A:=A) codes 0 4 (by omega) hL (by omega) (by omega);refine fnE v29 ?_;unfold v29;have hc0:(K A).call 62 [.sc (.ptr 0 0),intV 4] [.box [.c (.sl (Bn codes)),.c (.int .i64 0)]]=some (intV k,[Am codes J]):=hc
 simp(disch:=try exact zd) [hd,hc0,-getElem?_pos];have h0:HJ codes ds (k+1) 0 (pS0 codes ds [] (.sc .nil) (k+1) 0 J):=⟨[],[],J,.sc .nil,rfl,by simp,⟨by simp,by simp⟩,hJ,.inr ⟨rfl,rfl⟩,rfl⟩;have hk1:(1:Int)+k=((k+1:Nat):Int):=by omega
 refine Ak (fun i s=>HJ codes ds (k+1) i s) (k+1) (by simpa[pS0,hk1]using h0) ?_ ?_
 .intro i s hi hs
  exact wp_mono (Zeg codes ds hL hds (k+1) i hi (by omega) s hs) fun e s h=>.inl h
 .rintro s ⟨bs,ctx,J2,cv,hb,hbs,hctx,hJ2,_,rfl⟩
  have hbl:bs.length<=4:=by omega
  have htc:=fun L d=>ZaK L d bs fun b hm hs=>by rw[(hbs b hm).2.2.2.2 hs];rfl
  unfold Kd;simp(disch:=try exact zd) [pS0,hb,htc,-getElem?_pos];exact⟨ds,bs,hd1,hd2,hbl,hbs,rfl⟩
variable {A:Af}
@[simp] theorem fit_bind (l:List BindD):BI 20 (C1 l)=true:=Gw bindRow_len l
def CQ (g:Exp->Exp)(l:List BindD)(nm:Str):Exp:=l.foldr (fun b e=>.mk (if b.isRec then 7 else 6) 0 b.name 0 [g b.body,e] [] tz) (.mk 1 0 nm 0 [] [] tz)
theorem Ia (g:Exp->Exp)(b:BindD)(l:List BindD)(nm:Str):CQ g (b::l) nm=.mk (if b.isRec then 7 else 6) 0 b.name 0 [g b.body,CQ g l nm] [] tz:=rfl
theorem ZdM (l:List BindD)(nm:Str):Ai (CQ id l nm)=CQ Ai l nm:=by
 induction l with
 |nil=>
  rw[E8];simp[CQ,DC,Exp.children,Exp.kids,Exp.arms,Exp.kind,Exp.name,Exp.num,Exp.ty]
 |cons b l ih=>
  rw[Ia,Ia,E8,<-ih];simp[DC,Exp.children,Exp.kids,Exp.arms,Exp.kind,Exp.name,Exp.num,Exp.ty]
theorem ZaZ {g:Exp->Exp}{B:Nat}{l:List BindD}(h:∀b∈l,(g b.body).weight<=B)(nm:Str):(CQ g l nm).weight<=1+l.length*(B+1):=by
 induction l with
 |nil=>
  have:=FF 1 0 nm;show(Exp.mk 1 0 nm 0 [] [] tz).weight<=1+0*(B+1);omega
 |cons b l ih=>
  have h1:=h b (by simp);have h2:=ih fun b hb=>h b (by simp[hb]);rw[Ia,FK];simp only[qu,qaj,qaa,qbn,qG,Nat.succ_mul];omega
def NQ (bs:List BindD):Str:=(bs.getLast?.map (·.name)).getD []
theorem SY {bs:List BindD}{b:BindD}{i:Nat}(h:bs[i]?=some b)(hi:i+1=bs.length):NQ bs=b.name:=by
 unfold NQ;rw[List.getLast?_eq_getElem?,show bs.length-1=i by omega,h];rfl
def CI (g:Exp->Exp)(bs:List BindD):Exp:=if bs=[] then .mk 3 0 [] 0 [] [] tz else CQ g bs (NQ bs)
theorem Zc5 (bs:List BindD):Ai (CI id bs)=CI Ai bs:=by
 unfold CI;split
 .rw [E8]
  simp[DC,Exp.children,Exp.kids,Exp.arms,Exp.kind,Exp.name,Exp.num,Exp.ty]
 .exact ZdM _ _
theorem Zbj (ds:List DataD)(bs:List BindD)(hb:bs.length<=1000)(hw:∀b∈bs,b.body.weight<=1000000):(K A).call 28 [TF ds bs] []=some (expV (CI Ai bs),[]):=by
 refine fnO v28 ?_;unfold v28;by_cases hz:bs=[]
 .subst hz
  simp(disch:=try exact zd) [-getElem?_pos];simp[CI,expV,GS]
 .obtain ⟨n,hn⟩:∃ n,bs.length=n+1:=⟨bs.length-1,by have:=qZ.2 hz;omega⟩
  obtain⟨b0,hb0⟩:=Ae (l:=bs) (i:=n) (by omega);have hlast:=SY hb0 hn.symm;have hcl:CI Ai bs=CQ Ai bs b0.name:=by unfold CI;rw[if_neg hz,hlast]
  rw[hcl];have hn0:¬((n:Int)+1=0):=by omega
  simp(disch:=try exact zd) [hn,hn0,hb0,hz,-getElem?_pos];refine Ak (fun j s=>∃(i:Nat) (cs:List W),i+j=n+1/\(cs=wc (CQ Ai (bs.drop i) b0.name).row\/(cs=HB 1 b0.name/\CQ Ai (bs.drop i) b0.name=.mk 1 0 b0.name 0 [] [] tz))/\
   s=⟨[(1,.sc (.ptr 64 0)),(2,.sc (.ptr 128 0)),(3,.sc (.ptr 1216 0)),(4,intV ((i:Int)-1))],[(64,some (.box [.c (.sl (AC ds)),.c (.sl (C1 bs))])),(128,some (.box zE)),(1216,some (.box cs))]⟩) (n+1)
   ⟨n+1,HB 1 b0.name,by omega,.inr ⟨rfl,by rw[qak (by omega)];rfl⟩,by simp⟩ ?_ ?_
  .rintro j s hj ⟨i,cs,hij,hcs,rfl⟩
   obtain⟨i,rfl⟩:∃k,i=k+1:=⟨i-1,by omega⟩;obtain⟨b,hbi⟩:=Ae (l:=bs) (i:=i) (by omega);have hst:=Ze8 (A:=A) b.body (by have:=hw b (qc hbi);omega);have hd:bs.drop i=b::bs.drop (i+1):=by
    rw[qaY (by omega)];congr 1;have:=qi (l:=bs) (i:=i) (by omega);rw[hbi]at this;exact(qaN this).symm
   have hlt:i<bs.length:=(by omega);have hcl2:CQ Ai (bs.drop i) b0.name=.mk (if b.isRec then 7 else 6) 0 b.name 0 [Ai b.body,CQ Ai (bs.drop (i+1)) b0.name] [] tz:=(by rw[hd,Ia]);generalize hE:CQ Ai (bs.drop (i+1)) b0.name=E at *
   unfold Ng;cases hr:b.isRec with
   |true=>
    simp only[hr,if_true]at hcl2;rcases hcs with rfl|⟨rfl,rfl⟩
    .simp (disch:=try exact zd) [hbi,hst,hr,hlt,-getElem?_pos]
     exact⟨i,by omega,rfl,by rw[hcl2];simp[Cx,wc]⟩
    .simp (disch:=try exact zd) [hbi,hst,hr,hlt,-getElem?_pos]
     exact⟨i,by omega,rfl,by rw[hcl2];simp[Cx,GS,wc]⟩
   |false=>
    simp only[hr,qx,if_false]at hcl2;rcases hcs with rfl|⟨rfl,rfl⟩
    .simp (disch:=try exact zd) [hbi,hst,hr,hlt,-getElem?_pos]
     exact⟨i,by omega,rfl,by rw[hcl2];simp[Cx,wc]⟩
    .simp (disch:=try exact zd) [hbi,hst,hr,hlt,-getElem?_pos]
     exact⟨i,by omega,rfl,by rw[hcl2];simp[Cx,GS,wc]⟩
  .rintro s ⟨i,cs,hij,hcs,rfl⟩
   obtain rfl:i=0:=(by omega);rw[qbg]at hcs;unfold Ng;rcases hcs with rfl|⟨rfl,hE⟩
   .simp(disch:=try exact zd) [-getElem?_pos]
   .simp(disch:=try exact zd) [hE,expV,GS,-getElem?_pos]
variable {A:Af}
theorem R9 {ds:List DataD}{nm:Str}(hn:nm∈BQ):∀(l:List BindD),(∀b∈l,b.name∈BQ/\mkE ds b.body)->mkE ds (CQ id l nm)
 |[],_=>EK (by simp[mkE1,mkS,annT,numB,Exp.kind,Exp.pos,Exp.name,Exp.num,Exp.kids,Exp.arms,Exp.ty,tz,Ty.size_leaf,hn])
 |b::l,h=>by
  obtain⟨h1,h2⟩:=h b (by simp);rw[Ia,FO];refine⟨?_,?_,by simp⟩
  .cases b.isRec<;>simp[mkE1,mkS,annT,numB,Exp.kind,Exp.pos,Exp.name,Exp.num,Exp.kids,Exp.arms,Exp.ty,tz,Ty.size_leaf,h1]
  .intro x hx
   rcases qD.1 hx with rfl|hx
   .exact h2
   .rw [qk.1 hx]
    exact R9 hn l fun c hc=>h c (by simp[hc])
theorem U1 {ds:List DataD}{bs:List BindD}(h:∀b∈bs,b.name∈BQ/\mkE ds b.body):mkE ds (CI id bs):=by
 unfold CI;split
 .exact EK (by simp[mkE1,mkS,annT,numB,Exp.kind,Exp.pos,Exp.name,Exp.num,Exp.kids,Exp.arms,Exp.ty,tz,Ty.size_leaf])
 .rename_i hb
  refine R9 ?_ bs h;obtain⟨b,hb2⟩:∃b,bs[bs.length-1]?=some b:=Ae (by have:=qZ.2 hb;omega);rw[SY hb2 (by have:=qZ.2 hb;omega)];exact(h b (qc hb2)).1
theorem Zk {B:Nat}{bs:List BindD}(h:∀b∈bs,b.body.weight<=B):(CI id bs).weight<=1+bs.length*(B+1):=by
 unfold CI;split
 .have:=FF 3 0 []
  omega
 .exact ZaZ h _
theorem Xr {ds:List DataD}{bs:List BindD}(hc:Em ds)(hb:bs.length<=4)(h:∀b∈bs,Im ds b):OkR (CI Ai bs)/\tyBd (CI Ai bs):=by
 have hm:=U1 fun b hm=>⟨(h b hm).1,(h b hm).2.1⟩;have hw:=Zk (B:=1768) fun b hm=>(h b hm).2.2.1;have h4:bs.length*(1768+1)<=4*1769:=qE _ hb;rw[<-Zc5,IU _ hm.pos];have hst:=hm.stE hc;exact⟨⟨hst,7100,M7 _ (by have:=NZ (CI id bs);omega),by omega,by omega⟩,hm.tyBd⟩
theorem OkR.ty {e:Exp}(h:OkR e):tyBd e:=by
 have hl:=h.1.lf;clear h
 induction e using Exp.ind with
 |h e ih=>
  rw[Ed];exact⟨hl.2.one.2.2.2.1,fun x hx=>ih x hx (hl.child hx)⟩
theorem OkR.wt {e:Exp}(h:OkR e):e.weight<=100000000:=by
 obtain⟨_,B,hB⟩:=h;exact hB.sm
theorem XR (bits:Int)(codes:List Int)(a b:Int)(ds7:List DataD)(h7:ds7.length=7)(hg:∀d∈ds7,fitD d)(hcn:Em ds7)(h55:(K A).call 81 [] []=some (Ar ds7,[]))(h25:(K A).call 25 [] []=some (Ac true,[])):
 (K A).call 7 [intV bits,Cl codes,intV a,intV b] []=some (Ac true,[]):=by
 refine fnO v7 ?_;have hf:(K A).call 12 [Cl codes] []=some (Ac (decide (codes.length<=60)),[]):=few8 (A:=A) codes;unfold v7;by_cases hl:codes.length<=60
 .obtain ⟨_,⟨ds,bs,hd,hgd,hb,hbs,rfl⟩,hp⟩:=Zc2 (A:=A) bits codes (by omega) ds7 h7 hg h55
  have h28:=Zbj (A:=A) ds bs (by omega) fun b hm=>by have:=(hbs b hm).2.2.1;omega
  obtain⟨hok,hty⟩:=Xr (fun d h=>hcn d (hd d h)) hb hbs;generalize CI Ai bs=e at *
  obtain⟨i,hi,hmi⟩:=LI (A:=A) a 12 (by omega) (by omega);obtain⟨k,hk,hmk⟩:=LI (A:=A) b 12 (by omega) (by omega);have ki:kP ((i:Int)+k)=i+k/\kP i=i/\kP k=k:=by unfold kP;omega
  have h1:=Li (A:=A) (AC ds) e ((i:Int)+k) hok;have h2:=Li (A:=A) (AC ds) e i hok;have ho2:=hok.run i;have h3:=Li (A:=A) (AC ds) (runP i e).1 k ho2;have ho1:=hok.run (i+k);rw[ki.1,IU _ ho1.1.ps]at h1;rw[ki.2.1,IU _ ho2.1.ps]at h2;rw[ki.2.2,IU _ (ho2.run k).1.ps]at h3;rw[Ql]at h1 ho1;have hw:=(ho2.run k).wt
  obtain⟨_,⟨q,hq,rfl⟩,heq⟩:=Zfe (A:=A) (runP k (runP i e).1).1 (runP k (runP i e).1).1 (ho2.run k).ty (by omega) (by omega);have hqt:q=true:=hq.2 (HK _);subst hqt;have l1:=Jy i e;have l2:=Jy k (runP i e).1;have hwr:IntKind.i64.wrap (((runP i e).2:Int)+(runP k (runP i e).1).2)=((runP i e).2:Int)+(runP k (runP i e).1).2:=H1 _ (by omega);generalize runP k (runP i e).1=r at *
  generalize runP i e=s at *
  simp(maxSteps:=9^7) (disch:=try exact zd) [h25,hf,hl,hp,h28,hmi,hmk,h1,h2,h3,heq,hwr,-getElem?_pos]
 .simp(disch:=try exact zd) [h25,hf,hl,-getElem?_pos]
end Go.Vs.Tryz
