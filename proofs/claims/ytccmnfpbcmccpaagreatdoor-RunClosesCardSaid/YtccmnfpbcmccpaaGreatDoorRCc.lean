/- Made programs, walked. (Parts of one proof, put together.) -/
import Derived.Test.YtccmnfpbcmccpaaGreatDoorRBc
import Derived.Test.YtccmnfpbcmccpaaGreatDoorR5c
import Derived.Test.YtccmnfpbcmccpaaGreatDoorR3c
import Derived.Test.YtccmnfpbcmccpaaGreatDoorR4c
import Derived.Test.YtccmnfpbcmccpaaGreatDoorR6c
import Derived.Test.YtccmnfpbcmccpaaGreatDoorR7c
set_option linter.unusedSimpArgs false
set_option linter.unusedVariables false
set_option linter.deprecated false
set_option maxHeartbeats 32000000
namespace Go.Vs
open Go
structure BindD where
 isRec:Bool
 name:Str
 sig:Bool
 ty:Ty
 body:Exp
def ZaP (b:BindD):List Cell:=[.int .i64 0,.bool b.isRec,.str b.name,.bool b.sig,.int .i64 b.ty.kind,.str b.ty.name,.int .i64 b.ty.id,.int .i64 b.ty.home,.sl (Ty.rows b.ty.args),.int .i64 b.body.kind,.int .i64 b.body.pos,.str b.body.name,.int .i64 b.body.num,.sl (Exp.rows b.body.kids),.sl (Exp.armRows b.body.arms),.int .i64 b.body.ty.kind,.str b.body.ty.name,.int .i64 b.body.ty.id,.int .i64 b.body.ty.home,.sl (Ty.rows b.body.ty.args)]
def ZaE (l:List BindD):List (List Cell):=l.map ZaP
@[simp] theorem bindRow_len (b:BindD):(ZaP b).length=20:=rfl
@[simp] theorem bindRows_len (l:List BindD):(ZaE l).length=l.length:=by simp [ZaE]
@[simp] theorem bindRows_get (l:List BindD) (i:Nat):(ZaE l)[i]?=(l[i]?).map ZaP:=by simp [ZaE]
@[simp] theorem okRows_bind (l:List BindD):ZaM 20 (wr (ZaE l))=true:=Za2 l bindRow_len
@[simp] theorem bindRows_snoc (l:List BindD) (x:BindD):wr (ZaE l)++[wc (ZaP x)]=wr (ZaE (l++[x])):=by simp [ZaE,wr]
@[simp] theorem bindRows0:ZaE []=[]:=rfl
section
variable (b:BindD)
@[simp] theorem cut_bd1:cut (ZaP b) 1 1=some [.bool b.isRec]:=rfl
@[simp] theorem cut_bd2:cut (ZaP b) 2 1=some [.str b.name]:=rfl
@[simp] theorem cut_bd3:cut (ZaP b) 3 1=some [.bool b.sig]:=rfl
@[simp] theorem cut_bd4:cut (ZaP b) 4 5=some b.ty.row:=by rw [Ty.row_eq];rfl
@[simp] theorem cut_bd9:cut (ZaP b) 9 11=some b.body.row:=by rw [Exp.row_eq];rfl
@[simp] theorem cut_bd:cut (ZaP b) 0 20=some (ZaP b):=rfl
@[simp] theorem cutw_bd1:cut (wc (ZaP b)) 1 1=some [.c (.bool b.isRec)]:=rfl
@[simp] theorem cutw_bd2:cut (wc (ZaP b)) 2 1=some [.c (.str b.name)]:=rfl
@[simp] theorem cutw_bd3:cut (wc (ZaP b)) 3 1=some [.c (.bool b.sig)]:=rfl
@[simp] theorem cutw_bd4:cut (wc (ZaP b)) 4 5=some (wc b.ty.row):=by rw [Ty.row_eq];rfl
@[simp] theorem cutw_bd9:cut (wc (ZaP b)) 9 11=some (wc b.body.row):=by rw [Exp.row_eq];rfl
@[simp] theorem cutw_bd:cut (wc (ZaP b)) 0 20=some (wc (ZaP b)):=rfl
end
def bW (b:BindD):List W:=[.c (.int .i64 0),.c (.bool b.isRec),.c (.str b.name),.c (.bool b.sig),.c (.int .i64 b.ty.kind),.c (.str b.ty.name),.c (.int .i64 b.ty.id),.c (.int .i64 b.ty.home),if b.sig=true then .c (.sl (Ty.rows b.ty.args)) else .nil,
 .c (.int .i64 b.body.kind),.c (.int .i64 b.body.pos),.c (.str b.body.name),.c (.int .i64 b.body.num),.c (.sl (Exp.rows b.body.kids)),.c (.sl (Exp.armRows b.body.arms)),.c (.int .i64 b.body.ty.kind),.c (.str b.body.ty.name),.c (.int .i64 b.body.ty.id),.c (.int .i64 b.body.ty.home),.c (.sl (Ty.rows b.body.ty.args))]
def bWs (l:List BindD):List (List W):=l.map bW
@[simp] theorem bW_len (b:BindD):(bW b).length=20:=rfl
@[simp] theorem bWs_len (l:List BindD):(bWs l).length=l.length:=by simp [bWs]
@[simp] theorem bWs_snoc (l:List BindD) (b:BindD):bWs l++[bW b]=bWs (l++[b]):=by simp [bWs]
@[simp] theorem bWs0:bWs []=[]:=rfl
theorem ZjE (b:BindD){P:W→Prop}(hc:∀ c,P (.c c))(hn:P .nil):∀ w∈bW b,P w:=by
 intro w hw
 unfold bW at hw
 simp only [List.mem_cons,List.not_mem_nil,or_false] at hw
 rcases hw with rfl|rfl|rfl|rfl|rfl|rfl|rfl|rfl|rfl|rfl|rfl|rfl|rfl|rfl|rfl|rfl|rfl|rfl|rfl|rfl
 all_goals first | exact hc _ | (split<;>first | exact hc _ | exact hn)
@[simp] theorem okRows_bW (l:List BindD):ZaM 20 (bWs l)=true:=by
 unfold ZaM bWs
 simp
 exact fun b _ y hy=>ZjE b (P:=fun y=>Zas y=true) (fun _=>rfl) rfl y hy
theorem Zpk (L:Nat→Option Obj)(d:Nat)(b:BindD){y:W}(hy:y∈bW b):W.ids L d y=[] :=
 ZjE b (P:=fun y=>W.ids L d y=[]) (fun c=>by cases d<;>rfl) (by cases d<;>rfl) y hy
@[simp] theorem bWs_allIds (L:Nat→Option Obj) (d:Nat) (l:List BindD) (p:Nat→Bool):((bWs l).all fun a=>a.all fun b=>(W.ids L d b).all p)=true:=by
 simp only [List.all_eq_true,bWs,List.mem_map]
 rintro _ ⟨b,_,rfl⟩ y hy
 rw [Zpk L d b hy]
 simp
@[simp] theorem bWs_ids (L:Nat→Option Obj) (d:Nat) (l:List BindD):(bWs l).flatMap (fun x=>x.flatMap (W.ids L d))=[]:=by
 simp only [List.flatMap_eq_nil_iff,bWs,List.mem_map]
 rintro _ ⟨b,_,rfl⟩ y hy
 exact Zpk L d b hy
@[simp] theorem bWs_refs (d:Nat) (l:List BindD):(bWs l).flatMap (fun x=>x.flatMap (W.refs d))=[]:=by
 simp only [List.flatMap_eq_nil_iff,bWs,List.mem_map]
 rintro _ ⟨b,_,rfl⟩ y hy
 exact ZjE b (P:=fun y=>W.refs d y=[]) (fun c=>by cases d<;>rfl) (by cases d<;>rfl) y hy
@[simp] theorem bWs_ren (ρ:Nat→Option Nat) (d:Nat) (l:List BindD):(bWs l).map (fun x=>x.map (W.ren ρ d))=bWs l:=by
 unfold bWs
 rw [List.map_map]
 refine List.map_congr_left fun b _ => ?_
 show (bW b).map (W.ren ρ d)=bW b
 refine (List.map_congr_left (g:=id) fun y hy => ?_).trans (List.map_id _)
 exact ZjE b (P:=fun y=>W.ren ρ d y=id y) (fun c=>by cases d<;>rfl) (by cases d<;>rfl) y hy
theorem Zqz (L:Nat→Option Obj)(d:Nat)(l:List BindD)(h:∀ b∈l,b.sig=false→b.ty.args=[]):Zad (Zad (W.toC L d)) (bWs l)=some (ZaE l):=by
 unfold bWs ZaE
 induction l with
 | nil=>rfl
 | cons b r ih =>
  have h1:Zad (W.toC L d) (bW b)=some (ZaP b):=by
   have hb:=h b (by simp)
   unfold bW ZaP
   cases hs:b.sig with
   | true=>simp [Zad]
   | false=>simp [Zad,hb hs,Ty.rows]
  simp only [List.map_cons,Zad,h1,ih fun c hc=>h c (by simp [hc])]
end Go.Vs
namespace Go.Vs.Tryz
open Go Go.Vs
variable {A:Zac}
abbrev ZhJ (ds:List DataD)(bs:List BindD):V:=.ag [.c (.sl (Zah ds)),.c (.sl (ZaE bs))]
def ZjK (ds:List DataD)(b:BindD):Prop:=b.name∈Zbf∧mkE ds b.body∧b.body.weight≤1768∧b.ty.size≤1073741824∧(b.sig=false→b.ty=tz)
def pre4:List Str:=[[112],[113],[114],[115]]
def pS0 (L:List Int)(ds:List DataD)(bs:List BindD)(cv:V)(n i J:Nat):St:=⟨[(4,.sc (.ptr 64 0)),(5,.sc (.ptr 256 0)),(6,.sc (.ptr 576 0)),(7,cv),(8,intV n),(9,intV i)],[(64,some (.box [.nil,.nil])),(256,some (Zan L J)),(576,some (.box [.c (.sl (Zah ds)),.arr 642 i])),(642,some (.arr 20 (bWs bs) 0))]⟩
def pS0t (L:List Int)(ds:List DataD)(bs:List BindD)(cv:V)(n i J:Nat):St:=⟨[(4,.sc (.ptr 64 0)),(5,.sc (.ptr 256 0)),(6,.sc (.ptr 576 0)),(7,cv),(8,intV n),(9,intV i),(26,ZaG true)],[(64,some (.box [.nil,.nil])),(256,some (Zan L J)),(576,some (.box [.c (.sl (Zah ds)),.arr 642 i])),(642,some (.arr 20 (bWs bs) 0))]⟩
def pS1 (L:List Int)(ds:List DataD)(bs:List BindD)(cv:V)(n i J:Nat)(r:Bool)(nm:Str):St:=⟨[(4,.sc (.ptr 64 0)),(5,.sc (.ptr 256 0)),(6,.sc (.ptr 576 0)),(7,cv),(8,intV n),(9,intV i),(10,.sc (.ptr 1792 0))],[(64,some (.box [.nil,.nil])),(256,some (Zan L J)),(576,some (.box [.c (.sl (Zah ds)),.arr 642 i])),(642,some (.arr 20 (bWs bs) 0)),(1280,some (.arr 1 [[.c (.str [112])],[.c (.str [113])],[.c (.str [114])],[.c (.str [115])]] 0)),(1792,some (.box [zi,.c (.bool r),.c (.str nm),.c (.bool false),zi,zs,zi,zi,.nil,zi,zi,zs,zi,.nil,.nil,zi,zs,zi,zi,.nil]))]⟩
def pS2 (L:List Int)(ds:List DataD)(bs:List BindD)(cv:V)(n i J:Nat)(r:Bool)(nm:Str)(x:Ty):St:=⟨[(4,.sc (.ptr 64 0)),(5,.sc (.ptr 256 0)),(6,.sc (.ptr 576 0)),(7,cv),(8,intV n),(9,intV i),(10,.sc (.ptr 1792 0)),(11,.sc (.ptr 2240 0))],[(64,some (.box [.nil,.nil])),(256,some (Zan L J)),(576,some (.box [.c (.sl (Zah ds)),.arr 642 i])),(642,some (.arr 20 (bWs bs) 0)),(1792,some (.box [zi,.c (.bool r),.c (.str nm),.c (.bool false),zi,zs,zi,zi,.nil,zi,zi,zs,zi,.nil,.nil,zi,zs,zi,zi,.nil])),(2240,some (.box (wc x.row)))]⟩
def pS3 (L:List Int)(ds:List DataD)(bs:List BindD)(cv:V)(n i J:Nat)(r:Bool)(nm:Str)(x:Ty):St:=⟨[(4,.sc (.ptr 64 0)),(5,.sc (.ptr 256 0)),(6,.sc (.ptr 576 0)),(7,cv),(8,intV n),(9,intV i),(10,.sc (.ptr 1792 0)),(11,.sc (.ptr 2240 0)),(44,ZaG false)],[(64,some (.box [.nil,.nil])),(256,some (Zan L J)),(576,some (.box [.c (.sl (Zah ds)),.arr 642 i])),(642,some (.arr 20 (bWs bs) 0)),(1792,some (.box [zi,.c (.bool r),.c (.str nm),.c (.bool false),zi,zs,zi,zi,.nil,zi,zi,zs,zi,.nil,.nil,zi,zs,zi,zi,.nil])),(2240,some (.box (wc x.row)))]⟩
def pS4 (L:List Int)(ds:List DataD)(bs:List BindD)(cv:V)(n i J:Nat)(r g:Bool)(nm:Str)(x:Ty):St:=⟨[(4,.sc (.ptr 64 0)),(5,.sc (.ptr 256 0)),(6,.sc (.ptr 576 0)),(7,cv),(8,intV n),(9,intV i),(10,.sc (.ptr 1792 0)),(11,.sc (.ptr 2240 0))],[(64,some (.box [.nil,.nil])),(256,some (Zan L J)),(576,some (.box [.c (.sl (Zah ds)),.arr 642 i])),(642,some (.arr 20 (bWs bs) 0)),(1792,some (.box [zi,.c (.bool r),.c (.str nm),.c (.bool g),zi,zs,zi,zi,.nil,zi,zi,zs,zi,.nil,.nil,zi,zs,zi,zi,.nil])),(2240,some (.box (wc x.row)))]⟩
def pS5 (L:List Int)(ds:List DataD)(bs:List BindD)(cv:V)(n i J:Nat)(r g:Bool)(nm:Str)(x:Ty)(t0 t1 t2 t3 t4:W):St:=⟨[(4,.sc (.ptr 64 0)),(5,.sc (.ptr 256 0)),(6,.sc (.ptr 576 0)),(7,cv),(8,intV n),(9,intV i),(10,.sc (.ptr 1792 0)),(11,.sc (.ptr 2240 0))],[(64,some (.box [.nil,.nil])),(256,some (Zan L J)),(576,some (.box [.c (.sl (Zah ds)),.arr 642 i])),(642,some (.arr 20 (bWs bs) 0)),(1792,some (.box [zi,.c (.bool r),.c (.str nm),.c (.bool g),t0,t1,t2,t3,t4,zi,zi,zs,zi,.nil,.nil,zi,zs,zi,zi,.nil])),(2240,some (.box (wc x.row)))]⟩
def pS5b (L:List Int)(ds:List DataD)(bs:List BindD)(cv:V)(n i J:Nat)(r g:Bool)(nm:Str)(x:Ty)(t0 t1 t2 t3 t4:W):St:=⟨[(4,.sc (.ptr 64 0)),(5,.sc (.ptr 256 0)),(6,.sc (.ptr 576 0)),(7,cv),(8,intV n),(9,intV i),(10,.sc (.ptr 1792 0)),(11,.sc (.ptr 2240 0)),(54,ZaG false)],[(64,some (.box [.nil,.nil])),(256,some (Zan L J)),(576,some (.box [.c (.sl (Zah ds)),.arr 642 i])),(642,some (.arr 20 (bWs bs) 0)),(1792,some (.box [zi,.c (.bool r),.c (.str nm),.c (.bool g),t0,t1,t2,t3,t4,zi,zi,zs,zi,.nil,.nil,zi,zs,zi,zi,.nil])),(2240,some (.box (wc x.row)))]⟩
def pS6 (L:List Int)(ds:List DataD)(bs:List BindD)(cv:V)(n i J:Nat)(r g:Bool)(nm:Str)(x:Ty)(t0 t1 t2 t3 t4:W)(iv:V):St:=⟨[(4,.sc (.ptr 64 0)),(5,.sc (.ptr 256 0)),(6,.sc (.ptr 576 0)),(7,cv),(8,intV n),(9,intV i),(10,.sc (.ptr 1792 0)),(11,.sc (.ptr 2240 0)),(12,iv)],[(64,some (.box [.nil,.nil])),(256,some (Zan L J)),(576,some (.box [.c (.sl (Zah ds)),.arr 642 i])),(642,some (.arr 20 (bWs bs) 0)),(1792,some (.box [zi,.c (.bool r),.c (.str nm),.c (.bool g),t0,t1,t2,t3,t4,zi,zi,zs,zi,.nil,.nil,zi,zs,zi,zi,.nil])),(2240,some (.box (wc x.row)))]⟩
def pS7 (L:List Int)(ds:List DataD)(bs:List BindD)(cv:V)(n i J:Nat)(r g:Bool)(nm:Str)(x:Ty)(t0 t1 t2 t3 t4:W)(iv:V):St:=⟨[(4,.sc (.ptr 64 0)),(5,.sc (.ptr 256 0)),(6,.sc (.ptr 576 0)),(7,cv),(8,intV n),(9,intV i),(10,.sc (.ptr 1792 0)),(11,.sc (.ptr 2240 0)),(12,iv),(59,ZaG false)],[(64,some (.box [.nil,.nil])),(256,some (Zan L J)),(576,some (.box [.c (.sl (Zah ds)),.arr 642 i])),(642,some (.arr 20 (bWs bs) 0)),(1792,some (.box [zi,.c (.bool r),.c (.str nm),.c (.bool g),t0,t1,t2,t3,t4,zi,zi,zs,zi,.nil,.nil,zi,zs,zi,zi,.nil])),(2240,some (.box (wc x.row)))]⟩
def pS8 (L:List Int)(ds:List DataD)(bs:List BindD)(cv:V)(n i J:Nat)(r g:Bool)(nm:Str)(x:Ty)(t0 t1 t2 t3 t4:W)(e:Exp):St:=⟨[(4,.sc (.ptr 64 0)),(5,.sc (.ptr 256 0)),(6,.sc (.ptr 576 0)),(7,cv),(8,intV n),(9,intV i),(10,.sc (.ptr 1792 0)),(11,.sc (.ptr 2240 0))],[(64,some (.box [.nil,.nil])),(256,some (Zan L J)),(576,some (.box [.c (.sl (Zah ds)),.arr 642 i])),(642,some (.arr 20 (bWs bs) 0)),(1792,some (.box [zi,.c (.bool r),.c (.str nm),.c (.bool g),t0,t1,t2,t3,t4,.c (.int .i64 e.kind),.c (.int .i64 e.pos),.c (.str e.name),.c (.int .i64 e.num),.c (.sl (Exp.rows e.kids)),.c (.sl (Exp.armRows e.arms)),.c (.int .i64 e.ty.kind),.c (.str e.ty.name),.c (.int .i64 e.ty.id),.c (.int .i64 e.ty.home),.c (.sl (Ty.rows e.ty.args))])),(2240,some (.box (wc x.row)))]⟩
def pS9 (L:List Int)(ds:List DataD)(bs:List BindD)(cv:V)(n i J:Nat)(r g:Bool)(nm:Str)(x:Ty)(t0 t1 t2 t3 t4:W)(e:Exp)(u v:Ty)(c:Int):St:=⟨[(4,.sc (.ptr 64 0)),(5,.sc (.ptr 256 0)),(6,.sc (.ptr 576 0)),(7,cv),(8,intV n),(9,intV i),(10,.sc (.ptr 1792 0)),(14,.sc (.ptr 5248 0))],[(64,some (.box [.nil,.nil])),(256,some (Zan L J)),(576,some (.box [.c (.sl (Zah ds)),.arr 642 i])),(642,some (.arr 20 (bWs bs) 0)),(1792,some (.box [zi,.c (.bool r),.c (.str nm),.c (.bool g),t0,t1,t2,t3,t4,.c (.int .i64 e.kind),.c (.int .i64 e.pos),.c (.str e.name),.c (.int .i64 e.num),.c (.sl (Exp.rows e.kids)),.c (.sl (Exp.armRows e.arms)),.c (.int .i64 e.ty.kind),.c (.str e.ty.name),.c (.int .i64 e.ty.id),.c (.int .i64 e.ty.home),.c (.sl (Ty.rows e.ty.args))])),(2240,some (.box (wc x.row))),(5184,some (.box (wc u.row))),(5248,some (.box (wc (ZaI c v))))]⟩
def pSa (L:List Int)(ds:List DataD)(bs:List BindD)(cv:V)(n i J:Nat)(r g:Bool)(nm:Str)(t0 t1 t2 t3 t4:W)(e:Exp)(v:Ty)(c:Int):St:=⟨[(4,.sc (.ptr 64 0)),(5,.sc (.ptr 256 0)),(6,.sc (.ptr 576 0)),(7,cv),(8,intV n),(9,intV i),(10,.sc (.ptr 1792 0)),(14,.sc (.ptr 5248 0))],[(64,some (.box [.nil,.nil])),(256,some (Zan L J)),(576,some (.box [.c (.sl (Zah ds)),.arr 642 i])),(642,some (.arr 20 (bWs bs) 0)),(1792,some (.box [zi,.c (.bool r),.c (.str nm),.c (.bool g),t0,t1,t2,t3,t4,.c (.int .i64 e.kind),.c (.int .i64 e.pos),.c (.str e.name),.c (.int .i64 e.num),.c (.sl (Exp.rows e.kids)),.c (.sl (Exp.armRows e.arms)),.c (.int .i64 e.ty.kind),.c (.str e.ty.name),.c (.int .i64 e.ty.id),.c (.int .i64 e.ty.home),.c (.sl (Ty.rows e.ty.args))])),(5248,some (.box (wc (ZaI c v))))]⟩
def pSb (L:List Int)(ds:List DataD)(bs:List BindD)(cv:V)(n i J:Nat)(r g:Bool)(nm:Str)(t0 t1 t2 t3 t4:W)(e:Exp)(v:Ty)(c:Int):St:=⟨[(4,.sc (.ptr 64 0)),(5,.sc (.ptr 256 0)),(6,.sc (.ptr 576 0)),(7,cv),(8,intV n),(9,intV i),(10,.sc (.ptr 1792 0)),(14,.sc (.ptr 5248 0)),(92,ZaG false)],[(64,some (.box [.nil,.nil])),(256,some (Zan L J)),(576,some (.box [.c (.sl (Zah ds)),.arr 642 i])),(642,some (.arr 20 (bWs bs) 0)),(1792,some (.box [zi,.c (.bool r),.c (.str nm),.c (.bool g),t0,t1,t2,t3,t4,.c (.int .i64 e.kind),.c (.int .i64 e.pos),.c (.str e.name),.c (.int .i64 e.num),.c (.sl (Exp.rows e.kids)),.c (.sl (Exp.armRows e.arms)),.c (.int .i64 e.ty.kind),.c (.str e.ty.name),.c (.int .i64 e.ty.id),.c (.int .i64 e.ty.home),.c (.sl (Ty.rows e.ty.args))])),(5248,some (.box (wc (ZaI c v))))]⟩
def pSc (L:List Int)(ds:List DataD)(bs:List BindD)(cv:V)(n i J:Nat)(r g:Bool)(nm:Str)(t0 t1 t2 t3 t4:W)(e:Exp)(v:Ty)(c:Int):St:=⟨[(4,.sc (.ptr 64 0)),(5,.sc (.ptr 256 0)),(6,.sc (.ptr 576 0)),(7,cv),(8,intV n),(9,intV i),(10,.sc (.ptr 1792 0))],[(64,some (.box [.nil,.nil])),(256,some (Zan L J)),(576,some (.box [.c (.sl (Zah ds)),.arr 642 i])),(642,some (.arr 20 (bWs bs) 0)),(1792,some (.box [zi,.c (.bool r),.c (.str nm),.c (.bool g),t0,t1,t2,t3,t4,.c (.int .i64 e.kind),.c (.int .i64 e.pos),.c (.str e.name),.c (.int .i64 e.num),.c (.sl (Exp.rows e.kids)),.c (.sl (Exp.armRows e.arms)),.c (.int .i64 e.ty.kind),.c (.str e.ty.name),.c (.int .i64 e.ty.id),.c (.int .i64 e.ty.home),.c (.sl (Ty.rows e.ty.args))])),(5248,some (.box (wc (ZaI c v))))]⟩
def pSd (L:List Int)(ds:List DataD)(bs:List BindD)(cv:V)(n i J:Nat)(o1 o2:Obj):St:=⟨[(4,.sc (.ptr 64 0)),(5,.sc (.ptr 256 0)),(6,.sc (.ptr 576 0)),(7,cv),(8,intV n),(9,intV i)],[(64,some (.box [.nil,.nil])),(256,some (Zan L J)),(576,some (.box [.c (.sl (Zah ds)),.arr 642 (i+1)])),(642,some (.arr 20 (bWs bs) 0)),(1792,some o1),(7040,some o2)]⟩
def Zlz (L:List Int)(ds:List DataD)(n i:Nat)(s:St):Prop:=∃ bs ctx J cv,bs.length=i∧(∀ b∈bs,ZjK ds b)∧ctxOk i 50000 ctx∧J≤L.length∧(cv=Zbv ctx∨(cv=.sc .nil∧ctx=[]))∧s=pS0 L ds bs cv n i J
def sigT (g:Bool)(x:Ty)(t0 t1 t2 t3 t4:W):Prop:=(g=true∧t0=.c (.int .i64 x.kind)∧t1=.c (.str x.name)∧t2=.c (.int .i64 x.id)∧t3=.c (.int .i64 x.home)∧t4=.c (.sl (Ty.rows x.args)))∨(g=false∧t0=zi∧t1=zs∧t2=zi∧t3=zi∧t4=.nil)
theorem Zk5 (L:List Int)(ds:List DataD)(hL:L.length≤1073741824)(hds:fitDs ds)(n i:Nat)(hi:i<n)(hn:n≤4)(s:St)(hs:Zlz L ds n i s):wp (K A) Zpc (fun e s'=>e=.normal∧Zlz L ds n (i+1) s') s:=by
 obtain ⟨bs,ctx,J,cv,hb,hbs,hctx,hJ,hcv0,rfl⟩:=hs
 have hint:=Zf2 (A:=A)
 have hty:∀ I,I≤L.length→∃ r,Zg9 L 25 r∧(K A).call 45 [.sc (.ptr 0 0),Zal ds,tysV nam3,intV 2] [Zan L I]=some r:=fun I h=>Znc (A:=A) L ds nam3 hL hds (by simp [nam3]) (by simp [nam3]) Zqn 2 I (by omega) h
 have htyN:∀ I,I≤L.length→∃ r,Zg9 L 25 r∧(K A).call 45 [.sc (.ptr 0 0),Zal ds,.sc (.c (.sl [])),intV 2] [Zan L I]=some r:=fun I h=>Zg7 (A:=A) L ds hL hds 2 I (by omega) h
 have hnam:=ZqE (A:=A)
 have hin:(i:Int)<n:=by omega
 have hds1:=hds.1
 have hcv:=hcv0
 obtain ⟨P,hct,hcve⟩:∃ P:Prop,P∧((P=((0:Nat)=0)∧cv=Zbv ctx)∨(P=(ctx=[])∧cv=.sc .nil)):=by
  rcases hcv0 with h|⟨h1,h2⟩
  ·exact ⟨_,rfl,.inl ⟨rfl,h⟩⟩
  ·exact ⟨_,h2,.inr ⟨rfl,h1⟩⟩
 rcases hcve with ⟨rfl,hcve⟩|⟨rfl,hcve⟩
 all_goals
  skip
  unfold Zpc
  refine Zdh (pS0t L ds bs cv n i J) (by simp [hcve,hct,pS0,pS0t,hin]) ?_
  refine ZcB (fun s=>∃ b ctx2 J2 ob1 ob2,ZjK ds b∧ctxOk (i+1) 50000 ctx2∧J2≤L.length∧s=pSd L ds (bs++[b]) (Zbv ctx2) n i J2 ob1 ob2) ?_ ?_
  ·rw [wp_block]
   refine ZcB (fun s=>∃ r nm J,nm∈Zbf∧J≤L.length∧s=pS1 L ds bs cv n i J r nm) ?_ ?_
   ·obtain ⟨k,J1,hk,hJ1,hc⟩:=ZaL (A:=A) L J 4 hJ hL (by omega) (by omega)
    obtain ⟨r,hr⟩:∃ r,decide ((k:Int)=1)=r:=⟨_,rfl⟩
    have l0:([[.c (.str [112])],[.c (.str [113])],[.c (.str [114])],[.c (.str [115])]]:List (List W))[0]?=some [.c (.str [112])]:=rfl
    have l1:([[.c (.str [112])],[.c (.str [113])],[.c (.str [114])],[.c (.str [115])]]:List (List W))[1]?=some [.c (.str [113])]:=rfl
    have l2:([[.c (.str [112])],[.c (.str [113])],[.c (.str [114])],[.c (.str [115])]]:List (List W))[2]?=some [.c (.str [114])]:=rfl
    have l3:([[.c (.str [112])],[.c (.str [113])],[.c (.str [114])],[.c (.str [115])]]:List (List W))[3]?=some [.c (.str [115])]:=rfl
    have m2:Zaj (intV 2) 4=some 2:=rfl
    have m3:Zaj (intV 3) 4=some 3:=rfl
    have hi4:i=0∨i=1∨i=2∨i=3:=by omega
    rcases hi4 with rfl|rfl|rfl|rfl
    ·refine wp_mono (Q:=fun e s=>e=.normal∧s=pS1 L ds bs cv n 0 J1 r [112]) (by simp (disch:=first|omega|(simp;done)|(simp;omega)) [hcve,hct,pS0t,pS1,hc,hr,hb,l0,l1,l2,l3,m2,m3,-getElem?_pos]) ?_
     rintro e s ⟨h1,h2⟩
     exact ⟨h1,r,_,J1,by decide,hJ1,h2⟩
    ·refine wp_mono (Q:=fun e s=>e=.normal∧s=pS1 L ds bs cv n 1 J1 r [113]) (by simp (disch:=first|omega|(simp;done)|(simp;omega)) [hcve,hct,pS0t,pS1,hc,hr,hb,l0,l1,l2,l3,m2,m3,-getElem?_pos]) ?_
     rintro e s ⟨h1,h2⟩
     exact ⟨h1,r,_,J1,by decide,hJ1,h2⟩
    ·refine wp_mono (Q:=fun e s=>e=.normal∧s=pS1 L ds bs cv n 2 J1 r [114]) (by simp (disch:=first|omega|(simp;done)|(simp;omega)) [hcve,hct,pS0t,pS1,hc,hr,hb,l0,l1,l2,l3,m2,m3,-getElem?_pos]) ?_
     rintro e s ⟨h1,h2⟩
     exact ⟨h1,r,_,J1,by decide,hJ1,h2⟩
    ·refine wp_mono (Q:=fun e s=>e=.normal∧s=pS1 L ds bs cv n 3 J1 r [115]) (by simp (disch:=first|omega|(simp;done)|(simp;omega)) [hcve,hct,pS0t,pS1,hc,hr,hb,l0,l1,l2,l3,m2,m3,-getElem?_pos]) ?_
     rintro e s ⟨h1,h2⟩
     exact ⟨h1,r,_,J1,by decide,hJ1,h2⟩
   clear hJ J
   rintro _ ⟨r,nm,J,hnm,hJ,rfl⟩
   refine ZcB (fun s=>∃ x J,tyG x∧x.size≤25∧J≤L.length∧s=pS2 L ds bs cv n i J r nm x) ?_ ?_
   ·obtain ⟨_,⟨x,J1,x1,x2,x3,rfl⟩,hx⟩:=hty J hJ
    refine wp_mono (Q:=fun e s=>e=.normal∧s=pS2 L ds bs cv n i J1 r nm x) (by simp (disch:=first|omega|(simp;done)|(simp;omega)) [hcve,hct,pS1,pS2,hnam,hx,hb,-getElem?_pos]) ?_
    rintro e s ⟨h1,h2⟩
    exact ⟨h1,x,J1,x1,x2,x3,h2⟩
   clear hJ J
   rintro _ ⟨x,J,hxG,hxz,hJ,rfl⟩
   refine ZcB (fun s=>∃ x J,tyG x∧x.size≤25∧J≤L.length∧(s=pS2 L ds bs cv n i J r nm x∨s=pS3 L ds bs cv n i J r nm x)) ?_ ?_
   ·obtain ⟨k,J1,hk,hJ1,hc⟩:=ZaL (A:=A) L J 3 hJ hL (by omega) (by omega)
    by_cases hk0:k=0
    ·obtain ⟨_,⟨y,J2,y1,y2,y3,rfl⟩,hy⟩:=htyN J1 hJ1
     subst hk0
     refine wp_mono (Q:=fun e s=>e=.normal∧s=pS2 L ds bs cv n i J2 r nm y) (by simp (disch:=first|omega|(simp;done)|(simp;omega)) [hcve,hct,pS2,hc,hy,hb,-getElem?_pos]) ?_
     rintro e s ⟨h1,h2⟩
     exact ⟨h1,y,J2,y1,y2,y3,.inl h2⟩
    ·have hk0':¬(k:Int)=0:=by omega
     refine wp_mono (Q:=fun e s=>e=.normal∧s=pS3 L ds bs cv n i J1 r nm x) (by simp (disch:=first|omega|(simp;done)|(simp;omega)) [hcve,hct,pS2,pS3,hc,hk0,hk0',hb,-getElem?_pos]) ?_
     rintro e s ⟨h1,h2⟩
     exact ⟨h1,x,J1,hxG,hxz,hJ1,.inr h2⟩
   clear hJ J hxG hxz x
   rintro s ⟨x,J,hxG,hxz,hJ,hs⟩
   refine ZcB (fun s=>∃ g J,J≤L.length∧s=pS4 L ds bs cv n i J r g nm x) ?_ ?_
   ·obtain ⟨k,J1,hk,hJ1,hc⟩:=ZaL (A:=A) L J 2 hJ hL (by omega) (by omega)
    obtain ⟨g,hg⟩:∃ g,decide ((k:Int)=0)=g:=⟨_,rfl⟩
    have hg0:decide (k=0)=g:=by rw [←hg];simp
    refine wp_mono (Q:=fun e s=>e=.normal∧s=pS4 L ds bs cv n i J1 r g nm x) (by rcases hs with rfl | rfl<;>simp (disch:=first|omega|(simp;done)|(simp;omega)) [hcve,hct,pS2,pS3,pS4,hc,hg,hg0,hb,-getElem?_pos]) ?_
    rintro e s ⟨h1,h2⟩
    exact ⟨h1,g,J1,hJ1,h2⟩
   clear hJ J hs s
   rintro _ ⟨g,J,hJ,rfl⟩
   refine ZcB (fun s=>∃ t0 t1 t2 t3 t4,sigT g x t0 t1 t2 t3 t4∧(s=pS5 L ds bs cv n i J r g nm x t0 t1 t2 t3 t4∨s=pS5b L ds bs cv n i J r g nm x t0 t1 t2 t3 t4)) ?_ ?_
   ·cases g with
    | true =>
     refine wp_mono (Q:=fun e s=>e=.normal∧s=pS5 L ds bs cv n i J r true nm x (.c (.int .i64 x.kind)) (.c (.str x.name)) (.c (.int .i64 x.id)) (.c (.int .i64 x.home)) (.c (.sl (Ty.rows x.args)))) (by simp (disch:=first|omega|(simp;done)|(simp;omega)) [hcve,hct,pS4,pS5,hb,Ty.row_eq,-getElem?_pos]) ?_
     rintro e s ⟨h1,h2⟩
     exact ⟨h1,_,_,_,_,_,.inl ⟨rfl,rfl,rfl,rfl,rfl,rfl⟩,.inl h2⟩
    | false =>
     refine wp_mono (Q:=fun e s=>e=.normal∧s=pS5b L ds bs cv n i J r false nm x zi zs zi zi .nil) (by simp (disch:=first|omega|(simp;done)|(simp;omega)) [hcve,hct,pS4,pS5b,hb,-getElem?_pos]) ?_
     rintro e s ⟨h1,h2⟩
     exact ⟨h1,_,_,_,_,_,.inr ⟨rfl,rfl,rfl,rfl,rfl,rfl⟩,.inr h2⟩
   rintro s ⟨t0,t1,t2,t3,t4,ht,hs⟩
   have hrr:(∀ ρ d,W.ren ρ d t0=t0)∧(∀ ρ d,W.ren ρ d t1=t1)∧(∀ ρ d,W.ren ρ d t2=t2)∧(∀ ρ d,W.ren ρ d t3=t3)∧∀ ρ d,W.ren ρ d t4=t4:=by
    rcases ht with ⟨_,rfl,rfl,rfl,rfl,rfl⟩|⟨_,rfl,rfl,rfl,rfl,rfl⟩<;>exact ⟨fun ρ d=>by cases d<;>rfl,fun ρ d=>by cases d<;>rfl,fun ρ d=>by cases d<;>rfl,fun ρ d=>by cases d<;>rfl,fun ρ d=>by cases d<;>rfl⟩
   obtain ⟨hr0,hr1,hr2,hr3,hr4⟩:=hrr
   refine Zdh (pS6 L ds bs cv n i J r g nm x t0 t1 t2 t3 t4 cv) (by rcases hs with rfl | rfl<;>simp (disch:=first|omega|(simp;done)|(simp;omega)) [hcve,hct,pS5,pS5b,pS6,hb,-getElem?_pos]) ?_
   clear hs s
   obtain ⟨_,⟨u,u1,u2,rfl⟩,hu⟩:=Zrc (A:=A) x hxG.1 (by omega)
   have hmu:=ZgI (A:=A) u
   have hpu:=Zfo (A:=A) ctx nm 0 u (by have:=hctx.1;omega)
   simp only [Zbv,hct,entRows0,List.nil_append] at hpu
   refine ZcB (fun s=>∃ inn iv,ctxOk (i+1) 50000 inn∧(iv=Zbv inn∨(iv=.sc .nil∧inn=[]))∧(s=pS6 L ds bs cv n i J r g nm x t0 t1 t2 t3 t4 iv∨s=pS7 L ds bs cv n i J r g nm x t0 t1 t2 t3 t4 iv)) ?_ ?_
   ·cases r with
    | true =>
     refine wp_mono (Q:=fun e s=>e=.normal∧s=pS6 L ds bs cv n i J true g nm x t0 t1 t2 t3 t4 (Zbv (ctx++[⟨nm,0,u⟩]))) (by simp (disch:=first|omega|(simp;done)|(simp;omega)) [hcve,hct,pS6,hu,hmu,hpu,hb,-getElem?_pos]) ?_
     rintro e s ⟨h1,h2⟩
     exact ⟨h1,_,_,hctx.push (c:=0) (by omega) hnm (by omega) u1 (by omega),.inl rfl,.inl h2⟩
    | false =>
     refine wp_mono (Q:=fun e s=>e=.normal∧s=pS7 L ds bs cv n i J false g nm x t0 t1 t2 t3 t4 cv) (by simp (disch:=first|omega|(simp;done)|(simp;omega)) [hcve,hct,pS6,pS7,hb,-getElem?_pos]) ?_
     rintro e s ⟨h1,h2⟩
     exact ⟨h1,ctx,cv,hctx.up (by omega),hcv,.inr h2⟩
   rintro s ⟨inn,iv,hinn,hiv,hs⟩
   refine ZcB (fun s=>∃ e J,mkE ds e∧e.weight≤1768∧J≤L.length∧s=pS8 L ds bs cv n i J r g nm x t0 t1 t2 t3 t4 e) ?_ ?_
   ·obtain ⟨_,⟨e,J1,e1,e2,e3,rfl⟩,he⟩:=ZqY (A:=A) L ds hL hds 3 (by omega) inn u J (hinn.up (by omega)) u1 (by omega) hJ
    have he:(K A).call 44 [.sc (.ptr 0 0),Zal ds,.sc (.c (.sl (Za8 inn))),tyV u,intV 3] [Zan L J]=some (expV e,[Zan L J1]):=he
    have her:=Exp.row_eq e
    refine wp_mono (Q:=fun e' s=>e'=.normal∧s=pS8 L ds bs cv n i J1 r g nm x t0 t1 t2 t3 t4 e) (by rcases hiv with rfl | ⟨rfl,rfl⟩<;>(try simp only [entRows0] at he)<;>rcases hs with rfl | rfl<;>simp (disch:=first|omega|(simp;done)|(simp;omega)) [hcve,hct,pS6,pS7,pS8,hu,he,hb,her,hr0,hr1,hr2,hr3,hr4,-getElem?_pos]) ?_
    rintro e' s ⟨h1,h2⟩
    exact ⟨h1,e,J1,e1,Nat.le_trans e2 (by decide),e3,h2⟩
   clear hJ J hs s hiv iv hinn inn
   rintro _ ⟨e,J,e1,e2,hJ,rfl⟩
   obtain ⟨_,⟨a,v,c,a1,a2,c1,v1,v2,rfl⟩,hsg⟩:=ZfC (A:=A) x hxG.1 (by omega) 98
   refine Zdh (pS9 L ds bs cv n i J r g nm x t0 t1 t2 t3 t4 e a v c) (by simp (disch:=first|omega|(simp;done)|(simp;omega)) [hcve,hct,pS8,pS9,hsg,hb,ZaI,hr0,hr1,hr2,hr3,hr4,-getElem?_pos]) ?_
   refine ZcB (fun s=>∃ (v:Ty) (c:Nat),c≤900∧tyB 0 c v∧v.size≤50000∧(s=pSa L ds bs cv n i J r g nm t0 t1 t2 t3 t4 e v c∨s=pSb L ds bs cv n i J r g nm t0 t1 t2 t3 t4 e v c)) ?_ ?_
   ·have hrow:(Exp.row e)=[.int .i64 e.kind,.int .i64 e.pos,.str e.name,.int .i64 e.num,.sl (Exp.rows e.kids),.sl (Exp.armRows e.arms),.int .i64 e.ty.kind,.str e.ty.name,.int .i64 e.ty.id,.int .i64 e.ty.home,.sl (Ty.rows e.ty.args)]:=by rw [Exp.row_eq]
    obtain ⟨_,⟨p,rfl⟩,hh1⟩:=ZnX (A:=A) 10 e (by omega)
    obtain ⟨_,⟨q,rfl⟩,hh2⟩:=ZnX (A:=A) 11 e (by omega)
    have hmi:=ZgI (A:=A) (.mk 4 [73,110,116] 0 0 [])
    simp only [expV,hrow,wc,List.map_cons,List.map_nil] at hh1 hh2
    have yes:∀ s,s=pSa L ds bs cv n i J r g nm t0 t1 t2 t3 t4 e (.mk 4 [73,110,116] 0 0 []) 0→∃ (v:Ty) (c:Nat),c≤900∧tyB 0 c v∧v.size≤50000∧(s=pSa L ds bs cv n i J r g nm t0 t1 t2 t3 t4 e v c∨s=pSb L ds bs cv n i J r g nm t0 t1 t2 t3 t4 e v c) :=
     fun s h=>⟨_,0,by omega,Ziz,by rw [Ty.size_leaf];omega,.inl h⟩
    have no:∀ s,s=pSb L ds bs cv n i J r g nm t0 t1 t2 t3 t4 e v c→∃ (v:Ty) (c:Nat),c≤900∧tyB 0 c v∧v.size≤50000∧(s=pSa L ds bs cv n i J r g nm t0 t1 t2 t3 t4 e v c∨s=pSb L ds bs cv n i J r g nm t0 t1 t2 t3 t4 e v c) :=
     fun s h=>⟨v,c,by omega,v1,by omega,.inr h⟩
    cases g with
    | true =>
     refine wp_mono (Q:=fun e' s=>e'=.normal∧s=pSb L ds bs cv n i J r true nm t0 t1 t2 t3 t4 e v c) (by simp (disch:=first|omega|(simp;done)|(simp;omega)) [hcve,hct,pS9,pSb,hb,hr0,hr1,hr2,hr3,hr4,-getElem?_pos]) ?_
     rintro e' s ⟨h1,h2⟩
     exact ⟨h1,no s h2⟩
    | false =>
     cases p with
     | true =>
      refine wp_mono (Q:=fun e' s=>e'=.normal∧s=pSa L ds bs cv n i J r false nm t0 t1 t2 t3 t4 e (.mk 4 [73,110,116] 0 0 []) 0) (by simp (disch:=first|omega|(simp;done)|(simp;omega)) [hcve,hct,pS9,pSa,hb,hr0,hr1,hr2,hr3,hr4,hh1,hh2,hint,hmi,-getElem?_pos]) ?_
      rintro e' s ⟨h1,h2⟩
      exact ⟨h1,yes s h2⟩
     | false =>
      cases q with
      | true =>
       refine wp_mono (Q:=fun e' s=>e'=.normal∧s=pSa L ds bs cv n i J r false nm t0 t1 t2 t3 t4 e (.mk 4 [73,110,116] 0 0 []) 0) (by simp (disch:=first|omega|(simp;done)|(simp;omega)) [hcve,hct,pS9,pSa,hb,hr0,hr1,hr2,hr3,hr4,hh1,hh2,hint,hmi,-getElem?_pos]) ?_
       rintro e' s ⟨h1,h2⟩
       exact ⟨h1,yes s h2⟩
      | false =>
       refine wp_mono (Q:=fun e' s=>e'=.normal∧s=pSb L ds bs cv n i J r false nm t0 t1 t2 t3 t4 e v c) (by simp (disch:=first|omega|(simp;done)|(simp;omega)) [hcve,hct,pS9,pSb,hb,hr0,hr1,hr2,hr3,hr4,hh1,hh2,-getElem?_pos]) ?_
       rintro e' s ⟨h1,h2⟩
       exact ⟨h1,no s h2⟩
   clear v1 v2 c1 hsg a2 a1 a v c
   rintro s ⟨v,c,hc,hvS,hvz,hs⟩
   have hpu2:=Zfo (A:=A) ctx nm c v (by have:=hctx.1;omega)
   have hsr:wc (ZaI c v)=.c (.int .i64 c)::wc v.row:=rfl
   simp only [Zbv,schV,hsr,hct,entRows0,List.nil_append] at hpu2
   refine Zdh (pSc L ds bs (Zbv (ctx++[⟨nm,c,v⟩])) n i J r g nm t0 t1 t2 t3 t4 e v c) (by rcases hs with rfl | rfl<;>simp (disch:=first|omega|(simp;done)|(simp;omega)) [hcve,hct,pSa,pSb,pSc,hpu2,hb,ZaI,hr0,hr1,hr2,hr3,hr4,-getElem?_pos]) ?_
   have hbok:∀ t:Ty,t.size≤1000→(g=false→t=tz)→ZjK ds ⟨r,nm,g,t,e⟩:=fun t ht htz=>⟨hnm,e1,e2,by simp only;omega,htz⟩
   rcases ht with ⟨rfl,rfl,rfl,rfl,rfl,rfl⟩|⟨rfl,rfl,rfl,rfl,rfl,rfl⟩
   ·simp (disch:=first|omega|(simp;done)|(simp;omega)) [hcve,hct,pSc,hb,-getElem?_pos]
    refine ⟨⟨r,nm,true,x,e⟩,hbok x (by omega) (fun h=>by cases h),ctx++[⟨nm,c,v⟩],hctx.push (by omega) hnm hc hvS hvz,J,hJ,?_⟩
    simp [hcve,hct,pSd]
    exact bWs_snoc bs ⟨r,nm,true,x,e⟩
   ·simp (disch:=first|omega|(simp;done)|(simp;omega)) [hcve,hct,pSc,hb,-getElem?_pos]
    refine ⟨⟨r,nm,false,tz,e⟩,hbok tz (by decide) (fun _=>rfl),ctx++[⟨nm,c,v⟩],hctx.push (by omega) hnm hc hvS hvz,J,hJ,?_⟩
    simp [hcve,hct,pSd]
    exact bWs_snoc bs ⟨r,nm,false,tz,e⟩
  ·rintro s ⟨b,ctx2,J2,ob1,ob2,b1,b2,b3,rfl⟩
   simp (disch:=first|omega|(simp;done)|(simp;omega)) [hcve,hct,pSd,Zlz,exists_and_left,-getElem?_pos]
   refine ⟨bs++[b],by simp [hb],?_,ctx2,b2,J2,b3,.inl (by simp [pS0])⟩
   intro y hy
   rcases List.mem_append.1 hy with hy|hy
   ·exact hbs y hy
   ·simp only [List.mem_singleton] at hy
    exact hy▸b1
def ProgR (ds7:List DataD)(r:V × List Obj):Prop:=∃ ds bs,(∀ d∈ds,d∈ds7)∧Zdz ds∧bs.length≤4∧(∀ b∈bs,ZjK ds b)∧r=(ZhJ ds bs,[])
theorem Zlf (bits:Int)(codes:List Int)(hL:codes.length≤1073741824)(ds7:List DataD)(h7:ds7.length=7)(hg:∀ d∈ds7,fitD d)(h55:(K A).call 81 [] []=some (Zal ds7,[])) :
 ∃ r,ProgR ds7 r∧(K A).call 29 [intV bits,Zci codes] []=some r:=by
 obtain ⟨_,⟨ds,hd1,hd2,rfl⟩,hd⟩:=Zrf (A:=A) bits ds7 h7 (fun d h=>(hg d h).1) h55
 have hds:fitDs ds:=⟨hd2.1,fun d h=>hg d (hd1 d h)⟩
 obtain ⟨k,J,hk,hJ,hc⟩:=ZaL (A:=A) codes 0 4 (by omega) hL (by omega) (by omega)
 refine Zap _ (vf:=v29) (by kernel_rfl) rfl (by simp) ?_
 unfold v29
 have hc0:(K A).call 62 [.sc (.ptr 0 0),intV 4] [.box [.c (.sl (Zao codes)),.c (.int .i64 0)]]=some (intV k,[Zan codes J]):=hc
 simp (disch:=first|omega|(simp;done)|(simp;omega)) [hd,hc0,-getElem?_pos]
 have h0:Zlz codes ds (k+1) 0 (pS0 codes ds [] (.sc .nil) (k+1) 0 J):=⟨[],[],J,.sc .nil,rfl,by simp,⟨by simp,by simp⟩,hJ,.inr ⟨rfl,rfl⟩,rfl⟩
 have hk1:(1:Int)+k=((k+1:Nat):Int):=by omega
 refine Zaf (fun i s=>Zlz codes ds (k+1) i s) (k+1) (by simpa [pS0,hk1] using h0) ?_ ?_
 ·intro i s hi hs
  exact wp_mono (Zk5 codes ds hL hds (k+1) i hi (by omega) s hs) fun e s h=>.inl h
 ·rintro s ⟨bs,ctx,J2,cv,hb,hbs,hctx,hJ2,_,rfl⟩
  have hbl:bs.length≤4:=by omega
  have htc:=fun L d=>Zqz L d bs fun b hm hs=>by rw [(hbs b hm).2.2.2.2 hs];rfl
  unfold Zpc
  simp (disch:=first|omega|(simp;done)|(simp;omega)) [pS0,hb,htc,-getElem?_pos]
  exact ⟨ds,bs,hd1,hd2,hbl,hbs,rfl⟩
def one3 (x:Int):Prop:=-1≤x∧x≤1
variable {A:Zac}
def ZeroB (P:Prop)(r:V × List Obj):Prop:=∃ n:Int,(n=0↔P)∧one3 n∧r=(intV n,[])
@[simp] theorem b_slss {a b:Str}:binV .lss 0 (.sc (.c (.str a))) (.sc (.c (.str b)))=some (.sc (.c (.bool (Op.bytesLess a b))),[]):=by simp [binV,binW,ZaY,ZeJ]
@[simp] theorem b_sgtr {a b:Str}:binV .gtr 0 (.sc (.c (.str a))) (.sc (.c (.str b)))=some (.sc (.c (.bool !(Op.bytesLess a b || a == b))),[]):=by simp [binV,binW,ZaY,ZeJ]
theorem good.wf {e:Exp}:good e→e.wf:=by
 induction e using Exp.ind with
 | h e ih =>
  intro g
  rw [Exp.wf_eq]
  refine ⟨?_,fun x hx=>ih x hx (g.child hx)⟩
  rcases g.cases with ⟨k,_,h,h2⟩|⟨k,_,h,h2⟩|⟨k,_,⟨x,h,_⟩,h2⟩|⟨k,_,⟨f,x,h,_⟩,h2⟩|⟨k,_,⟨x,h,_⟩,_⟩
  all_goals refine ⟨fun h8 => ?_,fun h8 => ?_,fun h1 => ?_⟩<;>first | omega | assumption | (rw [h];rfl)
end Go.Vs.Tryz
namespace Go.Vs
open Go
section
variable {C:Ctx}
theorem wp_seqN {a b:VCode}{Q:Ex→St→Prop}{s:St}(R:St→Prop)(h1:wp C a (fun e s'=>(e=.normal∧R s')∨(e≠.normal∧Q e s')) s)(h2:∀ s',R s'→wp C b Q s'):wp C (.seq a b) Q s:=by
 rw [wp_seq]
 refine wp_mono h1 ?_
 rintro e s' (⟨rfl,h⟩|⟨h,h3⟩)
 ·exact h2 s' h
 ·cases e with
  | normal=>exact absurd rfl h
  | exit i=>exact h3
  | ret=>exact h3
end
end Go.Vs
namespace Go.Vs.Tryz
open Go Go.Vs
variable {A:Zac}
def vnames:List Str:=[[120],[116],[102],[118]]
abbrev zbox:Obj:=.box [zi,zi,zs,zi,.nil,.nil,zi,zs,zi,zi,.nil]
def ArmT (L:List Int)(ds:List DataD)(N:List Str)(dd:DataD)(x:Exp)(B d i:Nat)(s:St):Prop:=∃ arms J,arms.length=i∧J≤L.length ∧
 (arms.map fun a=>a.1.con)=(Zbq dd).take i∧(arms.map fun a=>a.1.vars.length)=(dd.cons.map fun c=>c.fields.length).take i ∧
 (∀ a∈arms,a.1.pos=0∧a.1.vars.length≤4∧(∀ v∈a.1.vars,nameOk 97 122 v)∧good a.2∧ZdL ds a.2 (N++a.1.vars)∧a.2.weight≤B) ∧
 s=⟨[(0,.sc (.ptr 0 0)),(1,Zal ds),(2,Zdo N),(3,intV (d+1)),(8,.sc (.ptr 64 0)),(11,.sc (.ptr 3008 0)),(12,.sc (.ptr 3776 0)),(13,intV i)],
  [(0,some (Zan L J)),(64,some zbox),(3008,some (.box (wc (Zau dd)))),(3648,some (.arr 11 [wc x.row] 0)),
    (3776,some (.box [.c (.int .i64 8),zi,zs,zi,.arr 3648 1,.arr 3846 i,zi,zs,zi,zi,.nil])),(3846,some (.arr 14 (wr (Exp.armRows arms)) 0))]⟩
def VarT (L:List Int)(ds:List DataD)(N:List Str)(dd:DataD)(x:Exp)(arms:List (ArmH × Exp))(con:Str)(J d i j:Nat)(s:St):Prop:=∃ vars:List Str,vars.length=j∧(∀ v∈vars,v∈vnames) ∧
 s=⟨[(0,.sc (.ptr 0 0)),(1,Zal ds),(2,Zdo N),(3,intV (d+1)),(8,.sc (.ptr 64 0)),(11,.sc (.ptr 3008 0)),(12,.sc (.ptr 3776 0)),(13,intV i),(14,.sc (.ptr 4736 0)),(15,intV j)],
  [(0,some (Zan L J)),(64,some zbox),(3008,some (.box (wc (Zau dd)))),(3648,some (.arr 11 [wc x.row] 0)),
    (3776,some (.box [.c (.int .i64 8),zi,zs,zi,.arr 3648 1,.arr 3846 i,zi,zs,zi,zi,.nil])),(3846,some (.arr 14 (wr (Exp.armRows arms)) 0)),
    (4736,some (.box [zi,.c (.str con),.arr 4803 j,zi,zi,zs,zi,.nil,.nil,zi,zs,zi,zi,.nil])),(4803,some (.arr 1 (wr (Zaz vars)) 0))]⟩
def conC (s:Str):List W:=[.c (.int .i64 2),zi,.c (.str s),zi,.nil,.nil,zi,zs,zi,zi,.nil]
def HeadT (L:List Int)(ds:List DataD)(N:List Str)(d:Nat)(st:St):Prop:=∃ e cells J,good e∧Zqr e∧ZdL ds e N∧e.weight=1∧J≤L.length∧(cells=wc e.row∨∃ c,e=ZgH c∧cells=conC c) ∧
 (st=⟨[(0,.sc (.ptr 0 0)),(1,Zal ds),(2,Zdo N),(3,intV d),(8,.sc (.ptr 64 0)),(16,.sc (.ptr 8448 0)),(138,ZaG false)],[(0,some (Zan L J)),(64,some zbox),(8448,some (.box cells))]⟩ ∨
   ∃ dd:DataD,st=⟨[(0,.sc (.ptr 0 0)),(1,Zal ds),(2,Zdo N),(3,intV d),(8,.sc (.ptr 64 0)),(16,.sc (.ptr 8448 0))],[(0,some (Zan L J)),(64,some zbox),(8448,some (.box cells)),(9536,some (.box (wc (Zau dd))))]⟩)
def AppT (L:List Int)(ds:List DataD)(N:List Str)(B d n i:Nat)(s:St):Prop:=∃ e cells J,good e∧Zqr e∧ZdL ds e N∧e.weight≤1+i*(1+B)∧J≤L.length∧(cells=wc e.row∨∃ c,e=ZgH c∧cells=conC c) ∧
 s=⟨[(0,.sc (.ptr 0 0)),(1,Zal ds),(2,Zdo N),(3,intV d),(8,.sc (.ptr 64 0)),(16,.sc (.ptr 8448 0)),(18,intV (n-i:Nat))],
  [(0,some (Zan L J)),(64,some zbox),(8448,some (.box cells))]⟩
variable {A:Zac}
def MadeT (ds7:List DataD)(n:Nat)(r:V × List Obj):Prop:=∃ (ds:List DataD) (ctx:List EntD) (l:List Exp) (p:Nat),(∀ d∈ds,d∈ds7)∧Zdz ds∧ctx.length≤4∧(∀ s∈ZbM ctx,nameOk 97 122 s)∧l.length=n ∧
 (∀ e∈l,good e∧ZdL ds e (ZbM ctx)∧e.weight≤32768)∧(p=0∨p=ctx.length)∧r=(.tu [Zal ds,.sc (.arr 0 ctx.length),.sc (.arr 1 n)],[.arr 7 (wr (Za8 ctx)) p,.arr 11 (wr (Exp.rows l)) 0])
theorem uniq.sub {ds ds7:List DataD}(h:uniq ds7)(hs:∀ d∈ds,d∈ds7):uniq ds:=fun d hd d' hd' c hc hc'=>h d (hs d hd) d' (hs d' hd') c hc hc'
theorem good.tyBd {e:Exp}:good e→tyBd e:=by
 induction e using Exp.ind with
 | h e ih =>
  intro g
  rw [ZcA]
  refine ⟨?_,fun x hx=>ih x hx (g.child hx)⟩
  rw [g.one.2.2.1]
  decide
end Go.Vs.Tryz
