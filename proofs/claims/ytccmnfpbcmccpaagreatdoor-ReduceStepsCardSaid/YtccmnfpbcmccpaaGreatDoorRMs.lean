/- Stores of type variables, walked: Fresh, Set, bound, Walk. -/
import Derived.Test.YtccmnfpbcmccpaaGreatDoorRIs
set_option linter.unusedSimpArgs false
set_option linter.unusedVariables false
set_option linter.deprecated false
set_option maxRecDepth 9999
set_option maxHeartbeats 16000000
namespace Go.Vs
open Go
structure SlotD where
 bound:Bool
 ty:Ty
 home:Int
 base:Bool
structure ChgD where
 id:Int
 old:SlotD
 isNew:Bool
def ZcD (s:SlotD):List Cell:=[.bool s.bound,.int .i64 s.ty.kind,.str s.ty.name,.int .i64 s.ty.id,.int .i64 s.ty.home,.sl (Ty.rows s.ty.args),.int .i64 s.home,.bool s.base]
def Zwl (c:ChgD):List Cell:=[.int .i64 c.id,.bool c.old.bound,.int .i64 c.old.ty.kind,.str c.old.ty.name,.int .i64 c.old.ty.id,.int .i64 c.old.ty.home,.sl (Ty.rows c.old.ty.args),.int .i64 c.old.home,.bool c.old.base,.bool c.isNew]
def Zbe (l:List SlotD):List (List Cell):=l.map ZcD
def Zbp (l:List ChgD):List (List Cell):=l.map Zwl
@[simp] theorem slRow_len (s:SlotD):(ZcD s).length=8:=rfl
@[simp] theorem chRow_len (s:ChgD):(Zwl s).length=10:=rfl
@[simp] theorem slRows_len (l:List SlotD):(Zbe l).length=l.length:=by simp[Zbe]
@[simp] theorem chRows_len (l:List ChgD):(Zbp l).length=l.length:=by simp[Zbp]
@[simp] theorem slRows_get (l:List SlotD) (i:Nat):(Zbe l)[i]?=(l[i]?).map ZcD:=by simp[Zbe]
@[simp] theorem okRows_sl (l:List SlotD):Zbb 8 (wr (Zbe l))=true:=ZbE l slRow_len
@[simp] theorem okRows_ch (l:List ChgD):Zbb 10 (wr (Zbp l))=true:=ZbE l chRow_len
@[simp] theorem slRows0:Zbe []=[]:=rfl
@[simp] theorem chRows0:Zbp []=[]:=rfl
section
variable (s:SlotD)
@[simp] theorem cut_sl0:cut (ZcD s) 0 1=some [.bool s.bound]:=rfl
@[simp] theorem cut_sl1:cut (ZcD s) 1 5=some s.ty.row:=by rw[Ty.row_eq];rfl
@[simp] theorem cut_sl6:cut (ZcD s) 6 1=some [.int .i64 s.home]:=rfl
@[simp] theorem cut_sl7:cut (ZcD s) 7 1=some [.bool s.base]:=rfl
@[simp] theorem cut_sl:cut (ZcD s) 0 8=some (ZcD s):=rfl
@[simp] theorem cutw_sl0:cut (wc (ZcD s)) 0 1=some [.c (.bool s.bound)]:=rfl
@[simp] theorem cutw_sl1:cut (wc (ZcD s)) 1 5=some (wc s.ty.row):=by rw[Ty.row_eq];rfl
@[simp] theorem cutw_sl6:cut (wc (ZcD s)) 6 1=some [.c (.int .i64 s.home)]:=rfl
@[simp] theorem cutw_sl7:cut (wc (ZcD s)) 7 1=some [.c (.bool s.base)]:=rfl
@[simp] theorem cutw_sl:cut (wc (ZcD s)) 0 8=some (wc (ZcD s)):=rfl
end
structure StoD where
 slots:List SlotD
 trail:List ChgD
end Go.Vs
namespace Go.Vs.Tryz
open Go Go.Vs
variable {A:Zab}
abbrev stoV (s:StoD):V:=.ag [.c (.sl (Zbe s.slots)),.c (.sl (Zbp s.trail))]
def stoOk (n:Nat)(s:StoD):Prop:=s.slots.length=n/\n<=1000/\s.trail.length<=1000000/\∀x∈s.slots,x.bound=true->tyS n x.ty/\x.ty.size<=1073741824/\x.ty.kind≠1
def ZbU (s:StoD)(t:Ty):Ty:=if t.kind=1 then (match s.slots[t.id.toNat]? with
 |some x=>if x.bound then x.ty else t
 |none=>t) else t
def ext (s s':StoD):Prop:=∀(i:Nat) x,s.slots[i]?=some x->x.bound=true->∃y,s'.slots[i]?=some y/\y.bound=true/\y.ty=x.ty
theorem ext.refl (s:StoD):ext s s:=fun _ x h hb=>⟨x,h,hb,rfl⟩
theorem ext.trans {a b c:StoD}(h1:ext a b)(h2:ext b c):ext a c:=fun i x hx hb=>by
 obtain⟨y,hy,hyb,hyt⟩:=h1 i x hx hb;obtain⟨z,hz,hzb,hzt⟩:=h2 i y hy hyb;exact⟨z,hz,hzb,hzt.trans hyt⟩
theorem ext.set {s:StoD}{i:Nat}{x:SlotD}{T:List ChgD}(h:∀y,s.slots[i]?=some y->y.bound=true->x.bound=true/\x.ty=y.ty):ext s ⟨s.slots.set i x,T⟩:=fun j y hy hb=>by
 have hj:=(qd.1 hy).1;by_cases hji:i=j
 .subst hji
  obtain⟨h1,h2⟩:=h y hy hb;exact⟨x,by rw[qa9 hj],h1,h2⟩
 .exact⟨y,by rw[qaC hji];exact hy,hb,rfl⟩
theorem ext.app {s:StoD}{l:List SlotD}{T:List ChgD}:ext s ⟨s.slots++l,T⟩:=fun j y hy hb=>
 ⟨y,by rw[qx (qd.1 hy).1];exact hy,hb,rfl⟩
theorem Zh5 {s:StoD}{t:Ty}(h:t.kind≠1):ZbU s t=t:=by unfold ZbU;rw[if_neg h]
theorem Zea {s:StoD}{t:Ty}{i:Nat}{x:SlotD}(hk:t.kind=1)(hi:t.id=i)(hx:s.slots[i]?=some x)(hb:x.bound=true):ZbU s t=x.ty:=by
 unfold ZbU;rw[if_pos hk,hi,qag,hx];simp only[hb,if_true]
theorem ZhY {s:StoD}{t:Ty}{i:Nat}{x:SlotD}(hi:t.id=i)(hx:s.slots[i]?=some x)(hb:x.bound=false):ZbU s t=t:=by
 unfold ZbU;split
 .rw [hi,qag,hx]
  simp[hb]
 .rfl
theorem ZhN {n:Nat}{s:StoD}(hs:stoOk n s){t:Ty}(ht:tyS n t)(hk:(ZbU s t).kind=1):ZbU s t=t/\t.kind=1/\∃(i:Nat) (x:SlotD),t.id=i/\i<n/\s.slots[i]?=some x/\x.bound=false:=by
 obtain⟨h1,h2,h3,h4⟩:=hs;by_cases ht1:t.kind=1
 .obtain ⟨g1,g2,_⟩:=ht.one.1 ht1
  obtain⟨i,hi⟩:∃i:Nat,t.id=i:=⟨t.id.toNat,by omega⟩;obtain⟨x,hx⟩:=Zaa (l:=s.slots) (i:=i) (by omega);cases hb:x.bound with
  |true=>
   rw[Zea ht1 hi hx hb]at hk;exact absurd hk (h4 x (qa hx) hb).2.2
  |false=>exact⟨ZhY hi hx hb,ht1,i,x,hi,by omega,hx,hb⟩
 .rw [Zh5 ht1] at hk
  exact absurd hk ht1
theorem ZxN {n:Nat}{s s':StoD}(hs:stoOk n s)(he:ext s s'){t:Ty}(ht:tyS n t)(hk:(ZbU s t).kind≠1):ZbU s' t=ZbU s t:=by
 by_cases ht1:t.kind=1
 .obtain ⟨g1,g2,_⟩:=ht.one.1 ht1
  have h1:=hs.1;obtain⟨i,hi⟩:∃i:Nat,t.id=i:=⟨t.id.toNat,by omega⟩;obtain⟨x,hx⟩:=Zaa (l:=s.slots) (i:=i) (by omega);cases hb:x.bound with
  |true=>
   obtain⟨y,hy,hyb,hyt⟩:=he i x hx hb;rw[Zea ht1 hi hx hb,Zea ht1 hi hy hyb,hyt]
  |false=>
   rw[ZhY hi hx hb]at hk;exact absurd ht1 hk
 .rw[Zh5 ht1,Zh5 ht1]
theorem ZpV {n:Nat}{s:StoD}(hs:stoOk n s){t:Ty}(ht:tyS n t)(hl:t.size<=1073741824):tyS n (ZbU s t)/\(ZbU s t).size<=1073741824:=by
 unfold ZbU;split
 .split
  .rename_i x hx
   split
   .rename_i hb
    obtain⟨g1,g2,_⟩:=hs.2.2.2 x (qa hx) hb;exact⟨g1,g2⟩
   .exact⟨ht,hl⟩
  .exact⟨ht,hl⟩
 .exact⟨ht,hl⟩
inductive Res (s:StoD):Ty->Ty->Prop
 |mk (t:Ty) (us:List Ty) (hl:us.length=(ZbU s t).args.length) (h:∀(j:Nat) x y,(ZbU s t).args[j]?=some x->us[j]?=some y->Res s x y):Res s t (.mk (ZbU s t).kind (ZbU s t).name (ZbU s t).id (ZbU s t).home us)
theorem Res.two {s:StoD}{t v a b:Ty}(h:Res s t v)(hab:(ZbU s t).args=[a,b]):∃v1 v2,Res s a v1/\Res s b v2/\v1.size<=v.size/\v2.size<=v.size:=by
 cases h with
 |mk _ us hl h=>
  rw[hab]at hl h;obtain⟨v1,v2,rfl⟩:∃v1 v2,us=[v1,v2]:=by
   match us,hl with
   |[v1,v2],_=>exact⟨v1,v2,rfl⟩
  have hz:(Ty.mk (ZbU s t).kind (ZbU s t).name (ZbU s t).id (ZbU s t).home [v1,v2]).size=1+(v1.size+(v2.size+0)):=by rw[Ty.size_eq];simp[Ty.args]
  exact⟨v1,v2,h 0 a v1 rfl rfl,h 1 b v2 rfl rfl,by omega,by omega⟩
theorem new213:(K A).call 213 [] []=some (stoV ⟨[],[]⟩,[]):=by
 refine fnO v213 ?_;unfold v213;simp(disch:=first|exact zd|fail)
def bndB (s:StoD)(t:Ty):Prop:=t.kind=1/\∃(i:Nat) (x:SlotD),t.id=i/\s.slots[i]?=some x/\x.bound=true
theorem Zwj (s:StoD)(hs:s.slots.length<=1000)(t:Ty):∃r,IffB (bndB s t) r/\(K A).call 251 [stoV s,tyV t] []=some r:=by
 refine fnE v251 ?_;unfold v251;by_cases h1:t.kind=1
 .by_cases h2:0<=t.id
  .obtain ⟨i,hi⟩:∃ i:Nat,t.id=i:=⟨t.id.toNat,by omega⟩
   by_cases h3:i<s.slots.length
   .obtain ⟨x,hx⟩:=Zaa h3
    cases hb:x.bound with
    |true=>
     simp(disch:=first|exact zd|fail) [h1,hi,h3,hx,hb,-getElem?_pos];exact IffB.yes ⟨h1,i,x,hi,hx,hb⟩
    |false=>
     simp(disch:=first|exact zd|fail) [h1,hi,h3,hx,hb,-getElem?_pos];refine IffB.no ?_;rintro⟨_,j,y,hj,hy,hb2⟩;obtain rfl:j=i:=(by omega);rw[hx]at hy;cases hy;rw[hb]at hb2;cases hb2
   .simp (disch:=first|exact zd|fail) [h1,hi,h3,-getElem?_pos]
    refine IffB.no ?_;rintro⟨_,j,y,hj,hy,hb2⟩;have:=(qd.1 hy).1;omega
  .simp (disch:=first|exact zd|fail) [h1,h2,-getElem?_pos]
   refine IffB.no ?_;rintro⟨_,j,y,hj,hy,hb2⟩;omega
 .simp (disch:=first|exact zd|fail) [h1,-getElem?_pos]
  exact IffB.no fun h=>h1 h.1
end Go.Vs.Tryz
namespace Go.Vs
open Go
theorem ZlP {α β:Type}{f:α->Option β}:∀{a b:List α}{x:List β},Zag f a=some x->Zag f (a++b)=(Zag f b).map (x++·)
 |[],b,x,h=>by
  cases h;cases hb:Zag f b<;>simp[hb]
 |y::a,b,x,h=>by
  simp only[Zag]at h;cases hy:f y with
  |none=>rw[hy]at h;cases h
  |some z=>
   rw[hy]at h;cases ha:Zag f a with
   |none=>rw[ha]at h;cases h
   |some w=>
    rw[ha]at h;cases h;have ih:=ZlP (b:=b) ha;simp only[qa3,Zag,hy,ih];cases Zag f b<;>rfl
@[simp] theorem listM_wr_app (L:Nat->Option Obj) (d:Nat) (r:List (List Cell)) (m:List (List W)):Zag (Zag (W.toC L d)) (wr r++m)=(Zag (Zag (W.toC L d)) m).map (r++·):=ZlP (wr_toC L d r)
end Go.Vs
namespace Go.Vs.Tryz
open Go Go.Vs
variable {A:Zab}
def Zby (h:Int)(b:Bool):SlotD:=⟨false,.mk 0 [] 0 0 [],h,b⟩
theorem Zk2 (s:StoD)(hs:s.slots.length<=1000)(ht:s.trail.length<=1000000)(h:Int)(b:Bool):(K A).call 214 [stoV s,intV h,Zae b] []=some (.tu [stoV ⟨s.slots++[Zby h b],s.trail++[⟨s.slots.length,Zby 0 false,true⟩]⟩,tyV (.mk 1 [] s.slots.length 0 [])],[]):=by
 have hv:=ZtW (A:=A) s.slots.length;refine fnO v214 ?_;unfold v214;obtain⟨sl,tr⟩:=s;have close1:Zbe (sl++[Zby h b])=Zbe sl++[[.bool false,.int .i64 0,.str [],.int .i64 0,.int .i64 0,.sl [],.int .i64 h,.bool b]]:=by
  simp[Zbe,ZcD,Zby,Ty.kind,Ty.name,Ty.id,Ty.home,Ty.args]
 have close2:Zbp (tr++[⟨sl.length,Zby 0 false,true⟩])=Zbp tr++[[.int .i64 sl.length,.bool false,.int .i64 0,.str [],.int .i64 0,.int .i64 0,.sl [],.int .i64 0,.bool false,.bool true]]:=by
  simp[Zbp,Zwl,Zby,Ty.kind,Ty.name,Ty.id,Ty.home,Ty.args]
 have okA:=okRows_sl sl;have okB:=okRows_ch tr;have lenA:=slRows_len sl;have lenB:=chRows_len tr;simp only[stoV]at hs ht hv |-;rw[close1,close2];generalize Zbe sl=sr at *
 generalize Zbp tr=cr at *
 cases sr with
 |nil=>
  simp only[qT]at lenA;rw[<-lenA]at hv |-;replace hv:(K A).call 212 [intV 0] []=some (tyV (Ty.mk 1 [] 0 0 []),[]):=hv;cases cr with
  |nil=>simp(disch:=first|exact zd|fail) [hv,-getElem?_pos]
  |cons c r=>
   rw[wr_cons]at okB;simp only[qG]at lenB;simp(disch:=first|exact zd|fail) [hv,okB,-getElem?_pos]
 |cons x l=>
  rw[wr_cons]at okA;simp only[qG]at lenA;rw[<-lenA]at hv |-;replace hv:(K A).call 212 [intV ((l.length:Int)+1)] []=some (tyV (Ty.mk 1 [] ((l.length:Int)+1) 0 []),[]):=hv;cases cr with
  |nil=>simp(disch:=first|exact zd|fail) [hv,okA,-getElem?_pos]
  |cons c r=>
   rw[wr_cons]at okB;simp only[qG]at lenB;simp(disch:=first|exact zd|fail) [hv,okA,okB,-getElem?_pos]
theorem ZuT (rows:List (List Cell))(i:Nat)(c:List Cell):setRow (wr rows) i (wc c)=wr (rows.set i c):=by
 rw[Zf2];simp[wr,qa0]
theorem Zlr (c d:List Cell)(hc:c.length=8)(hd:d.length=8):splice (wc c) 0 (wc d)=some (wc d):=by
 unfold splice;simp[hc,hd]
theorem ZvD (a b c d e f g h k:W)(s:SlotD):splice [a,b,c,d,e,f,g,h,k] 0 (wc (ZcD s))=some (wc (ZcD s++[])++[k]):=by
 unfold splice;simp
theorem ZkT (s:SlotD):wc (ZcD s)=[.c (.bool s.bound),.c (.int .i64 s.ty.kind),.c (.str s.ty.name),.c (.int .i64 s.ty.id),.c (.int .i64 s.ty.home),.c (.sl (Ty.rows s.ty.args)),.c (.int .i64 s.home),.c (.bool s.base)]:=rfl
theorem Ztg (s:StoD)(hs:s.slots.length<=1000)(ht:s.trail.length<=1000000)(i:Nat)(y:SlotD)(hy:s.slots[i]?=some y)(x:SlotD):(K A).call 231 [stoV s,intV i,.ag (wc (ZcD x))] []=some (.tu [stoV ⟨s.slots.set i x,s.trail++[⟨i,y,false⟩]⟩,Zae true],[]):=by
 refine fnO v231 ?_;unfold v231;obtain⟨sl,tr⟩:=s;have close1:Zbe (sl.set i x)=(Zbe sl).set i (ZcD x):=by simp[Zbe,qa0]
 have close2:Zbp (tr++[⟨i,y,false⟩])=Zbp tr++[[.int .i64 i,.bool y.bound,.int .i64 y.ty.kind,.str y.ty.name,.int .i64 y.ty.id,.int .i64 y.ty.home,.sl (Ty.rows y.ty.args),.int .i64 y.home,.bool y.base,.bool false]]:=by
  simp[Zbp,Zwl]
 have hin:=(qd.1 hy).1;simp only at hin hs ht hy;have hrow:(Zbe sl)[i]?=some (ZcD y):=by rw[slRows_get,hy];rfl
 have okA:=okRows_sl sl;have okB:=okRows_ch tr;have lenA:=slRows_len sl;have lenB:=chRows_len tr;simp only[stoV];rw[close1,close2];generalize Zbe sl=sr at *
 generalize Zbp tr=cr at *
 cases sr with
 |nil=>simp at hrow
 |cons a l=>
  rw[wr_cons]at okA;simp only[qG]at lenA;have hi0:¬(i:Int)<0:=by omega
  have hi2:¬(l.length:Int)+1<=(i:Int):=by omega
  have hi1:i<l.length+1:=by omega
  have hrw:(wc a::wr l)[i]?=some (wc (ZcD y)):=by rw[<-wr_cons,wr_get,hrow];rfl
  have hsr:∀c,setRow (wc a::wr l) i (wc c)=wr ((a::l).set i c):=fun c=>by rw[<-wr_cons];exact ZuT _ _ _
  cases cr with
  |nil=>
   simp(disch:=first|exact zd|fail) [okA,hi0,hi2,hi1,hrow,hrw,hsr,elOk,Zlr,ZvD,ZkT y,-getElem?_pos,-List.set_cons_zero,-List.set_cons_succ]
  |cons c r=>
   rw[wr_cons]at okB;simp only[qG]at lenB;simp(disch:=first|exact zd|fail) [okA,okB,hi0,hi2,hi1,hrow,hrw,hsr,elOk,Zlr,ZvD,ZkT y,-getElem?_pos]
variable {A:Zab}
theorem ZhP {n:Nat}(s:StoD)(hs:stoOk n s)(t:Ty)(ht:tyS n t):(K A).call 230 [stoV s,tyV t] []=some (tyV (ZbU s t),[]):=by
 have hs0:=hs;obtain⟨h1,h2,h3,h4⟩:=hs0;refine fnO v230 ?_;unfold v230;simp(disch:=first|exact zd|fail);refine Zad (fun i st=>∃u:Ty,((i=0/\u=t)\/u=ZbU s t)/\st=⟨[(2,.sc (.ptr 64 0)),(3,.sc (.ptr 128 0)),(4,.sc (.ptr 192 0)),(5,intV i)],
  [(64,some (.box [.c (.sl (Zbe s.slots)),.c (.sl (Zbp s.trail))])),(128,some (.box (wc u.row))),(192,some (.box [zi,zs,zi,zi,.nil]))]⟩) (n+1) ⟨t,.inl ⟨rfl,rfl⟩,by simp⟩ ?_ ?_
 .rintro i st hi ⟨u,hu,rfl⟩
  obtain⟨_,⟨b,hb,rfl⟩,hc⟩:=Zwj (A:=A) s (by omega) u;have hi2:(i:Int)<=s.slots.length:=by omega
  unfold Ztx;cases b with
  |true=>
   obtain⟨hk,j,x,hj,hx,hxb⟩:=hb.1 rfl;have hjl:=(qd.1 hx).1;have hut:u=t:=by
    rcases hu with ⟨_,h⟩|h
    .exact h
    .obtain ⟨e1,e2,i',x',e3,e4,e5,e6⟩:=ZhN hs ht (by rw [<-h];exact hk)
     rw[h,e1]at hj;have:i'=j:=(by omega);subst this;rw[hx]at e5;cases e5;rw[hxb]at e6;cases e6
   simp(disch:=first|exact zd|fail) [hi2,hc,hj,hx,hjl,-getElem?_pos];rw[hut]at hk hj;rw[Zea hk hj hx hxb]
  |false=>
   have hu2:u=ZbU s t:=by
    rcases hu with ⟨_,rfl⟩|h
    .by_cases hk:u.kind=1
     .obtain ⟨g1,g2,_⟩:=ht.one.1 hk
      obtain⟨j,hj⟩:∃j:Nat,u.id=j:=⟨u.id.toNat,by omega⟩;obtain⟨x,hx⟩:=Zaa (l:=s.slots) (i:=j) (by omega);cases hxb:x.bound with
      |true=>exact absurd (hb.2 ⟨hk,j,x,hj,hx,hxb⟩) (by simp)
      |false=>exact(ZhY hj hx hxb).symm
     .exact(Zh5 hk).symm
    .exact h
   simp(disch:=first|exact zd|fail) [hi2,hc,<-hu2,-getElem?_pos]
 .rintro st ⟨u,hu,rfl⟩
  have hu2:u=ZbU s t:=by
   rcases hu with ⟨h,_⟩|h
   .omega
   .exact h
  have hi2:¬(n:Int)+1<=s.slots.length:=by omega
  unfold Ztx;simp(disch:=first|exact zd|fail) [hi2,<-hu2,-getElem?_pos]
def WalkR (n:Nat)(t:Ty)(r:V×List Obj):Prop:=∃u:Ty,tyS n u/\u.size<=1073741824/\(t.kind≠1->u=t)/\r=(tyV u,[])
theorem Znw {n:Nat}(s:StoD)(hs:stoOk n s)(t:Ty)(ht:tyS n t)(hl:t.size<=1073741824):∃r,WalkR n t r/\(K A).call 230 [stoV s,tyV t] []=some r:=by
 obtain⟨h1,h2⟩:=ZpV hs ht hl;exact⟨_,⟨ZbU s t,h1,h2,Zh5,rfl⟩,ZhP s hs t ht⟩
def SzOk (A:Zab)(n:Nat)(s:StoD)(t:Ty)(k:Nat):Prop:=∃u:Ty,tyS n u/\Res s t u/\u.size<=k/\(K A).call 254 [stoV s,tyV t] []=some (tyV u,[])
theorem Zrg {n k:Nat}(s:StoD)(t w:Ty)(hwp:w=ZbU s t)(hwa:w.args.length<=1073741824)(hw:tyS n w)(hc:(K A).call 230 [stoV s,tyV t] []=some (tyV w,[]))(us:List Ty)(hl:us.length=w.args.length)
 (hus:∀(j:Nat) x,w.args[j]?=some x->∃u,us[j]?=some u/\tyS n u/\Res s x u/\(K A).call 254 [stoV s,tyV x] []=some (tyV u,[])) (hk:(us.map Ty.size).sum+1<=k):SzOk A n s t k:=by
 refine⟨.mk w.kind w.name w.id w.home us,?_,?_,?_,?_⟩
 .refine Zii.2 ⟨?_,?_⟩
  .exact hw.one.len hl
  .intro x hx
   obtain⟨j,hj,he⟩:=qM (show x∈us from hx);obtain⟨y,hy⟩:=Zaa (l:=w.args) (i:=j) (by omega);obtain⟨u,hu,hs,_,_⟩:=hus j y hy;rw[qh hj,he]at hu;cases hu;exact hs
 .subst hwp
  refine .mk t us hl fun j x y hx hy=>?_;obtain⟨u,hu,_,hr,_⟩:=hus j x hx;rw[hu]at hy;cases hy;exact hr
 .rw [Ty.size_eq]
  show 1+(us.map Ty.size).sum<=k;omega
 .refine fnO v254 ?_
  unfold v254;simp(disch:=first|exact zd|fail) [hc];simp(disch:=first|exact zd|fail) [Ty.row_eq w];refine Zad (fun i st=>st=⟨[(2,.sc (.ptr 64 0)),(3,.sc (.ptr 128 0)),(4,.sc (.ptr 192 0)),(5,.sc (.ptr 576 0)),(6,intV i)],
   [(64,some (.box [.c (.sl (Zbe s.slots)),.c (.sl (Zbp s.trail))])),(128,some (.box [.c (.int .i64 w.kind),.c (.str w.name),.c (.int .i64 w.id),.c (.int .i64 w.home),.c (.sl (Ty.rows w.args))])),(192,some (.box [zi,zs,zi,zi,.nil])),
     (576,some (.box [.c (.int .i64 w.kind),.c (.str w.name),.c (.int .i64 w.id),.c (.int .i64 w.home),.arr 769 i])),(769,some (.arr 5 (wr (Ty.rows (us.take i))) 0))]⟩) w.args.length (by simp) ?_ ?_
  .rintro i st hi rfl
   obtain⟨x,hx⟩:=Zaa hi;obtain⟨u,hu,hs,_,hcu⟩:=hus i x hx;have hlen:(us.take i).length=i:=(by simp;omega);unfold Zt4;simp(disch:=first|exact zd|fail) [hi,hx,hcu,hlen,Zam hu,-getElem?_pos]
  .rintro st rfl
   have htk:us.take w.args.length=us:=qf (by omega);unfold Zt4;simp(disch:=first|exact zd|fail) [htk,hl,Zgq,-getElem?_pos]
def SizeC (A:Zab)(n:Nat)(s:StoD)(most:Nat)(t:Ty):Prop:=∃k:Nat,1<=k/\k<=most+1/\(K A).call 253 [stoV s,tyV t,intV most] []=some (intV k,[])/\(k<=most->SzOk A n s t k)/\∀u,Res s t u->u.size<=most->k=u.size
theorem Zzt {n:Nat}(s:StoD)(hs:stoOk n s):∀(most:Nat),most<=1000000->∀t:Ty,tyS n t->t.size<=1073741824->SizeC A n s most t:=by
 intro most
 induction most using Nat.strongRecOn with
 |ind most ih=>
 intro hm t ht hl;obtain⟨hw1,hw2⟩:=ZpV hs ht hl;have hcw:=ZhP (A:=A) s hs t ht;obtain⟨w,hw⟩:∃w,w=ZbU s t:=⟨_,rfl⟩;rw[<-hw]at hw1 hw2 hcw;have hwl:=w.args_lt;have main:∃r,(∃k:Nat,1<=k/\k<=most+1/\(k<=most->SzOk A n s t k)/\(∀u,Res s t u->u.size<=most->k=u.size)/\r=(intV k,[]))/\(K A).call 253 [stoV s,tyV t,intV most] []=some r:=by
  refine fnE v253 ?_;unfold v253;simp(disch:=first|exact zd|fail) [hcw];refine Zad (fun i st=>∃(k:Nat) (us:List Ty),1<=k/\k<=most+1/\(k<=most->us.length=i/\(us.map Ty.size).sum+1<=k/\∀(j:Nat) x,j<i->w.args[j]?=some x->∃u,us[j]?=some u/\tyS n u/\Res s x u/\(K A).call 254 [stoV s,tyV x] []=some (tyV u,[]))/\
   (∀vs:List Ty,vs.length=w.args.length->(∀(j:Nat) x y,w.args[j]?=some x->vs[j]?=some y->Res s x y)->1+((vs.map Ty.size).take i).sum<=most->k=1+((vs.map Ty.size).take i).sum)/\
   st=⟨[(2,intV most),(3,.sc (.ptr 64 0)),(4,.sc (.ptr 128 0)),(7,intV k),(8,intV i)],[(64,some (.box [.c (.sl (Zbe s.slots)),.c (.sl (Zbp s.trail))])),(128,some (.box (wc w.row)))]⟩) w.args.length
   ⟨1,[],by omega,by omega,fun _=>⟨rfl,by simp,by omega⟩,fun _ _ _ _=>by simp,by simp⟩ ?_ ?_
  .rintro i st hi ⟨k,us,hk1,hk2,hk3,hkv,rfl⟩
   obtain⟨x,hx⟩:=Zaa hi;have hxm:=qa hx;have hxs:=Ty.arg_lt hxm;have nx:∀vs:List Ty,vs.length=w.args.length->∃y,vs[i]?=some y/\((vs.map Ty.size).take (i+1)).sum=((vs.map Ty.size).take i).sum+y.size:=fun vs hv=>by
    obtain⟨y,hy⟩:=Zaa (l:=vs) (i:=i) (by omega);have hym:(vs.map Ty.size)[i]?=some y.size:=(by rw[qi,hy];rfl);exact⟨y,hy,by rw[Zam hym];simp⟩
   unfold Zsm;by_cases hkm:k<=most
   .obtain ⟨q1,q2,q3⟩:=hk3 hkm
    obtain⟨k2,h1,h2,hc,h3,h4⟩:=ih (most-k) (by omega) (by omega) x (hw1.arg hxm) (by omega);have e1:(most:Int)-k=((most-k:Nat):Int):=(by omega);have hnext:∀vs:List Ty,vs.length=w.args.length->(∀(j:Nat) x y,w.args[j]?=some x->vs[j]?=some y->Res s x y)->1+((vs.map Ty.size).take (i+1)).sum<=most->k+k2=1+((vs.map Ty.size).take (i+1)).sum:=fun vs hv hr hle=>by
     obtain⟨y,hy,hsum⟩:=nx vs hv;have g1:=hkv vs hv hr (by omega);have g2:=h4 y (hr i x y hx hy) (by omega);omega
    simp(disch:=first|exact zd|fail) [hi,hkm,hx,e1,hc,-getElem?_pos];by_cases hle:k+k2<=most
    .obtain ⟨u,hu1,hur,hu2,hu3⟩:=h3 (by omega)
     refine⟨k+k2,by omega,by omega,⟨us++[u],fun _=>⟨by simp[q1],?_,?_⟩⟩,hnext,by omega⟩
     .simp only [qaf,qq,qX,qaz,qS,qaQ]
      omega
     .intro j y hj hy
      by_cases hji:j<i
      .obtain ⟨v,hv,hv2⟩:=q3 j y hji hy
       exact⟨v,by rw[qx (by omega)];exact hv,hv2⟩
      .obtain rfl:j=i:=by omega
       rw[hx]at hy;cases hy;exact⟨u,by rw[qN (by omega),q1];simp,hu1,hur,hu3⟩
    .exact⟨k+k2,by omega,by omega,⟨us,fun h=>absurd h hle⟩,hnext,by omega⟩
   .simp (disch:=first|exact zd|fail) [hi,hkm,-getElem?_pos]
    refine⟨k,hk1,hk2,fun h=>absurd h hkm,fun u hu hle=>?_,by split<;>omega⟩;cases hu with
    |mk _ vs hl hr=>
     rw[<-hw]at hl hr;rw[Ty.size_eq]at hle;have hle':1+(vs.map Ty.size).sum<=most:=hle;have hst:((vs.map Ty.size).take i).sum<=(vs.map Ty.size).sum:=ZcS;have:=hkv vs hl hr (by omega);omega
  .rintro st ⟨k,us,hk1,hk2,hk3,hkv,rfl⟩
   unfold Zsm;simp(disch:=first|exact zd|fail) [-getElem?_pos];refine⟨k,hk1,hk2,fun h=>?_,fun u hu hle=>?_,by split<;>omega⟩
   .obtain ⟨q1,q2,q3⟩:=hk3 h
    exact Zrg s t w hw (by omega) hw1 hcw us q1 (fun j x hx=>q3 j x (qd.1 hx).1 hx) q2
   .cases hu with
    |mk _ vs hl hr=>
     rw[<-hw]at hl hr;rw[Ty.size_eq]at hle |-;have hle':1+(vs.map Ty.size).sum<=most:=hle;have:=hkv vs hl hr (by rw[qf (by simp;omega)];exact hle');rw[qf (by simp;omega)]at this;exact this
 obtain⟨_,⟨k,h1,h2,h3,h4,rfl⟩,hc⟩:=main;exact⟨k,h1,h2,hc,h3,h4⟩
variable {A:Zab}
theorem Zis {n:Nat}(s:StoD)(hs:stoOk n s)(most:Nat)(hm:most<=1000000)(t:Ty)(ht:tyS n t)(hl:t.size<=1073741824):∃k:Nat,1<=k/\k<=most+1/\(K A).call 234 [stoV s,tyV t,intV most] []=some (intV k,[])/\(k<=most->SzOk A n s t k)/\∀u,Res s t u->u.size<=most->k=u.size:=by
 obtain⟨k,h1,h2,hc,h3,h4⟩:=Zzt (A:=A) s hs most hm t ht hl;refine⟨k,h1,h2,?_,h3,h4⟩;refine fnO v234 ?_;have h0:¬(most:Int)<0:=by omega
 unfold v234;simp(disch:=first|exact zd|fail) [h0,hc]
def ResR (r:V×List Obj):Prop:=∃(u:Ty) (b:Bool),u.size<=4000/\r=(.tu [tyV u,Zae b],[])
def ResS (n:Nat)(r:V×List Obj):Prop:=∃(u:Ty),tyS n u/\u.size<=4000/\r=(.tu [tyV u,Zae true],[])
theorem ZoA {n:Nat}(s:StoD)(hs:stoOk n s)(t:Ty)(ht:tyS n t)(hl:t.size<=1073741824)(v:Ty)(hv:Res s t v)(hvz:v.size<=4000):∃r,ResS n r/\(K A).call 235 [stoV s,tyV t] []=some r:=by
 obtain⟨k,h1,h2,hc,h3,h4⟩:=Zis (A:=A) s hs 4000 (by omega) t ht hl;have hkv:=h4 v hv hvz;refine fnE v235 ?_;have hc':(K A).call 234 [stoV s,tyV t,intV 4000] []=some (intV k,[]):=hc;unfold v235;obtain⟨u,hu1,_,hu2,hu3⟩:=h3 (by omega);have hk2:¬(4000:Int)<k:=by omega
 have hk3:¬4000<k:=by omega
 simp(disch:=first|exact zd|fail) [hc',hk2,hk3,hu3];exact⟨u,hu1,by omega,rfl⟩
theorem ZqH {n:Nat}(s:StoD)(hs:stoOk n s)(t:Ty)(ht:tyS n t)(hl:t.size<=1073741824):∃r,ResR r/\(K A).call 235 [stoV s,tyV t] []=some r:=by
 obtain⟨k,h1,h2,hc,h3,_⟩:=Zis (A:=A) s hs 4000 (by omega) t ht hl;refine fnE v235 ?_;have hc':(K A).call 234 [stoV s,tyV t,intV 4000] []=some (intV k,[]):=hc;unfold v235;by_cases hk:k<=4000
 .obtain ⟨u,hu1,_,hu2,hu3⟩:=h3 hk
  have hk2:¬(4000:Int)<k:=by omega
  have hk3:¬4000<k:=by omega
  simp(disch:=first|exact zd|fail) [hc',hk2,hk3,hu3];exact⟨u,true,by omega,rfl⟩
 .have hk2:(4000:Int)<k:=by omega
  have hk3:4000<k:=by omega
  simp(disch:=first|exact zd|fail) [hc',hk2,hk3];exact⟨.mk 0 [] 0 0 [],false,by rw[Ty.size_leaf];omega,by simp[Ty.row]⟩
abbrev ZAe (s:StoD)(ks:List Bool):List Obj:=[.box [.c (.sl (Zbe s.slots)),.c (.sl (Zbp s.trail)),.nil,.arr 1 ks.length],.arr 1 (boOs ks) 0]
theorem Zwh (s:StoD)(ks:List Bool)(t:Ty):tyS 0 t->t.size<=1073741824->(K A).call 302 [.sc (.ptr 0 0),tyV t] (ZAe s ks)=some (.tu [],ZAe s ks):=by
 induction t using Ty.ind with
 |h t ih=>
 intro ht hl;have hk:¬t.kind=1:=fun hk=>by
  have:=ht.one.1 hk;omega
 have hal:=t.args_lt;refine fnO v302 ?_;unfold v302;simp(disch:=first|exact zd|fail) [hk];refine Zad (fun i st=>st=⟨[(0,.sc (.ptr 0 0)),(3,.sc (.ptr 64 0)),(4,intV i)],[(0,some (.box [.c (.sl (Zbe s.slots)),.c (.sl (Zbp s.trail)),.nil,.arr 1 ks.length])),(1,some (.arr 1 (boOs ks) 0)),(64,some (.box (wc t.row)))]⟩) t.args.length (by simp) ?_ ?_
 .rintro i st hi rfl
  obtain⟨x,hx⟩:=Zaa hi;have hxs:=Ty.arg_lt (qa hx);have hc:=ih x (qa hx) (ht.arg (qa hx)) (by omega);unfold ZvK;simp(disch:=first|exact zd|fail) [hi,hx,hc,-getElem?_pos]
 .rintro st rfl
  unfold ZvK;simp(disch:=first|exact zd|fail) [-getElem?_pos]
theorem ZAi (s:StoD)(hs:s.slots.length<=1000)(t:Ty)(ht:tyS 0 t)(hl:t.size<=1073741824):(K A).call 297 [stoV s,tysV [t]] []=some (ZeQ [],[]):=by
 have hv:=Zwh (A:=A) s (List.replicate s.slots.length false) t ht hl;have hr2:(List.replicate s.slots.length false).length=s.slots.length:=by simp
 generalize hK0:List.replicate s.slots.length false=K0 at *
 have hg:([t]:List Ty)[0]?=some t:=rfl;refine fnO v297 ?_;unfold v297;simp(disch:=first|exact zd|fail) [ZkJ,hK0,-List.map_replicate];refine Zak (fun i=>⟨[(1,tysV [t]),(5,.sc (.ptr 576 0)),(6,intV i)],[(448,some (.arr 1 (boOs K0) 0)),(576,some (.box [.c (.sl (Zbe s.slots)),.c (.sl (Zbp s.trail)),.nil,.arr 448 s.slots.length]))]⟩) 1 ?_ ?_ ?_
 .simp
 .intro i hi
  obtain rfl:i=0:=by omega
  rw[ZAe,hr2]at hv;unfold Zu2;simp(disch:=first|exact zd|fail) [hv,hg,hr2,-getElem?_pos]
 .unfold Zu2
  simp(disch:=first|exact zd|fail) [Za0,-getElem?_pos]
def StoR (n T:Nat)(s0:StoD)(r:V×List Obj):Prop:=∃(s:StoD) (e:Int),stoOk n s/\s.trail.length<=T/\ext s0 s/\r=(.tu [stoV s,intV e],[])
theorem stoOk.set {n:Nat}{s:StoD}(hs:stoOk n s){i:Nat}{x:SlotD}(hx:x.bound=true->tyS n x.ty/\x.ty.size<=1073741824/\x.ty.kind≠1){c:ChgD}(ht:s.trail.length<1000000):stoOk n ⟨s.slots.set i x,s.trail++[c]⟩:=by
 obtain⟨h1,h2,h3,h4⟩:=hs;refine⟨by simp[h1],h2,by simp;omega,?_⟩;intro y hy;rcases List.mem_or_eq_of_mem_set hy with hy|hy
 .exact h4 y hy
 .exact hy▸hx
theorem ZnY (a b c d e f g:W)(t:Ty):splice [a,b,c,d,e,f,g] 0 (wc t.row)=some [.c (.int .i64 t.kind),.c (.str t.name),.c (.int .i64 t.id),.c (.int .i64 t.home),.c (.sl (Ty.rows t.args)),f,g]:=by
 unfold splice;rw[Ty.row_eq];simp
theorem ZAX {n:Nat}(s:StoD)(hs:stoOk n s)(ht:s.trail.length<1000000)(i:Nat)(hi:i<n)(hub:∀y,s.slots[i]?=some y->y.bound=false)(t:Ty)(hg:tyS 0 t)(hl:t.size<=1073741824):∃r,StoR n (s.trail.length+1) s r/\(K A).call 283 [stoV s,intV i,tyV t] []=some r:=by
 have hs0:=hs;obtain⟨h1,h2,h3,h4⟩:=hs0;obtain⟨y,hy⟩:=Zaa (l:=s.slots) (i:=i) (by omega);have hin:i<s.slots.length:=by omega
 have hv:=ZAi (A:=A) s (by omega) t hg hl;have hn:Ty.rows [t]=[t.row]:=by simp[Ty.rows]
 have hv:(K A).call 297 [stoV s,.sc (.c (.sl [t.row]))] []=some (ZeQ [],[]):=by rw[<-hn];exact hv
 have hh:=ZrX (A:=A) [] (i:Int) (by simp);obtain⟨_,⟨u,b,hu2,rfl⟩,hr⟩:=ZqH (A:=A) s hs t (hg.mono (qad _)) hl;obtain⟨_,⟨o2,⟨q1,q2,q3,q4⟩,rfl⟩,hq⟩:=ZlG (A:=A) [u] (by simp;omega);have hn2:Ty.rows [u]=[u.row]:=by simp[Ty.rows]
 have hq:(K A).call 186 [.sc (.c (.sl [u.row]))] []=some (tysV o2,[]):=by rw[<-hn2];exact hq
 have q1':o2.length<=4000:=by simp at q1;omega
 have hset:=Ztg (A:=A) s (by omega) h3 i y hy ⟨true,t,y.home,y.base⟩;rw[ZkT]at hset;simp only at hset;have hk1:t.kind≠1:=fun hk=>by have:=hg.one.1 hk;omega
 have same:∀e:Int,StoR n (s.trail.length+1) s (.tu [stoV s,intV e],[]):=fun e=>⟨s,e,hs,by omega,ext.refl s,rfl⟩;have fin:StoR n (s.trail.length+1) s (.tu [stoV ⟨s.slots.set i ⟨true,t,y.home,y.base⟩,s.trail++[⟨i,y,false⟩]⟩,intV 0],[]):=⟨_,0,hs.set (fun _=>⟨hg.mono (qad _),hl,hk1⟩) ht,by simp,ext.set (fun z hz hb=>by rw[hub z hz]at hb;cases hb),rfl⟩;refine fnE v283 ?_;unfold v283;simp[Za0]at hv hh
 rcases ZdU (A:=A) t with ⟨a,c,_,har⟩|har
 .cases hb:y.base with
  |true=>
   simp(disch:=first|exact zd|fail) [hin,hy,hv,hh,har,hb,-getElem?_pos];exact same 14
  |false=>
   simp(disch:=first|exact zd|fail) [hin,hy,hv,hh,har,hb,hr,hq,-getElem?_pos];refine Zad (fun j st=>st=⟨[(1,intV i),(3,.sc (.ptr 64 0)),(5,.sc (.ptr 128 0)),(6,.sc (.ptr 192 0)),(8,.sc (.ptr 640 0)),(9,.sc (.c (.sl []))),(15,tysV o2),(16,intV j)],
    [(64,some (.box [.c (.sl (Zbe s.slots)),.c (.sl (Zbp s.trail))])),(128,some (.box (wc t.row))),(192,some (.box [.nil,.nil])),(640,some (.box (wc (ZcD y))))]⟩) o2.length (by simp[Za0]) ?_ ?_
   .rintro j st hj rfl
    obtain⟨x,hx⟩:=Zaa hj;unfold ZhZ;by_cases hxh:x.home>y.home
    .have hxh':y.home<x.home:=hxh
     simp(disch:=first|exact zd|fail) [hj,hx,hxh,hxh',-getElem?_pos];exact same 13
    .have hxh':¬y.home<x.home:=hxh
     simp(disch:=first|exact zd|fail) [hj,hx,hxh,hxh',-getElem?_pos]
   .rintro st rfl
    unfold ZhZ;simp(disch:=first|exact zd|fail) [-getElem?_pos];refine Zak (fun _=>⟨[(1,intV i),(3,.sc (.ptr 64 0)),(5,.sc (.ptr 128 0)),(6,.sc (.ptr 192 0)),(8,.sc (.ptr 640 0)),(9,.sc (.c (.sl []))),(17,intV 0)],
     [(64,some (.box [.c (.sl (Zbe s.slots)),.c (.sl (Zbp s.trail))])),(128,some (.box (wc t.row))),(192,some (.box [.nil,.nil])),(640,some (.box (wc (ZcD y))))]⟩) 0 (by simp) (fun i hi=>by omega) ?_
    unfold Zok;simp(disch:=first|exact zd|fail) [-getElem?_pos];refine Zak (fun _=>⟨[(1,intV i),(3,.sc (.ptr 64 0)),(5,.sc (.ptr 128 0)),(6,.sc (.ptr 192 0)),(8,.sc (.ptr 640 0)),(9,.sc (.c (.sl []))),(18,intV 0)],
     [(64,some (.box [.c (.sl (Zbe s.slots)),.c (.sl (Zbp s.trail))])),(128,some (.box (wc t.row))),(192,some (.box [.nil,.nil])),(640,some (.box (wc (ZcD y))))]⟩) 0 (by simp) (fun i hi=>by omega) ?_
    unfold Zux;rw[ZkT y];simp(disch:=first|exact zd|fail) [ZnY,hset,-getElem?_pos];exact fin
 .simp (disch:=first|exact zd|fail) [hin,hy,hv,hh,har,hr,hq,-getElem?_pos]
  refine Zad (fun j st=>st=⟨[(1,intV i),(3,.sc (.ptr 64 0)),(5,.sc (.ptr 128 0)),(6,.sc (.ptr 192 0)),(8,.sc (.ptr 640 0)),(9,.sc (.c (.sl []))),(15,tysV o2),(16,intV j)],
   [(64,some (.box [.c (.sl (Zbe s.slots)),.c (.sl (Zbp s.trail))])),(128,some (.box (wc t.row))),(192,some (.box [.nil,.nil])),(640,some (.box (wc (ZcD y))))]⟩) o2.length (by simp[Za0]) ?_ ?_
  .rintro j st hj rfl
   obtain⟨x,hx⟩:=Zaa hj;unfold ZhZ;by_cases hxh:x.home>y.home
   .have hxh':y.home<x.home:=hxh
    simp(disch:=first|exact zd|fail) [hj,hx,hxh,hxh',-getElem?_pos];exact same 13
   .have hxh':¬y.home<x.home:=hxh
    simp(disch:=first|exact zd|fail) [hj,hx,hxh,hxh',-getElem?_pos]
  .rintro st rfl
   unfold ZhZ;simp(disch:=first|exact zd|fail) [-getElem?_pos];refine Zak (fun _=>⟨[(1,intV i),(3,.sc (.ptr 64 0)),(5,.sc (.ptr 128 0)),(6,.sc (.ptr 192 0)),(8,.sc (.ptr 640 0)),(9,.sc (.c (.sl []))),(17,intV 0)],
    [(64,some (.box [.c (.sl (Zbe s.slots)),.c (.sl (Zbp s.trail))])),(128,some (.box (wc t.row))),(192,some (.box [.nil,.nil])),(640,some (.box (wc (ZcD y))))]⟩) 0 (by simp) (fun i hi=>by omega) ?_
   unfold Zok;simp(disch:=first|exact zd|fail) [-getElem?_pos];refine Zak (fun _=>⟨[(1,intV i),(3,.sc (.ptr 64 0)),(5,.sc (.ptr 128 0)),(6,.sc (.ptr 192 0)),(8,.sc (.ptr 640 0)),(9,.sc (.c (.sl []))),(18,intV 0)],
    [(64,some (.box [.c (.sl (Zbe s.slots)),.c (.sl (Zbp s.trail))])),(128,some (.box (wc t.row))),(192,some (.box [.nil,.nil])),(640,some (.box (wc (ZcD y))))]⟩) 0 (by simp) (fun i hi=>by omega) ?_
   unfold Zux;rw[ZkT y];simp(disch:=first|exact zd|fail) [ZnY,hset,-getElem?_pos];exact fin
variable {A:Zab}
theorem Ztn (s:StoD)(t:Ty):∃r,IffB (t.kind=1/\0<=t.id/\t.id<s.slots.length) r/\(K A).call 281 [stoV s,tyV t] []=some r:=by
 refine fnE v281 ?_;unfold v281;by_cases h1:t.kind=1
 .by_cases h2:0<=t.id
  .by_cases h3:t.id<s.slots.length
   .simp (disch:=first|exact zd|fail) [h1,h2,h3]
    exact IffB.yes trivial
   .simp (disch:=first|exact zd|fail) [h1,h2,h3]
    exact IffB.no id
  .simp (disch:=first|exact zd|fail) [h1,h2]
   exact IffB.no id
 .simp (disch:=first|exact zd|fail) [h1]
  exact IffB.no id
theorem ZwD {n:Nat}(b:Ty):∀(s:StoD) (a:Ty),stoOk n s->tyS n a->a.size<=1073741824->tyS 0 b->b.size<=1073741824->s.trail.length+b.size<1000000->
 ∃r,StoR n (s.trail.length+b.size) s r/\(K A).call 252 [stoV s,tyV a,tyV b] []=some r:=by
 induction b using Ty.ind with
 |h b ih=>
 intro s a hs ha hal hb hbl htr;have hbn:=hb.mono (qad n);have hk1:b.kind≠1:=fun hk=>by
  have:=hb.one.1 hk;omega
 obtain⟨k1,_,_,hc1,_,_⟩:=Zis (A:=A) s hs 200 (by omega) a ha hal;obtain⟨k2,_,_,hc2,_,_⟩:=Zis (A:=A) s hs 200 (by omega) b hbn hbl;obtain⟨hx1,hx2⟩:=ZpV hs ha hal;have hcx:=ZhP (A:=A) s hs a ha;obtain⟨x,hxw⟩:∃x,x=ZbU s a:=⟨_,rfl⟩;rw[<-hxw]at hx1 hx2 hcx;obtain⟨_,⟨y,_,_,hy3,rfl⟩,hcy⟩:=Znw (A:=A) s hs b hbn hbl;obtain rfl:=hy3 hk1;obtain⟨_,⟨p,hp,rfl⟩,hsx⟩:=Ztn (A:=A) s x
 obtain⟨_,⟨q,hq,rfl⟩,hsy⟩:=Ztn (A:=A) s y;have hq0:q=false:=by
  cases q with
  |false=>rfl
  |true=>exact absurd (hq.1 rfl).1 hk1
 subst hq0;have hc1':(K A).call 234 [stoV s,tyV a,intV 200] []=some (intV k1,[]):=hc1;have hc2':(K A).call 234 [stoV s,tyV y,intV 200] []=some (intV k2,[]):=hc2;have hbp:=y.size_pos;have same:∀e:Int,StoR n (s.trail.length+y.size) s (.tu [stoV s,intV e],[]):=fun e=>⟨s,e,hs,by omega,ext.refl s,rfl⟩;refine fnE v252 ?_;unfold v252;by_cases hk1':200<k1
 .have hk1i:(200:Int)<k1:=by omega
  simp(disch:=first|exact zd|fail) [hc1',hk1',hk1i,-getElem?_pos];exact same 15
 .have hk1i:¬(200:Int)<k1:=by omega
  by_cases hk2':200<k2
  .have hk2i:(200:Int)<k2:=by omega
   simp(disch:=first|exact zd|fail) [hc1',hc2',hk1',hk1i,hk2',hk2i,-getElem?_pos];exact same 15
  .have hk2i:¬(200:Int)<k2:=by omega
   cases p with
   |true=>
    obtain⟨g1,g2,g3⟩:=hp.1 rfl;obtain⟨i,hi⟩:∃i:Nat,x.id=i:=⟨x.id.toNat,by omega⟩;have hsl:=hs.1;obtain⟨f1,_,i',z,f2,_,f3,f4⟩:=ZhN hs ha (by rw[<-hxw];exact g1);have hub:∀y,s.slots[i]?=some y->y.bound=false:=fun y hy=>by
     rw[<-hxw]at f1;rw[<-f1]at f2;have:i'=i:=(by omega);subst this;rw[f3]at hy;cases hy;exact f4
    obtain⟨_,⟨s2,e2,h1,h2,h2e,rfl⟩,hbd⟩:=ZAX (A:=A) s hs (by omega) i (by omega) hub y hb hbl;simp(disch:=first|exact zd|fail) [hc1',hc2',hk1',hk1i,hk2',hk2i,hcx,hcy,hsx,hsy,hi,hbd,-getElem?_pos];exact⟨s2,e2,h1,by omega,h2e,rfl⟩
   |false=>
    by_cases a1:x.kind=y.kind
    .by_cases a2:x.name=y.name
     .by_cases a3:x.id=y.id
      .by_cases a4:x.home=y.home
       .by_cases a5:x.args.length=y.args.length
        .have hyl:=y.args_lt
         simp(disch:=first|exact zd|fail) [hc1',hc2',hk1',hk1i,hk2',hk2i,hcx,hcy,hsx,hsy,a1,a2,a3,a4,a5,-getElem?_pos];refine Zad (fun j st=>∃(s2:StoD) (e:Int),stoOk n s2/\s2.trail.length<=s.trail.length+((y.args.map Ty.size).take j).sum/\ext s s2/\st=⟨[(3,.sc (.ptr 64 0)),(6,.sc (.ptr 256 0)),(8,.sc (.ptr 1600 0)),(9,.sc (.ptr 1664 0)),(10,intV e),(11,intV j)],
          [(64,some (.box [.c (.sl (Zbe s2.slots)),.c (.sl (Zbp s2.trail))])),(256,some (.box [.nil,.nil])),(1600,some (.box (wc x.row))),(1664,some (.box (wc y.row)))]⟩) y.args.length ⟨s,0,hs,by simp,ext.refl s,by simp⟩ ?_ ?_
         .rintro j st hj ⟨s2,e,hs2,ht2,he2,rfl⟩
          obtain⟨u,hu⟩:=Zaa (l:=x.args) (i:=j) (by omega);obtain⟨v,hv⟩:=Zaa (l:=y.args) (i:=j) (by omega);have hum:=qa hu;have hvm:=qa hv;have hus:=Ty.arg_lt hum;have hvs:=Ty.arg_lt hvm;have hxm:(y.args.map Ty.size)[j]?=some v.size:=(by rw[qi,hv];rfl);have hsum:((y.args.map Ty.size).take (j+1)).sum=((y.args.map Ty.size).take j).sum+v.size:=(by rw[Zam hxm];simp)
          have hle:((y.args.map Ty.size).take (j+1)).sum<=(y.args.map Ty.size).sum:=ZcS;have hys:=y.size_eq;obtain⟨_,⟨s3,e3,g1,g2,g3,rfl⟩,hc⟩:=ih v hvm s2 u hs2 (hx1.arg hum) (by omega) (hb.arg hvm) (by omega) (by omega);unfold ZrM;by_cases he:e=0
          .simp (disch:=first|exact zd|fail) [hj,a5,he,hu,hv,hc,-getElem?_pos]
           exact⟨s3,g1,by omega,he2.trans g3,by simp⟩
          .simp (disch:=first|exact zd|fail) [hj,a5,he,-getElem?_pos]
           exact⟨s2,e,hs2,by omega,he2,rfl⟩
         .rintro st ⟨s2,e,hs2,ht2,he2,rfl⟩
          have hys:=y.size_eq;rw[qf (by simp)]at ht2;unfold ZrM;simp(disch:=first|exact zd|fail) [a5,-getElem?_pos];exact⟨s2,e,hs2,by omega,he2,rfl⟩
        .have a5':¬(x.args.length:Int)=y.args.length:=by omega
         simp(disch:=first|exact zd|fail) [hc1',hc2',hk1',hk1i,hk2',hk2i,hcx,hcy,hsx,hsy,a1,a2,a3,a4,a5,a5',-getElem?_pos];exact same 11
       .simp (disch:=first|exact zd|fail) [hc1',hc2',hk1',hk1i,hk2',hk2i,hcx,hcy,hsx,hsy,a1,a2,a3,a4,-getElem?_pos]
        exact same 11
      .simp (disch:=first|exact zd|fail) [hc1',hc2',hk1',hk1i,hk2',hk2i,hcx,hcy,hsx,hsy,a1,a2,a3,-getElem?_pos]
       exact same 11
     .simp (disch:=first|exact zd|fail) [hc1',hc2',hk1',hk1i,hk2',hk2i,hcx,hcy,hsx,hsy,a1,a2,-getElem?_pos]
      exact same 11
    .simp (disch:=first|exact zd|fail) [hc1',hc2',hk1',hk1i,hk2',hk2i,hcx,hcy,hsx,hsy,a1,-getElem?_pos]
     exact same 11
variable {A:Zab}
theorem Zwz {n:Nat}(s:StoD)(a b:Ty)(hs:stoOk n s)(ha:tyS n a)(hal:a.size<=1073741824)(hb:tyS 0 b)(hbl:b.size<=1073741824)(ht:s.trail.length+b.size<1000000):
 ∃r,StoR n (s.trail.length+b.size) s r/\(K A).call 233 [stoV s,tyV a,tyV b] []=some r:=by
 obtain⟨_,⟨s2,e,h1,h2,h3,rfl⟩,hc⟩:=ZwD (A:=A) b s a hs ha hal hb hbl ht;refine fnE v233 ?_;unfold v233;by_cases he:e=0
 .simp (disch:=first|exact zd|fail) [hc,he,-getElem?_pos]
  exact⟨s2,0,h1,h2,h3,rfl⟩
 .simp (disch:=first|exact zd|fail) [hc,he,-getElem?_pos]
  exact⟨s,e,hs,by omega,ext.refl s,rfl⟩
def MarkR (n T:Nat)(s0:StoD)(r:V×List Obj):Prop:=∃s:StoD,stoOk n s/\s.trail.length<=T/\ext s0 s/\r=(stoV s,[])
theorem Zuz {n:Nat}(s:StoD)(t:Ty)(hs:stoOk n s)(ht:tyS n t)(hl:t.size<=1073741824)(htr:s.trail.length<1000000):∃r,MarkR n (s.trail.length+1) s r/\(K A).call 232 [stoV s,tyV t] []=some r:=by
 have hs0:=hs;obtain⟨h1,h2,h3,h4⟩:=hs0;obtain⟨_,⟨u,hu1,hu2,_,rfl⟩,hc⟩:=Znw (A:=A) s hs t ht hl;refine fnE v232 ?_;unfold v232;by_cases hk:u.kind=1
 .obtain ⟨g1,g2,_⟩:=hu1.one.1 hk
  obtain⟨i,hi⟩:∃i:Nat,u.id=i:=⟨u.id.toNat,by omega⟩;obtain⟨y,hy⟩:=Zaa (l:=s.slots) (i:=i) (by omega);have hin:i<s.slots.length:=by omega
  have hset:=Ztg (A:=A) s (by omega) h3 i y hy ⟨y.bound,y.ty,y.home,true⟩;rw[ZkT]at hset;simp only at hset;simp(disch:=first|exact zd|fail) [hc,hk,hi,hy,hin,-getElem?_pos];rw[ZkT y];simp(disch:=first|exact zd|fail) [hi,hset,-getElem?_pos];exact⟨_,hs.set (i:=i) (x:=⟨y.bound,y.ty,y.home,true⟩) (h4 y (qa hy)) (c:=⟨i,y,false⟩) htr,by simp,ext.set (fun z hz hb=>by rw[hy]at hz;cases hz;exact⟨hb,rfl⟩),rfl⟩
 .simp (disch:=first|exact zd|fail) [hc,hk,-getElem?_pos]
  exact⟨s,hs,by omega,ext.refl s,rfl⟩
def CanonR (l:List Ty)(r:V×List Obj):Prop:=∃(M:Nat) (l2:List Ty),l2.length=l.length/\(∀(i:Nat) x y,l[i]?=some x->l2[i]?=some y->tyS M y/\y.size<=x.size)/\r=(tysV l2,[])
theorem Zhq {n:Nat}(l:List Ty)(h:(l.map Ty.size).sum<=1073741824)(hS:∀t∈l,tyS n t):∃r,CanonR l r/\(K A).call 236 [tysV l] []=some r:=by
 have hlen:=Ty.len_le l;obtain⟨_,⟨v,⟨g1,g2,g3⟩,rfl⟩,hv⟩:=ZkY (A:=A) (c:=0) l h hS;refine fnE v236 ?_;unfold v236;simp(disch:=first|exact zd|fail) [hv];refine Zad (fun i st=>∃s:List AssD,s.length=i/\(∀(j:Nat) x,j<i->v[j]?=some x->∃a∈s,a.id=x)/\(∀a∈s,tyS v.length a.ty/\a.ty.size<=1)/\
  st=⟨[(0,tysV l),(3,ZeQ v),(4,.sc (.arr 321 i)),(5,intV i)],[(321,some (.arr 6 (wr (Zcw s)) 0))]⟩) v.length ⟨[],rfl,by omega,by simp,by simp⟩ ?_ ?_
 .rintro i st hi ⟨s,hs,q1,q2,rfl⟩
  obtain⟨x,hx⟩:=Zaa hi;have hb:=ZtW (A:=A) i;have he:(W.c (.int .i64 x)::wc (Ty.mk 1 [] i 0 []).row)=wc (ZbY ⟨x,.mk 1 [] i 0 []⟩):=rfl;unfold Zpr;simp(disch:=first|exact zd|fail) [hi,hx,hb,he,hs,-getElem?_pos];refine⟨s++[⟨x,.mk 1 [] i 0 []⟩],by simp[hs],?_,?_,by simp⟩
  .intro j y hj hy
   by_cases hji:j<i
   .obtain ⟨a,ha,hai⟩:=q1 j y hji hy
    exact⟨a,by simp[ha],hai⟩
   .obtain rfl:j=i:=by omega
    rw[hx]at hy;cases hy;exact⟨_,ql.2 (.inr (qj.2 rfl)),rfl⟩
  .intro a ha
   rcases ql.1 ha with ha|ha
   .exact q2 a ha
   .simp only [qj] at ha
    subst ha;exact⟨ZiO hi,by simp[Ty.size_leaf]⟩
 .rintro st ⟨s,hs,q1,q2,rfl⟩
  unfold Zpr;simp(disch:=first|exact zd|fail) [-getElem?_pos];refine Zad (fun i st=>∃p:Nat,st=⟨[(0,tysV l),(4,.sc (.arr 321 v.length)),(6,.sc (.arr 1601 i)),(7,intV i)],[(321,some (.arr 6 (wr (Zcw s)) p)),(1601,some (.arr 5 (wr (Ty.rows ((l.map (ZcI s)).take i))) 0))]⟩) l.length ⟨0,by simp⟩ ?_ ?_
  .rintro i st hi ⟨p,rfl⟩
   obtain⟨x,hx⟩:=Zaa hi;have hxm:=qa hx;have hxs:=ZcA (qaI (f:=Ty.size) hxm);have hc:=ZdV (A:=A) s (by omega) x (by omega);have hmx:(l.map (ZcI s))[i]?=some (ZcI s x):=(by rw[qi,hx];rfl);have hlen2:((l.map (ZcI s)).take i).length=i:=(by simp;omega);unfold ZsC;simp(disch:=first|exact zd|fail) [hi,hx,hc,hs,hlen2,Zam hmx,-getElem?_pos]
  .rintro st ⟨p,rfl⟩
   have htk:(l.map (ZcI s)).take l.length=l.map (ZcI s):=qf (by simp);unfold ZsC;simp(disch:=first|exact zd|fail) [htk,-getElem?_pos];refine⟨v.length,l.map (ZcI s),by simp,?_,rfl⟩;intro i x y hx hy;rw[qi,hx]at hy;cases hy;have hxm:=qa hx;refine⟨ZmW (c:=0) (l:=v) (fun i hi=>?_) (fun a ha=>(q2 a ha).1) (hS x hxm) (g2 x hxm),?_⟩
   .obtain ⟨j,hj,he⟩:=qM hi
    exact q1 j i hj (by rw[qh hj,he])
   .have:=Zgx (qe 1) (fun a ha=>(q2 a ha).2) x
    omega
variable {A:Zab}
@[simp] theorem cut_n2 (e:EntD):cut (ZbG e) 2 5=some e.ty.row:=by rw[ZbG,Ty.row_eq];rfl
theorem ZwN (s:List AssD)(hs:s.length<=1073741824)(t:Ty)(hl:t.size<=1073741824):(K A).call 215 [ZfA s,tyV t] []=some (tyV (ZcI s t),[]):=by
 have hc:=ZdV (A:=A) s hs t hl;refine fnO v215 ?_;unfold v215;simp(disch:=first|exact zd|fail) [hc]
theorem Zji (s:List AssD)(hs:s.length<=1073741824)(c:Int)(t:Ty)(hl:t.size<=1073741824):(K A).call 192 [ZfA s,schV c t] []=some (schV c (ZcI s t),[]):=by
 have hc:=ZwN (A:=A) s hs t hl;refine fnO v192 ?_;unfold v192;simp(disch:=first|exact zd|fail) [Zbu,hc]
theorem Ztk {l:List Ty}{m:Nat}(h:∀x∈l,x.size<=m){k:Nat}(hl:l.length<=k):(l.map Ty.size).sum<=k*m:=
 qu (Zfd h) (qA m hl)
theorem ZxK {n m:Nat}(hn:n<=1000000)(ctx:List EntD)(hctx:ctxOk n m ctx)(goal:Ty)(hg:tyS 0 goal)(hb:goal.size+n*m<=1073741824):
 (K A).call 190 [tyV goal,Zc5 ctx,.sc (.c (.sl []))] []=some (.tu [stoV ⟨[],[]⟩,ZfA []],[]):=by
 obtain⟨hc1,hc2⟩:=hctx;have hs:=Zvc (A:=A) ctx (by omega);have hsl:=Zd5 ctx ctx.length;have hsub:=Zdg ctx ctx.length;generalize Zcs ctx ctx.length=l at *
 have hnew:=new213 (A:=A);refine fnO v190 ?_;unfold v190;simp(disch:=first|exact zd|fail) [hs];refine Zak (fun i=>⟨[(2,.sc (.c (.sl []))),(3,.sc (.ptr 64 0)),(6,.sc (.ptr 128 0)),(8,.sc (.arr 257 i)),(9,Zc5 l),(10,intV i)],
  [(64,some (.box (wc goal.row))),(128,some (.box [.nil,.nil])),(257,some (.arr 5 (wr (Ty.rows ((l.map EntD.ty).take i))) 0))]⟩) l.length (by simp) ?_ ?_
 .intro i hi
  obtain⟨x,hx⟩:=Zaa hi;have hmx:(l.map EntD.ty)[i]?=some x.ty:=by rw[qi,hx];rfl
  have hlen2:((l.map EntD.ty).take i).length=i:=by simp;omega
  unfold Zov;simp(disch:=first|exact zd|fail) [hi,hx,hlen2,Zam hmx,-getElem?_pos]
 .have htk:(l.map EntD.ty).take l.length=l.map EntD.ty:=qf (by simp)
  have hty:∀x∈l.map EntD.ty,tyB 0 900 x/\x.size<=m:=by
   intro x hx;obtain⟨e,he,rfl⟩:=qH.1 hx;obtain⟨_,⟨c,hc,hcl⟩,x3,x4⟩:=hc2 e (hsub e he);exact⟨x3.mono (qe 0) (by omega),x4⟩
  have hsz:=Ztk (fun x hx=>(hty x hx).2) (show(l.map EntD.ty).length<=n by simp;omega);obtain⟨_,⟨v,⟨g1,g2,g3⟩,rfl⟩,hv⟩:=ZkY (A:=A) (n:=0) (c:=900) (goal::l.map EntD.ty) (by simp only[qq,qS];omega) (by
   intro x hx;rcases qz.1 hx with rfl|hx
   .exact hg.up
   .exact(hty x hx).1)
  have hv0:v=[]:=by
   cases v with
   |nil=>rfl
   |cons a r=>have:=g3 a (by simp);omega
  subst hv0;have hrow:Ty.rows (goal::l.map EntD.ty)=goal.row::Ty.rows (l.map EntD.ty):=by rw[Ty.rows]
  rw[tysV,hrow]at hv;have hcomm:(l.length+1==1+l.length)=true:=by simp;omega
  simp only[ZeQ,Za0,qX]at hv;unfold Zov;simp(disch:=first|exact zd|fail) [htk,hv,hcomm,hnew,-getElem?_pos];refine Zak (fun _=>⟨[(2,.sc (.c (.sl []))),(6,.sc (.ptr 128 0)),(11,.sc (.c (.sl []))),(12,.sc (.ptr 2112 0)),(13,.sc (.arr 2241 0)),(14,intV 0)],
   [(128,some (.box [.nil,.nil])),(257,some (.arr 5 (wr (Ty.rows (l.map EntD.ty))) 0)),(1728,some (.arr 5 (wc goal.row::wr (Ty.rows (l.map EntD.ty))) (l.length+1))),(2112,some (.box [.c (.sl []),.c (.sl [])])),(2241,some (.arr 6 [] 0))]⟩) 0 rfl (fun i hi=>by omega) ?_
  unfold Zyf;simp(disch:=first|exact zd|fail) [-getElem?_pos]
end Go.Vs.Tryz
