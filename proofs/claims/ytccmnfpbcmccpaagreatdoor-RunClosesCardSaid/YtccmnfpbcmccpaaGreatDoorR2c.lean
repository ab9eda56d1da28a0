/- The program's comparison of ranks (a closure over the declarations and the context), walked. (Parts of one proof, put together.) -/
import Derived.Test.YtccmnfpbcmccpaaGreatDoorR1c
set_option linter.unusedSimpArgs false
set_option linter.unusedVariables false
set_option linter.deprecated false
set_option maxHeartbeats 2000000
namespace Go.Vs
open Go
section
variable {call:FuncId→List V→List Obj→Option (V × List Obj)}{L:Nat→Option Obj}{oid:Nat}
@[simp] theorem call1_clo2 {f:FuncId} {w0 w1:W} {args:List (Bool × V)}:ZcF call L oid (.sc (.clo f [true,true] [[w0],[w1]])) args=ZgY call L oid f (Zat L (args++[(true,.sc w0),(true,.sc w1)])):=by
 rw [ZeX]
 rfl
@[simp] theorem call1_clo3 {f:FuncId} {w0 w1 w2:W} {args:List (Bool × V)}:ZcF call L oid (.sc (.clo f [true,true,true] [[w0],[w1],[w2]])) args=ZgY call L oid f (Zat L (args++[(true,.sc w0),(true,.sc w1),(true,.sc w2)])):=by
 rw [ZeX]
 rfl
end
end Go.Vs
namespace Go.Vs.Tryz
open Go Go.Vs
variable {A:Zac}
variable {A:Zac}
def ZgE (l:List Exp):Nat→List Exp
 | 0=>l
 | i+1=>match (ZgE l i)[i]?,(ZgE l i)[l.length-1-i]? with
  | some x,some y=>((ZgE l i).set i y).set (l.length-1-i) x
  | _,_=>ZgE l i
@[simp] theorem swapTo_len (l:List Exp):∀ i,(ZgE l i).length=l.length
 | 0=>rfl
 | i+1=>by
  have:=swapTo_len l i
  simp only [ZgE]
  split
  ·simp [this]
  ·exact this
theorem setRow_set {α:Type}:∀ (l:List α)(i:Nat)(a:α),setRow l i a=l.set i a
 | [],_,_=>rfl
 | _::_,0,_=>rfl
 | b::r,n+1,a=>by simp only [setRow,List.set_cons_succ,setRow_set r n a]
theorem Zjw (l:List Exp)(i:Nat)(x:Exp):setRow (wr (Exp.rows l)) i (wc x.row)=wr (Exp.rows (l.set i x)):=by
 rw [setRow_set]
 simp [Exp.rows_map,wr,List.map_set]
variable {A:Zac}
def Zpw (c:UInt8):Bool:=(97≤c.toNat && c.toNat≤122) || (65≤c.toNat && c.toNat≤90) || (48≤c.toNat && c.toNat≤57) || c.toNat == 95
def keyWords:List Str:=[[100,97,116,97],[108,101,116],[114,101,99],[105,110],[99,97,115,101],[111,102],[101,110,100]]
def nameOk (lo hi:Nat)(s:Str):Prop:=s.length≤12∧(∃ c,s[0]?=some c∧lo≤c.toNat∧c.toNat≤hi)∧(∀ c∈s,Zpw c=true)∧s∉keyWords
end Go.Vs.Tryz
namespace Go.Vs
open Go
theorem Ty.ind {P:Ty→Prop}(h:∀ t:Ty,(∀ x∈t.args,P x)→P t)(t:Ty):P t:=by
 have:∀ (n:Nat) (t:Ty),t.size≤n→P t:=by
  intro n
  induction n with
  | zero =>
   intro t ht
   have:=t.size_pos
   omega
  | succ n ih =>
   intro t ht
   exact h t fun x hx=>ih x (by have:=Ty.arg_lt hx;omega)
 exact this t.size t (Nat.le_refl _)
mutual
def Ty.all (p:Ty→Prop):Ty→Prop
 | .mk k n i h a=>p (.mk k n i h a)∧Ty.alls p a
def Ty.alls (p:Ty→Prop):List Ty→Prop
 | []=>True
 | t::r=>Ty.all p t∧Ty.alls p r
end
theorem Ty.alls_iff {p:Ty→Prop}:∀ {l:List Ty},Ty.alls p l↔∀ x∈l,Ty.all p x
 | []=>by simp [Ty.alls]
 | t::r=>by simp [Ty.alls,Ty.alls_iff (l:=r)]
theorem Ty.all_iff {p:Ty→Prop}{t:Ty}:Ty.all p t↔p t∧∀ x∈t.args,Ty.all p x:=by
 cases t
 simp [Ty.all,Ty.args,Ty.alls_iff]
theorem Ty.all.one {p:Ty→Prop}{t:Ty}(h:Ty.all p t):p t:=(Ty.all_iff.1 h).1
theorem Ty.all.arg {p:Ty→Prop}{t x:Ty}(h:Ty.all p t)(hx:x∈t.args):Ty.all p x:=(Ty.all_iff.1 h).2 x hx
theorem Ty.all.mono {p q:Ty→Prop}(hpq:∀ t,p t→q t)(t:Ty):Ty.all p t→Ty.all q t:=by
 induction t using Ty.ind with
 | h t ih =>
  intro h
  exact Ty.all_iff.2 ⟨hpq t h.one,fun x hx=>ih x hx (h.arg hx)⟩
mutual
def Ty.map (f:Ty→Option Ty):Ty→Ty
 | .mk k n i h a=>match f (.mk k n i h a) with
  | some u=>u
  | none=>.mk k n i h (Ty.maps f a)
def Ty.maps (f:Ty→Option Ty):List Ty→List Ty
 | []=>[]
 | t::r=>Ty.map f t::Ty.maps f r
end
theorem Ty.maps_map {f:Ty→Option Ty}:∀ (l:List Ty),Ty.maps f l=l.map (Ty.map f)
 | []=>by simp [Ty.maps]
 | t::r=>by simp [Ty.maps,Ty.maps_map r]
theorem Ty.map_some {f:Ty→Option Ty}{t u:Ty}(h:f t=some u):Ty.map f t=u:=by
 cases t
 simp only [Ty.map,h]
theorem Ty.map_none {f:Ty→Option Ty}{t:Ty}(h:f t=none):Ty.map f t=.mk t.kind t.name t.id t.home (t.args.map (Ty.map f)):=by
 cases t
 simp only [Ty.map,h,Ty.maps_map,Ty.kind,Ty.name,Ty.id,Ty.home,Ty.args]
theorem Ty.map_all {f:Ty→Option Ty}{p q:Ty→Prop}(h1:∀ t u,Ty.all p t→f t=some u→Ty.all q u)
 (h2:∀ (t:Ty) (a:List Ty),p t→f t=none→a.length=t.args.length→q (.mk t.kind t.name t.id t.home a)) (t:Ty):Ty.all p t→Ty.all q (Ty.map f t):=by
 induction t using Ty.ind with
 | h t ih =>
  intro h
  cases hf:f t with
  | some u=>rw [Ty.map_some hf];exact h1 t u h hf
  | none =>
   rw [Ty.map_none hf]
   refine Ty.all_iff.2 ⟨h2 t _ h.one hf (by simp),?_⟩
   intro x hx
   simp only [Ty.args,List.mem_map] at hx
   obtain ⟨y,hy,rfl⟩:=hx
   exact ih y hy (h.arg hy)
theorem Zgi {m:Nat}:∀ {l:List Ty}{g:Ty→Ty},(∀ x∈l,(g x).size≤x.size*m)→((l.map g).map Ty.size).sum≤(l.map Ty.size).sum*m
 | [],_,_=>by simp
 | a::r,g,h=>by
  have h1:=h a (by simp)
  have h2:=Zgi (l:=r) (g:=g) fun x hx=>h x (by simp [hx])
  simp only [List.map_cons,List.sum_cons,Nat.add_mul]
  omega
theorem Ty.map_size {f:Ty→Option Ty}{m:Nat}(hm:1≤m)(h1:∀ t u,f t=some u→u.size≤t.size*m)(t:Ty):(Ty.map f t).size≤t.size*m:=by
 induction t using Ty.ind with
 | h t ih =>
  cases hf:f t with
  | some u=>rw [Ty.map_some hf];exact h1 t u hf
  | none =>
   rw [Ty.map_none hf,Ty.size_eq,t.size_eq]
   have:=Zgi (l:=t.args) (g:=Ty.map f) ih
   show 1+((t.args.map (Ty.map f)).map Ty.size).sum≤(1+(t.args.map Ty.size).sum)*m
   rw [Nat.add_mul]
   omega
def ZeS (s:Str)(n:Nat):Prop:=(s=[45,62]∧n=2)∨(s=[73,110,116]∧n=0)∨(s≠[45,62]∧s≠[73,110,116]∧Tryz.nameOk 65 90 s∧n≤4)
def vldN (c:Nat)(t:Ty):Prop:=(t.kind=2→t.id<c∧t.args=[])∧(t.kind=4→t.id=0∧t.home=0∧ZeS t.name t.args.length)∧(t.kind=5→t.id=0∧t.home=0∧t.args=[]∧Tryz.nameOk 97 122 t.name)∧1≤t.kind∧t.kind≤5
def tyN (n c:Nat)(t:Ty):Prop:=(t.kind=1→0≤t.id∧t.id<n∧t.args=[])∧(t.kind=2→0≤t.id)∧(t.kind=3→t.args=[])∧vldN c t
def tyB (n c:Nat)(t:Ty):Prop:=Ty.all (tyN n c) t
def tyS (n:Nat)(t:Ty):Prop:=tyB n 0 t
theorem Znl {n c:Nat}{t:Ty}:tyB n c t↔tyN n c t∧∀ x∈t.args,tyB n c x:=Ty.all_iff
theorem tyB.one {n c:Nat}{t:Ty}(h:tyB n c t):tyN n c t:=Ty.all.one h
theorem tyB.arg {n c:Nat}{t x:Ty}(h:tyB n c t)(hx:x∈t.args):tyB n c x:=Ty.all.arg h hx
theorem tyB.mono {n m c d:Nat}{t:Ty}(h:tyB n c t)(hnm:n≤m)(hcd:c≤d):tyB m d t :=
 Ty.all.mono (fun t ⟨h1,h2,h3,h4,h5⟩=>⟨fun hk=>⟨(h1 hk).1,by have:=(h1 hk).2.1;omega,(h1 hk).2.2⟩,h2,h3,fun hk=>⟨by have:=(h4 hk).1;omega,(h4 hk).2⟩,h5⟩) t h
theorem Zev {n:Nat}{t:Ty}:tyS n t↔tyN n 0 t∧∀ x∈t.args,tyS n x:=Ty.all_iff
theorem tyS.one {n:Nat}{t:Ty}(h:tyS n t):tyN n 0 t:=Ty.all.one h
theorem tyS.arg {n:Nat}{t x:Ty}(h:tyS n t)(hx:x∈t.args):tyS n x:=Ty.all.arg h hx
theorem tyS.mono {n m:Nat}{t:Ty}(h:tyS n t)(hnm:n≤m):tyS m t:=tyB.mono h hnm (Nat.le_refl 0)
theorem tyS.up {n c:Nat}{t:Ty}(h:tyS n t):tyB n c t:=tyB.mono h (Nat.le_refl n) (Nat.zero_le c)
theorem tyN.len {n c:Nat}{t:Ty}{a:List Ty}(h:tyN n c t)(ha:a.length=t.args.length):tyN n c (.mk t.kind t.name t.id t.home a):=by
 have he:t.args=[]→a=[]:=fun h=>List.length_eq_zero_iff.1 (by rw [ha,h];rfl)
 obtain ⟨h1,h2,h3,h4,h5,h6,h7⟩:=h
 refine ⟨fun hk=>⟨(h1 hk).1,(h1 hk).2.1,he (h1 hk).2.2⟩,h2,fun hk=>he (h3 hk),fun hk=>⟨(h4 hk).1,he (h4 hk).2⟩,fun hk=>⟨(h5 hk).1,(h5 hk).2.1,?_⟩,fun hk=>⟨(h6 hk).1,(h6 hk).2.1,he (h6 hk).2.2.1,(h6 hk).2.2.2⟩,h7⟩
 show ZeS t.name a.length
 rw [ha]
 exact (h5 hk).2.2
theorem tyN.noBound {n c d:Nat}{t:Ty}(h:tyN n c t)(hk:t.kind≠2):tyN n d t:=by
 obtain ⟨h1,h2,h3,h4,h5⟩:=h
 exact ⟨h1,h2,h3,fun h=>absurd h hk,h5⟩
theorem tyN.noVar {n m c:Nat}{t:Ty}(h:tyN n c t)(hk:t.kind≠1):tyN m c t:=by
 obtain ⟨h1,h2⟩:=h
 exact ⟨fun h=>absurd h hk,h2⟩
theorem Zcq:ZeS [45,62] 2:=.inl ⟨rfl,rfl⟩
theorem ZiS {n c:Nat}{s:Str}{l:List Ty}(hs:ZeS s l.length)(h:∀ x∈l,tyB n c x):tyB n c (.mk 4 s 0 0 l) :=
 Znl.2 ⟨⟨fun hk=>absurd (show (4:Int)=1 from hk) (by decide),fun hk=>absurd (show (4:Int)=2 from hk) (by decide),fun hk=>absurd (show (4:Int)=3 from hk) (by decide),
  fun hk=>absurd (show (4:Int)=2 from hk) (by decide),fun _=>⟨rfl,rfl,hs⟩,fun hk=>absurd (show (4:Int)=5 from hk) (by decide),by show (1:Int)≤4;decide,by show (4:Int)≤5;decide⟩,fun x hx=>h x hx⟩
theorem ZgQ {n:Nat}{s:Str}{l:List Ty}(hs:ZeS s l.length)(h:∀ x∈l,tyS n x):tyS n (.mk 4 s 0 0 l):=ZiS hs h
theorem Ziz {n:Nat}:tyS n (.mk 4 [73,110,116] 0 0 []):=ZgQ (.inr (.inl ⟨rfl,rfl⟩)) fun x hx=>by cases hx
theorem ZfD {n i:Nat}(h:i<n):tyS n (.mk 1 [] i 0 []) :=
 Zev.2 ⟨⟨fun _=>⟨by show (0:Int)≤i;omega,by show (i:Int)<n;omega,rfl⟩,fun hk=>absurd (show (1:Int)=2 from hk) (by decide),fun hk=>absurd (show (1:Int)=3 from hk) (by decide),
  fun hk=>absurd (show (1:Int)=2 from hk) (by decide),fun hk=>absurd (show (1:Int)=4 from hk) (by decide),fun hk=>absurd (show (1:Int)=5 from hk) (by decide),by show (1:Int)≤1;decide,by show (1:Int)≤5;decide⟩,fun x hx=>by cases hx⟩
theorem ZfP {n c i:Nat}(h:i<c):tyB n c (.mk 2 [] i 0 []) :=
 Znl.2 ⟨⟨fun hk=>absurd (show (2:Int)=1 from hk) (by decide),fun _=>by show (0:Int)≤i;omega,fun hk=>absurd (show (2:Int)=3 from hk) (by decide),
  fun _=>⟨by show (i:Int)<c;omega,rfl⟩,fun hk=>absurd (show (2:Int)=4 from hk) (by decide),fun hk=>absurd (show (2:Int)=5 from hk) (by decide),by show (1:Int)≤2;decide,by show (2:Int)≤5;decide⟩,fun x hx=>by cases hx⟩
theorem Zfy {n:Nat}{i h:Int}:tyS n (.mk 3 [] i h []) :=
 Zev.2 ⟨⟨fun hk=>absurd (show (3:Int)=1 from hk) (by decide),fun hk=>absurd (show (3:Int)=2 from hk) (by decide),fun _=>rfl,
  fun hk=>absurd (show (3:Int)=2 from hk) (by decide),fun hk=>absurd (show (3:Int)=4 from hk) (by decide),fun hk=>absurd (show (3:Int)=5 from hk) (by decide),by show (1:Int)≤3;decide,by show (3:Int)≤5;decide⟩,fun x hx=>by cases hx⟩
theorem Zld {n:Nat}{s:Str}(hs:Tryz.nameOk 97 122 s):tyS n (.mk 5 s 0 0 []) :=
 Zev.2 ⟨⟨fun hk=>absurd (show (5:Int)=1 from hk) (by decide),fun hk=>absurd (show (5:Int)=2 from hk) (by decide),fun hk=>absurd (show (5:Int)=3 from hk) (by decide),
  fun hk=>absurd (show (5:Int)=2 from hk) (by decide),fun hk=>absurd (show (5:Int)=4 from hk) (by decide),fun _=>⟨rfl,rfl,rfl,hs⟩,by show (1:Int)≤5;decide,by show (5:Int)≤5;decide⟩,fun x hx=>by cases hx⟩
def ZkR (args:List Ty)(t:Ty):Option Ty:=if t.kind=2∧0≤t.id∧t.id<args.length then args[t.id.toNat]? else none
def Zdf (args:List Ty):Ty→Ty:=Ty.map (ZkR args)
def Zie (s:List AssD)(t:Ty):Ty:=match s.find? (fun a=>decide (a.id=t.id)) with
 | some a=>a.ty
 | none=>t
def Zfq (s:List AssD)(t:Ty):Option Ty:=if t.kind=1 then some (Zie s t) else none
def ZbW (s:List AssD):Ty→Ty:=Ty.map (Zfq s)
def idxS (l:List Str)(s:Str):Int:=match l.findIdx? (fun x=>decide (x=s)) with
 | some i=>i
 | none=>-1
def ZkG (l:List Str)(t:Ty):Option Ty:=if t.kind=5 then some (if idxS l t.name≥0 then .mk 2 [] (idxS l t.name) 0 [] else t) else none
def Zcz (l:List Str):Ty→Ty:=Ty.map (ZkG l)
def Ze9 (t:Ty):Option Ty:=if t.kind=3∧t.home=99 then some (.mk 1 [] (900+t.id) 0 []) else none
def Zc5:Ty→Ty:=Ty.map Ze9
theorem Zi4 {n:Nat}{args:List Ty}(h:∀ x∈args,tyS n x){t:Ty}(ht:tyB n args.length t):tyS n (Zdf args t):=by
 refine Ty.map_all (p:=tyN n args.length) (q:=tyN n 0) ?_ ?_ t ht
 ·intro t u _ hf
  unfold ZkR at hf
  split at hf
  ·exact h u (List.mem_of_getElem? hf)
  ·cases hf
 ·intro t a hp hf ha
  refine (hp.noBound fun hk => ?_).len ha
  have h0:=hp.2.1 hk
  have h1:=(hp.2.2.2.1 hk).1
  unfold ZkR at hf
  rw [if_pos ⟨hk,h0,h1⟩,List.getElem?_eq_none_iff] at hf
  omega
theorem ZeD {m:Nat}(hm:1≤m){args:List Ty}(h:∀ x∈args,x.size≤m)(t:Ty):(Zdf args t).size≤t.size*m:=by
 refine Ty.map_size hm ?_ t
 intro t u hf
 unfold ZkR at hf
 split at hf
 ·have h1:=h u (List.mem_of_getElem? hf)
  have h2:=t.size_pos
  have:=Nat.mul_le_mul_right m h2
  omega
 ·cases hf
theorem Zrt (l:List Str)(s:Str):idxS l s<l.length:=by
 unfold idxS
 cases h:l.findIdx? (fun x=>decide (x=s)) with
 | none=>show (-1:Int)<l.length;omega
 | some i =>
  have:=(List.findIdx?_eq_some_iff_getElem.1 h).1
  show (i:Int)<l.length
  omega
theorem Zjb {n:Nat}{l:List Str}{t:Ty}(ht:tyS n t):tyB n l.length (Zcz l t):=by
 refine Ty.map_all (p:=tyN n 0) (q:=tyN n l.length) ?_ ?_ t ht
 ·intro t u hp hf
  unfold ZkG at hf
  split at hf
  ·cases hf
   split
   ·rename_i hi
    obtain ⟨i,hi2⟩:∃ i:Nat,idxS l t.name=i:=⟨(idxS l t.name).toNat,by omega⟩
    have:=Zrt l t.name
    rw [hi2] at this ⊢
    exact ZfP (by omega)
   ·exact tyB.mono hp (Nat.le_refl n) (Nat.zero_le _)
  ·cases hf
 ·intro t a hp _ ha
  exact (hp.noBound fun hk=>by have h0:=hp.2.1 hk;have h1:=(hp.2.2.2.1 hk).1;omega).len ha
theorem ZeH (l:List Str)(t:Ty):(Zcz l t).size≤t.size:=by
 have h:=Ty.map_size (f:=ZkG l) (m:=1) (Nat.le_refl _) ?_ t
 ·unfold Zcz
  omega
 ·intro t u hf
  unfold ZkG at hf
  split at hf
  ·cases hf
   split
   ·have:=t.size_pos
    rw [Ty.size_leaf]
    omega
   ·omega
  ·cases hf
def ZdU (l:List Int)(t:Ty):Prop:=Ty.all (fun u=>u.kind=1→u.id∈l) t
theorem Zoy {n:Nat}{l:List Int}(t:Ty):tyS n t→ZdU l t→Ty.all (fun u=>tyN n 0 u∧(u.kind=1→u.id∈l)) t:=by
 induction t using Ty.ind with
 | h t ih =>
  intro h1 h2
  exact Ty.all_iff.2 ⟨⟨h1.one,Ty.all.one h2⟩,fun x hx=>ih x hx (h1.arg hx) (Ty.all.arg h2 hx)⟩
theorem ZiY {n m c:Nat}{l:List Int}{s:List AssD}(hs:∀ i∈l,∃ a∈s,a.id=i)(hm:∀ a∈s,tyB m c a.ty){t:Ty}(ht:tyS n t)(hv:ZdU l t):tyB m c (ZbW s t):=by
 refine Ty.map_all (p:=fun u=>tyN n 0 u∧(u.kind=1→u.id∈l)) (q:=tyN m c) ?_ ?_ t (Zoy t ht hv)
 ·intro t u hp hf
  unfold Zfq at hf
  split at hf
  ·rename_i hk
   cases hf
   obtain ⟨a,ha,hai⟩:=hs _ (hp.one.2 hk)
   unfold Zie
   split
   ·rename_i b hb
    exact hm b (List.mem_of_find?_eq_some hb)
   ·rename_i hb
    rw [List.find?_eq_none] at hb
    exact absurd hai (by simpa using hb a ha)
  ·cases hf
 ·intro t a ⟨hp,_⟩ hf ha
  have hk:t.kind≠1:=by
   intro hk
   unfold Zfq at hf
   rw [if_pos hk] at hf
   cases hf
  exact ((hp.noVar hk).noBound fun hk=>by have h0:=hp.2.1 hk;have h1:=(hp.2.2.2.1 hk).1;omega).len ha
theorem Zex {m:Nat}(hm:1≤m){s:List AssD}(h:∀ a∈s,a.ty.size≤m)(t:Ty):(ZbW s t).size≤t.size*m:=by
 refine Ty.map_size hm ?_ t
 intro t u hf
 have h2:=t.size_pos
 unfold Zfq at hf
 split at hf
 ·cases hf
  unfold Zie
  split
  ·rename_i b hb
   have h1:=h b (List.mem_of_find?_eq_some hb)
   have:=Nat.mul_le_mul_right m h2
   omega
  ·have:=Nat.mul_le_mul_left t.size hm
   omega
 ·cases hf
theorem ZjP {s:List AssD}{c:Nat}(t:Ty):tyB 0 c t→ZbW s t=t:=by
 induction t using Ty.ind with
 | h t ih =>
  intro h
  have hk:t.kind≠1:=fun hk=>by
   have:=(h.one.1 hk)
   omega
  have hf:Zfq s t=none:=by unfold Zfq;rw [if_neg hk]
  unfold ZbW
  have e:t.args.map (Ty.map (Zfq s))=t.args:=(List.map_congr_left (g:=id) fun x hx=>ih x hx (h.arg hx)).trans (List.map_id _)
  rw [Ty.map_none hf,e]
  cases t
  rfl
theorem Zkl (t:Ty):(Zc5 t).size≤t.size:=by
 have h:=Ty.map_size (f:=Ze9) (m:=1) (Nat.le_refl _) ?_ t
 ·unfold Zc5
  omega
 ·intro t u hf
  have:=t.size_pos
  unfold Ze9 at hf
  split at hf
  ·cases hf
   rw [Ty.size_leaf]
   omega
  ·cases hf
def ZrE (l:List Int)(t:Ty):Prop:=Ty.all (fun u=>u.kind=3∧u.home=99→0≤u.id∧900+u.id∈l) t
theorem Zrv {l:List Int}{n:Nat}(hl:∀ i∈l,i<n)(t:Ty):tyS 0 t→ZrE l t→tyS n (Zc5 t)∧ZdU l (Zc5 t):=by
 induction t using Ty.ind with
 | h t ih =>
  intro h1 h2
  by_cases hk:t.kind=3∧t.home=99
  ·have hf:Ze9 t=some (.mk 1 [] (900+t.id) 0 []):=by unfold Ze9;rw [if_pos hk]
   obtain ⟨h3,h4⟩:=Ty.all.one h2 hk
   have h5:=hl _ h4
   unfold Zc5
   rw [Ty.map_some hf]
   obtain ⟨i,hi⟩:∃ i:Nat,900+t.id=i:=⟨(900+t.id).toNat,by omega⟩
   rw [hi] at h4 h5 ⊢
   exact ⟨ZfD (by omega),Ty.all_iff.2 ⟨fun _=>h4,fun x hx=>by cases hx⟩⟩
  ·have hf:Ze9 t=none:=by unfold Ze9;rw [if_neg hk]
   have hk1:t.kind≠1:=fun hk=>by
    have:=(h1.one.1 hk)
    omega
   unfold Zc5
   rw [Ty.map_none hf]
   refine ⟨Zev.2 ⟨(h1.one.noVar hk1).len (by simp),?_⟩,Ty.all_iff.2 ⟨fun h=>absurd h hk1,?_⟩⟩
   ·intro x hx
    obtain ⟨y,hy,rfl⟩:=List.mem_map.1 (show x∈t.args.map (Ty.map Ze9) from hx)
    exact (ih y hy (h1.arg hy) (Ty.all.arg h2 hy)).1
   ·intro x hx
    obtain ⟨y,hy,rfl⟩:=List.mem_map.1 (show x∈t.args.map (Ty.map Ze9) from hx)
    exact (ih y hy (h1.arg hy) (Ty.all.arg h2 hy)).2
def leafIn (k:Int)(l:List Ty)(t:Ty):Prop:=Ty.all (fun u=>u.kind=k→u.args=[]→u∈l) t
theorem leafIn.mono {k:Int}{l m:List Ty}(h:∀ x∈l,x∈m){t:Ty}(ht:leafIn k l t):leafIn k m t:=Ty.all.mono (fun _ h1 h2 h3=>h _ (h1 h2 h3)) t ht
end Go.Vs
namespace Go.Vs.Tryz
open Go Go.Vs
variable {A:Zac}
theorem ZnF (l m:List Ty)(hl:l.length≤1073741824)(ih:∀ x∈l,∀ b,∃ r,ZoV r∧(K A).call 52 [tyV x,tyV b] []=some r):∃ r,ZoV r∧(K A).call 107 [tysV l,tysV m] []=some r:=by
 refine Zap _ (vf:=v107) (by kernel_rfl) rfl (by simp) ?_
 unfold v107
 by_cases hn:l.length=m.length
 ·simp (disch:=first|omega|(simp;done)|(simp;omega)) [hn]
  refine Zaf (fun i s=>s=⟨[(0,tysV l),(1,tysV m),(5,intV i)],[]⟩) l.length (by simp) ?_ ?_
  ·rintro i s hi rfl
   obtain ⟨x,hx⟩:=Zaa hi
   obtain ⟨y,hy⟩:=Zaa (l:=m) (i:=i) (by omega)
   obtain ⟨_,⟨b,rfl⟩,hc⟩:=ih x (List.mem_of_getElem? hx) y
   unfold ZhN
   cases b with
   | true=>simp (disch:=first|omega|(simp;done)|(simp;omega)) [hi,hx,hy,hc,-getElem?_pos]
   | false =>
    simp (disch:=first|omega|(simp;done)|(simp;omega)) [hi,hx,hy,hc,-getElem?_pos]
    exact ⟨false,rfl⟩
  ·rintro s rfl
   unfold ZhN
   simp (disch:=first|omega|(simp;done)|(simp;omega))
   exact ⟨true,rfl⟩
 ·have hn':¬(l.length:Int)=m.length:=by omega
  simp (disch:=first|omega|(simp;done)|(simp;omega)) [hn,hn']
  exact ⟨false,rfl⟩
theorem Znk:∀ (n:Nat)(a b:Ty),a.size≤n→n≤1073741824→∃ r,ZoV r∧(K A).call 52 [tyV a,tyV b] []=some r:=by
 intro n
 induction n with
 | zero =>
  intro a b ha
  have:=a.size_pos
  omega
 | succ n ih =>
  intro a b ha hn
  have hal:=a.args_lt
  obtain ⟨_,⟨v,rfl⟩,hc⟩:=ZnF (A:=A) a.args b.args (by omega) (fun x hx b=>ih x b (by have:=Ty.arg_lt hx;omega) (by omega))
  refine Zap _ (vf:=v52) (by kernel_rfl) rfl (by simp) ?_
  unfold v52
  by_cases h1:a.kind=b.kind
  ·by_cases h2:a.name=b.name
   ·by_cases h3:a.id=b.id
    ·by_cases h4:a.home=b.home
     ·simp (disch:=first|omega|(simp;done)|(simp;omega)) [h1,h2,h3,h4,hc]
      exact ⟨v,rfl⟩
     ·simp (disch:=first|omega|(simp;done)|(simp;omega)) [h1,h2,h3,h4,hc]
      exact ⟨false,rfl⟩
    ·simp (disch:=first|omega|(simp;done)|(simp;omega)) [h1,h2,h3,hc]
     exact ⟨false,rfl⟩
   ·simp (disch:=first|omega|(simp;done)|(simp;omega)) [h1,h2,hc]
    exact ⟨false,rfl⟩
  ·simp (disch:=first|omega|(simp;done)|(simp;omega)) [h1,hc]
   exact ⟨false,rfl⟩
def LeafP (n m:Nat)(r:V × List Obj):Prop:=∃ out:List Ty,n≤out.length∧out.length≤m∧(∀ x∈out,x.size≤1073741824)∧r=(.sc (.arr 0 out.length),[.arr 5 (wr (Ty.rows out)) 0])
def VarsP (m:Nat)(r:V × List Obj):Prop:=∃ ids:List Int,ids.length≤m∧r=(Zci ids,[])
variable {A:Zac}
def TyP (r:V × List Obj):Prop:=∃ t:Ty,r=(tyV t,[])
def CloseP (r:V × List Obj):Prop:=∃ (c:Int)(t:Ty),r=(schV c t,[])
theorem ZcZ {m:Nat}:∀ {l:List Ty},(∀ x∈l,x.size≤m)→(l.map Ty.size).sum≤l.length*m
 | [],_=>by simp
 | a::r,h=>by
  have h1:=h a (by simp)
  have h2:=ZcZ (l:=r) fun x hx=>h x (by simp [hx])
  simp only [List.map_cons,List.sum_cons,List.length_cons,Nat.succ_mul]
  omega
def TypeS (L:List Int)(m:Nat)(r:V × List Obj):Prop:=∃ t J,t.size≤m∧J≤L.length∧r=(tyV t,[Zan L J])
def TypeJ (L:List Int)(ds:List DataD)(ls:List Ty)(dd:DataD)(d i:Nat)(s:St):Prop:=∃ tys J,tys.length=i∧(∀ x∈tys,x.size≤5 ^ d)∧J≤L.length ∧
 s=⟨[(0,.sc (.ptr 0 0)),(1,Zal ds),(2,tysV ls),(3,intV (d+1)),(8,.sc (.ptr 64 0)),(10,.sc (.ptr 3392 0)),(11,.sc (.arr 3521 i)),(12,intV i)],
  [(0,some (Zan L J)),(64,some (.box [zi,zs,zi,zi,.nil])),(3392,some (.box (wc (Zau dd)))),(3521,some (.arr 5 (wr (Ty.rows tys)) 0))]⟩
variable {A:Zac}
theorem ZcO (t:Ty):(∃ a b,t.args=[a,b]∧(K A).call 84 [tyV t] []=some (.tu [tyV a,tyV b,ZaG true],[]))∨(K A).call 84 [tyV t] []=some (.tu [tyV (.mk 0 [] 0 0 []),tyV (.mk 0 [] 0 0 []),ZaG false],[]):=by
 by_cases h:t.kind=4∧t.name=[45,62]∧t.args.length=2
 ·obtain ⟨h1,h2,h3⟩:=h
  left
  obtain ⟨a,b,hab⟩:∃ a b,t.args=[a,b]:=by
   match hl:t.args,h3 with
   | [a,b],_=>exact ⟨a,b,rfl⟩
  refine ⟨a,b,hab,?_⟩
  have hr:Ty.rows [a,b]=[a.row,b.row]:=by simp [Ty.rows]
  refine ZaW (vf:=v84) (by kernel_rfl) rfl (by simp) ?_
  unfold v84
  simp (disch:=first|omega|(simp;done)|(simp;omega)) [h1,h2,hab,hr]
 ·right
  refine ZaW (vf:=v84) (by kernel_rfl) rfl (by simp) ?_
  unfold v84
  by_cases h1:t.kind=4
  ·by_cases h2:t.name=[45,62]
   ·have h3:¬t.args.length=2:=fun h3=>h ⟨h1,h2,h3⟩
    have h3':¬(t.args.length:Int)=2:=by omega
    simp (disch:=first|omega|(simp;done)|(simp;omega)) [h1,h2,h3,h3',Ty.row]
   ·simp (disch:=first|omega|(simp;done)|(simp;omega)) [h1,h2,Ty.row]
  ·simp (disch:=first|omega|(simp;done)|(simp;omega)) [h1,Ty.row]
def HasK (k:Int)(t:Ty)(r:V × List Obj):Prop:=∃ b:Bool,(b=false→Ty.all (fun u=>u.kind≠k) t)∧r=(ZaG b,[])
theorem ZgF (k:Int)(t:Ty):t.size≤1073741824→∃ r,HasK k t r∧(K A).call 88 [tyV t,intV k] []=some r:=by
 induction t using Ty.ind with
 | h t ih =>
 intro ht
 have hal:=t.args_lt
 refine Zap _ (vf:=v88) (by kernel_rfl) rfl (by simp) ?_
 unfold v88
 by_cases h1:t.kind=k
 ·simp (disch:=first|omega|(simp;done)|(simp;omega)) [h1]
  exact ⟨true,fun h=>(by cases h),rfl⟩
 ·simp (disch:=first|omega|(simp;done)|(simp;omega)) [h1]
  refine Zaf (fun i s=>(∀ (j:Nat) y,j<i→t.args[j]?=some y→Ty.all (fun u=>u.kind≠k) y)∧s=⟨[(1,intV k),(2,.sc (.ptr 64 0)),(5,intV i)],[(64,some (.box (wc t.row)))]⟩) t.args.length ⟨by omega,by simp⟩ ?_ ?_
  ·rintro i s hi ⟨hno,rfl⟩
   obtain ⟨x,hx⟩:=Zaa hi
   have hxs:=Ty.arg_lt (List.mem_of_getElem? hx)
   obtain ⟨_,⟨b,hb,rfl⟩,hc⟩:=ih x (List.mem_of_getElem? hx) (by omega)
   unfold ZrT
   cases b with
   | true =>
    simp (disch:=first|omega|(simp;done)|(simp;omega)) [hi,hx,hc,-getElem?_pos]
    exact ⟨true,fun h=>(by cases h),rfl⟩
   | false =>
    simp (disch:=first|omega|(simp;done)|(simp;omega)) [hi,hx,hc,-getElem?_pos]
    intro j y hj hy
    by_cases hji:j<i
    ·exact hno j y hji hy
    ·obtain rfl:j=i:=by omega
     rw [hx] at hy
     cases hy
     exact hb rfl
  ·rintro s ⟨hno,rfl⟩
   unfold ZrT
   simp (disch:=first|omega|(simp;done)|(simp;omega)) [-getElem?_pos]
   refine ⟨false,fun _=>Ty.all_iff.2 ⟨h1,fun y hy => ?_⟩,rfl⟩
   obtain ⟨j,hj,he⟩:=List.getElem_of_mem hy
   exact hno j y hj (by rw [List.getElem?_eq_getElem hj,he])
theorem ZqS {l:List Str}{s:Str}{i:Nat}(h:l[i]?=some s)(hn:∀ j,j<i→l[j]?≠some s):idxS l s=i:=by
 unfold idxS
 have:l.findIdx? (fun x=>decide (x=s))=some i:=by
  rw [List.findIdx?_eq_some_iff_getElem]
  obtain ⟨hi,he⟩:=List.getElem?_eq_some_iff.1 h
  refine ⟨hi,by simpa using he,fun j hj => ?_⟩
  have:=hn j hj
  rw [List.getElem?_eq_getElem (by omega)] at this
  simpa using this
 rw [this]
theorem Zmb {l:List Str}{s:Str}(hn:∀ j:Nat,j<l.length→l[j]?≠some s):idxS l s=-1:=by
 unfold idxS
 have:l.findIdx? (fun x=>decide (x=s))=none:=by
  rw [List.findIdx?_eq_none_iff]
  intro x hx
  obtain ⟨j,hj,rfl⟩:=List.getElem_of_mem hx
  have:=hn j hj
  rw [List.getElem?_eq_getElem hj] at this
  simpa using this
 rw [this]
theorem Zj6 (l:List Str)(s:Str)(h:l.length≤1073741824):(K A).call 168 [Zdo l,strV s] []=some (intV (idxS l s),[]):=by
 refine ZaW (vf:=v168) (by kernel_rfl) rfl (by simp) ?_
 unfold v168
 simp (disch:=first|omega|(simp;done)|(simp;omega))
 refine Zaf (fun i t=>(∀ j,j<i→l[j]?≠some s)∧t=⟨[(0,Zdo l),(1,strV s),(5,intV i)],[]⟩) l.length ⟨by simp,by simp⟩ ?_ ?_
 ·rintro i t hi ⟨hn,rfl⟩
  obtain ⟨x,hx⟩:=Zaa hi
  unfold Zmr
  by_cases hxs:x=s
  ·subst hxs
   have:=ZqS hx hn
   simp (disch:=first|omega|(simp;done)|(simp;omega)) [hi,hx,this,-getElem?_pos]
  ·simp (disch:=first|omega|(simp;done)|(simp;omega)) [hi,hx,hxs,-getElem?_pos]
   intro j hj
   by_cases hji:j<i
   ·exact hn j hji
   ·obtain rfl:j=i:=by omega
    rw [hx]
    simpa using hxs
 ·rintro t ⟨hn,rfl⟩
  have:=Zmb hn
  unfold Zmr
  simp (disch:=first|omega|(simp;done)|(simp;omega)) [this,-getElem?_pos]
theorem Zd6 (t:Ty)(l:List Ty):(Ty.mk t.kind t.name t.id t.home l).row=[.int .i64 t.kind,.str t.name,.int .i64 t.id,.int .i64 t.home,.sl (Ty.rows l)]:=by rw [Ty.row]
theorem Zjg (l:List Str)(hl:l.length≤1073741824)(t:Ty):t.size≤1073741824→(K A).call 117 [tyV t,Zdo l] []=some (tyV (Zcz l t),[]):=by
 induction t using Ty.ind with
 | h t ih =>
 intro ht
 have hal:=t.args_lt
 refine ZaW (vf:=v117) (by kernel_rfl) rfl (by simp) ?_
 unfold v117
 by_cases h1:t.kind=5
 ·have hx:=Zj6 (A:=A) l t.name hl
  have hb:=ZgM (A:=A) (idxS l t.name)
  have hm:Zcz l t=if idxS l t.name≥0 then .mk 2 [] (idxS l t.name) 0 [] else t:=Ty.map_some (by unfold ZkG;rw [if_pos h1])
  by_cases h2:idxS l t.name≥0
  ·rw [if_pos h2] at hm
   simp (disch:=first|omega|(simp;done)|(simp;omega)) [h1,hx,h2,hb,hm]
  ·rw [if_neg h2] at hm
   simp (disch:=first|omega|(simp;done)|(simp;omega)) [h1,hx,h2,hm]
 ·have hm:Zcz l t=.mk t.kind t.name t.id t.home (t.args.map (Zcz l)):=Ty.map_none (by unfold ZkG;rw [if_neg h1])
  simp (disch:=first|omega|(simp;done)|(simp;omega)) [h1]
  simp (disch:=first|omega|(simp;done)|(simp;omega)) [Ty.row_eq t]
  refine Zaf (fun i st=>st=⟨[(1,Zdo l),(2,.sc (.ptr 64 0)),(4,.sc (.ptr 128 0)),(6,.sc (.ptr 1216 0)),(7,intV i)],
   [(64,some (.box [.c (.int .i64 t.kind),.c (.str t.name),.c (.int .i64 t.id),.c (.int .i64 t.home),.c (.sl (Ty.rows t.args))])),(128,some (.box [zi,zs,zi,zi,.nil])),
     (1216,some (.box [.c (.int .i64 t.kind),.c (.str t.name),.c (.int .i64 t.id),.c (.int .i64 t.home),.arr 1409 i])),(1409,some (.arr 5 (wr (Ty.rows ((t.args.map (Zcz l)).take i))) 0))]⟩) t.args.length (by simp) ?_ ?_
  ·rintro i st hi rfl
   obtain ⟨x,hx⟩:=Zaa hi
   have hxs:=Ty.arg_lt (List.mem_of_getElem? hx)
   have hc:=ih x (List.mem_of_getElem? hx) (by omega)
   have hmx:(t.args.map (Zcz l))[i]?=some (Zcz l x):=by rw [List.getElem?_map,hx];rfl
   have hlen:((t.args.map (Zcz l)).take i).length=i:=by simp;omega
   unfold ZmK
   simp (disch:=first|omega|(simp;done)|(simp;omega)) [hi,hx,hc,hlen,ZaQ hmx,-getElem?_pos]
  ·rintro st rfl
   have htk:(t.args.map (Zcz l)).take t.args.length=t.args.map (Zcz l):=List.take_of_length_le (by simp)
   unfold ZmK
   simp (disch:=first|omega|(simp;done)|(simp;omega)) [htk,hm,Zd6,-getElem?_pos]
variable {A:Zac}
theorem ZiZ (args:List Ty)(hl:args.length≤1073741824)(t:Ty):t.size≤1073741824→(K A).call 119 [tyV t,tysV args] []=some (tyV (Zdf args t),[]):=by
 induction t using Ty.ind with
 | h t ih =>
 intro ht
 have hal:=t.args_lt
 refine ZaW (vf:=v119) (by kernel_rfl) rfl (by simp) ?_
 unfold v119
 by_cases h1:t.kind=2∧0≤t.id∧t.id<args.length
 ·obtain ⟨ha,hb,hc⟩:=h1
  obtain ⟨k,hk⟩:∃ k:Nat,t.id=k:=⟨t.id.toNat,by omega⟩
  obtain ⟨x,hx⟩:=Zaa (l:=args) (i:=k) (by omega)
  have hm:Zdf args t=x:=Ty.map_some (by unfold ZkR;rw [if_pos ⟨ha,hb,hc⟩,hk];simpa using hx)
  have hk2:(k:Int)<args.length:=by omega
  simp (disch:=first|omega|(simp;done)|(simp;omega)) [ha,hk,hk2,hx,hm,-getElem?_pos]
 ·have hm:Zdf args t=.mk t.kind t.name t.id t.home (t.args.map (Zdf args)):=Ty.map_none (by unfold ZkR;rw [if_neg h1])
  have fin:wp (K A) (.loop ZjS) (Zby 0 (Zcv (K A) (.seq (.region [] [o 48 (.ldD true 5 (tv 5)),on (.store 5 (tv 4) (tv 48) [])] [] [4]) .ret) (ZeV false 0 [.cell 4 true 5] (tyV (Zdf args t),[]))))
   ⟨[(1,tysV args),(2,.sc (.ptr 64 0)),(4,.sc (.ptr 128 0)),(5,.sc (.ptr 1600 0)),(6,intV 0)],
     [(64,some (.box [.c (.int .i64 t.kind),.c (.str t.name),.c (.int .i64 t.id),.c (.int .i64 t.home),.c (.sl (Ty.rows t.args))])),(128,some (.box [zi,zs,zi,zi,.nil])),
       (1600,some (.box [.c (.int .i64 t.kind),.c (.str t.name),.c (.int .i64 t.id),.c (.int .i64 t.home),.arr 1793 0])),(1793,some (.arr 5 [] 0))]⟩:=by
   refine Zaf (fun i st=>st=⟨[(1,tysV args),(2,.sc (.ptr 64 0)),(4,.sc (.ptr 128 0)),(5,.sc (.ptr 1600 0)),(6,intV i)],
    [(64,some (.box [.c (.int .i64 t.kind),.c (.str t.name),.c (.int .i64 t.id),.c (.int .i64 t.home),.c (.sl (Ty.rows t.args))])),(128,some (.box [zi,zs,zi,zi,.nil])),
      (1600,some (.box [.c (.int .i64 t.kind),.c (.str t.name),.c (.int .i64 t.id),.c (.int .i64 t.home),.arr 1793 i])),(1793,some (.arr 5 (wr (Ty.rows ((t.args.map (Zdf args)).take i))) 0))]⟩) t.args.length (by simp) ?_ ?_
   ·rintro i st hi rfl
    obtain ⟨x,hx⟩:=Zaa hi
    have hxs:=Ty.arg_lt (List.mem_of_getElem? hx)
    have hc:=ih x (List.mem_of_getElem? hx) (by omega)
    have hmx:(t.args.map (Zdf args))[i]?=some (Zdf args x):=by rw [List.getElem?_map,hx];rfl
    have hlen:((t.args.map (Zdf args)).take i).length=i:=by simp;omega
    unfold ZjS
    simp (disch:=first|omega|(simp;done)|(simp;omega)) [hi,hx,hc,hlen,ZaQ hmx,-getElem?_pos]
   ·rintro st rfl
    have htk:(t.args.map (Zdf args)).take t.args.length=t.args.map (Zdf args):=List.take_of_length_le (by simp)
    unfold ZjS
    simp (disch:=first|omega|(simp;done)|(simp;omega)) [htk,hm,Zd6,-getElem?_pos]
  by_cases ha:t.kind=2
  ·by_cases hb:0≤t.id
   ·have hc:¬t.id<args.length:=fun hc=>h1 ⟨ha,hb,hc⟩
    simp (disch:=first|omega|(simp;done)|(simp;omega)) [ha,hb,hc]
    simp (disch:=first|omega|(simp;done)|(simp;omega)) [Ty.row_eq t]
    exact fin
   ·simp (disch:=first|omega|(simp;done)|(simp;omega)) [ha,hb]
    simp (disch:=first|omega|(simp;done)|(simp;omega)) [Ty.row_eq t]
    exact fin
  ·simp (disch:=first|omega|(simp;done)|(simp;omega)) [ha]
   simp (disch:=first|omega|(simp;done)|(simp;omega)) [Ty.row_eq t]
   exact fin
def rigB (t:Ty):Prop:=Ty.all (fun u=>u.kind=3∧u.home=99→0≤u.id∧u.id≤1000) t
theorem ZrD (t:Ty):t.size≤1073741824→rigB t→(K A).call 188 [tyV t] []=some (tyV (Zc5 t),[]):=by
 induction t using Ty.ind with
 | h t ih =>
 intro ht hr
 have hal:=t.args_lt
 refine ZaW (vf:=v188) (by kernel_rfl) rfl (by simp) ?_
 unfold v188
 by_cases h1:t.kind=3∧t.home=99
 ·obtain ⟨ha,hb⟩:=h1
  have hv:=Zmg (A:=A) (900+t.id)
  have hm:Zc5 t=.mk 1 [] (900+t.id) 0 []:=Ty.map_some (by unfold Ze9;rw [if_pos ⟨ha,hb⟩])
  obtain ⟨hr1,hr2⟩:=Ty.all.one hr ⟨ha,hb⟩
  simp (disch:=first|omega|(simp;done)|(simp;omega)) [ha,hb,hv,hm]
 ·have hm:Zc5 t=.mk t.kind t.name t.id t.home (t.args.map Zc5):=Ty.map_none (by unfold Ze9;rw [if_neg h1])
  have fin:wp (K A) (.loop ZjR) (Zby 0 (Zcv (K A) (.seq (.region [] [o 37 (.ldD true 5 (tv 3)),on (.store 5 (tv 2) (tv 37) [])] [] [2]) .ret) (ZeV false 0 [.cell 2 true 5] (tyV (Zc5 t),[]))))
   ⟨[(1,.sc (.ptr 64 0)),(2,.sc (.ptr 128 0)),(3,.sc (.ptr 1088 0)),(4,intV 0)],
     [(64,some (.box [.c (.int .i64 t.kind),.c (.str t.name),.c (.int .i64 t.id),.c (.int .i64 t.home),.c (.sl (Ty.rows t.args))])),(128,some (.box [zi,zs,zi,zi,.nil])),
       (1088,some (.box [.c (.int .i64 t.kind),.c (.str t.name),.c (.int .i64 t.id),.c (.int .i64 t.home),.arr 1281 0])),(1281,some (.arr 5 [] 0))]⟩:=by
   refine Zaf (fun i st=>st=⟨[(1,.sc (.ptr 64 0)),(2,.sc (.ptr 128 0)),(3,.sc (.ptr 1088 0)),(4,intV i)],
    [(64,some (.box [.c (.int .i64 t.kind),.c (.str t.name),.c (.int .i64 t.id),.c (.int .i64 t.home),.c (.sl (Ty.rows t.args))])),(128,some (.box [zi,zs,zi,zi,.nil])),
      (1088,some (.box [.c (.int .i64 t.kind),.c (.str t.name),.c (.int .i64 t.id),.c (.int .i64 t.home),.arr 1281 i])),(1281,some (.arr 5 (wr (Ty.rows ((t.args.map Zc5).take i))) 0))]⟩) t.args.length (by simp) ?_ ?_
   ·rintro i st hi rfl
    obtain ⟨x,hx⟩:=Zaa hi
    have hxs:=Ty.arg_lt (List.mem_of_getElem? hx)
    have hc:=ih x (List.mem_of_getElem? hx) (by omega) (Ty.all.arg hr (List.mem_of_getElem? hx))
    have hmx:(t.args.map Zc5)[i]?=some (Zc5 x):=by rw [List.getElem?_map,hx];rfl
    have hlen:((t.args.map Zc5).take i).length=i:=by simp;omega
    unfold ZjR
    simp (disch:=first|omega|(simp;done)|(simp;omega)) [hi,hx,hc,hlen,ZaQ hmx,-getElem?_pos]
   ·rintro st rfl
    have htk:(t.args.map Zc5).take t.args.length=t.args.map Zc5:=List.take_of_length_le (by simp)
    unfold ZjR
    simp (disch:=first|omega|(simp;done)|(simp;omega)) [htk,hm,Zd6,-getElem?_pos]
  by_cases ha:t.kind=3
  ·have hb:¬t.home=99:=fun hb=>h1 ⟨ha,hb⟩
   simp (disch:=first|omega|(simp;done)|(simp;omega)) [ha,hb]
   simp (disch:=first|omega|(simp;done)|(simp;omega)) [Ty.row_eq t]
   exact fin
  ·simp (disch:=first|omega|(simp;done)|(simp;omega)) [ha]
   simp (disch:=first|omega|(simp;done)|(simp;omega)) [Ty.row_eq t]
   exact fin
end Go.Vs.Tryz
