/- The value semantics, 21: what an operation depends on. (Parts of one proof, put together.) -/
import Derived.Test.YtccmnfpbcmccpaaGreatDoorM2c
import Derived.Orders
import Derived.RangeFuncNested
import Derived.RangeFuncLeaves
import Derived.IntWalk
set_option linter.unusedSimpArgs false
set_option linter.unusedVariables false
set_option linter.deprecated false
set_option maxHeartbeats 2000000
namespace Go.Vs
open Go
def Opd.tmps:Opd→List Nat
 | .t n=>[n]
 | _=>[]
def Zet:Option Opd→List Nat
 | some x=>x.tmps
 | none=>[]
def VOp.tmps:VOp→List Nat
 | .mv x | .un _ x | .box x | .load _ _ x | .fld _ x | .part _ _ _ x | .len _ x | .ldD _ _ x | .mvD x | .appN _ _ x | .cvB x | .cvS x | .clr _ _ x | .mkS _ _ _ x | .ext _ x | .cvI _ x | .ifc _ x | .nn x=>x.tmps
 | .pick c x y=>c.tmps++x.tmps++y.tmps
 | .bin _ _ x y | .store _ x y _ | .idxA _ x y | .idxAA _ _ x y | .idxS x y | .mx x y | .mn x y | .app _ _ _ x y | .cp _ x y | .appF _ _ x y=>x.tmps++y.tmps
 | .new _ _ | .newA _ _ | .bad | .mkE=>[]
 | .build _ ps | .bldD _ ps=>ps.flatMap fun p=>p.2.2.tmps
 | .mkSl _ xs | .fn _ xs=>xs.flatMap Opd.tmps
 | .slS x lo hi | .slA _ _ x lo hi=>x.tmps++Zet lo++Zet hi
 | .sl _ x lo hi m3=>x.tmps++Zet lo++Zet hi++Zet m3
 | .call f args _=>f.tmps++args.flatMap fun x=>x.2.tmps
def VOper.tmps (o:VOper):List Nat:=(match o.guard with | some (t,_)=>[t] | none=>[])++o.op.tmps
section
variable {C:Ctx}{E E':Nat→Option V}{L L':Nat→Option Obj}
theorem Opd.val_congr {x:Opd}(h:∀ t∈x.tmps,E t=E' t):x.val C E=x.val C E':=by
 cases x with
 | t n=>simp only [Opd.val];rw [h n (by simp [Opd.tmps])]
 | g n=>rfl
 | k v=>rfl
theorem Zck {x:Option Opd}(h:∀ t∈Zet x,E t=E' t):x.map (·.val C E)=x.map (·.val C E'):=by
 cases x with
 | none=>rfl
 | some x=>simp only [Option.map_some];rw [Opd.val_congr (fun t ht=>h t ht)]
theorem ZaD {α γ:Type}{f g:α→Option γ}:∀ {l:List α},(∀ x∈l,f x=g x)→Zad f l=Zad g l
 | [],_=>rfl
 | x::l,h=>by simp only [Zad];rw [h x (by simp),ZaD (fun y hy=>h y (by simp [hy]))]
theorem ZqG {op:VOp}{oid:Nat}(h:∀ t∈op.tmps,E t=E' t):Zae C E L oid op=Zae C E' L oid op:=by
 cases op<;>simp only [VOp.tmps,List.mem_append] at h<;>simp only [Zae]
 case mv x=>rw [Opd.val_congr h]
 case pick c x y=>rw [Opd.val_congr fun t ht=>h t (.inl (.inl ht)),Opd.val_congr fun t ht=>h t (.inl (.inr ht)),Opd.val_congr fun t ht=>h t (.inr ht)]
 case bin b tag x y=>rw [Opd.val_congr fun t ht=>h t (.inl ht),Opd.val_congr fun t ht=>h t (.inr ht)]
 case un b x=>rw [Opd.val_congr h]
 case box x=>rw [Opd.val_congr h]
 case build zero ps =>
  have e:Zad (Zct C E) ps=Zad (Zct C E') ps:=ZaD fun x hx=>by
   simp only [Zct,Opd.val_congr (C:=C) fun t ht=>h t (List.mem_flatMap.2 ⟨x,hx,ht⟩)]
  show (match Zad (Zct C E) ps with | none=>none | some ps=>(Zc2 zero ps).map fun cs=>(V.ag cs,([]:Upd)))=_
  rw [e];rfl
 case bldD zero ps =>
  have e:Zad (Zct C E) ps=Zad (Zct C E') ps:=ZaD fun x hx=>by
   simp only [Zct,Opd.val_congr (C:=C) fun t ht=>h t (List.mem_flatMap.2 ⟨x,hx,ht⟩)]
  show (match Zad (Zct C E) ps with | none=>none | some ps=>(Zc2 zero ps).bind fun cs=>Zc7 L (V.ag cs))=_
  rw [e];rfl
 case mkSl s xs =>
  have e:Zad (Zhf C E s) xs=Zad (Zhf C E' s) xs:=ZaD fun x hx=>by
   simp only [Zhf,Opd.val_congr (C:=C) fun t ht=>h t (List.mem_flatMap.2 ⟨x,hx,ht⟩)]
  show (match L oid with
   | some _=>none
   | none=>match Zad (Zhf C E s) xs with
    | none=>none
    | some rows=>some (V.sc (W.arr oid rows.length),[(oid,some (Obj.arr s rows 0))]))=_
  rw [e];rfl
 case load ag n x=>rw [Opd.val_congr h]
 case store n x y own=>rw [Opd.val_congr fun t ht=>h t (.inl ht),Opd.val_congr fun t ht=>h t (.inr ht)]
 case fld off x=>rw [Opd.val_congr h]
 case part ag off n x=>rw [Opd.val_congr h]
 case idxA s x y=>rw [Opd.val_congr fun t ht=>h t (.inl ht),Opd.val_congr fun t ht=>h t (.inr ht)]
 case idxAA s len x y=>rw [Opd.val_congr fun t ht=>h t (.inl ht),Opd.val_congr fun t ht=>h t (.inr ht)]
 case idxS x y=>rw [Opd.val_congr fun t ht=>h t (.inl ht),Opd.val_congr fun t ht=>h t (.inr ht)]
 case slS x lo hi=>rw [Opd.val_congr fun t ht=>h t (.inl (.inl ht)),Zck fun t ht=>h t (.inl (.inr ht)),Zck fun t ht=>h t (.inr ht)]
 case sl s x lo hi mx=>rw [Opd.val_congr fun t ht=>h t (.inl (.inl (.inl ht))),Zck fun t ht=>h t (.inl (.inl (.inr ht))),Zck fun t ht=>h t (.inl (.inr ht)),Zck fun t ht=>h t (.inr ht)]
 case len str x=>rw [Opd.val_congr h]
 case mx x y=>rw [Opd.val_congr fun t ht=>h t (.inl ht),Opd.val_congr fun t ht=>h t (.inr ht)]
 case mn x y=>rw [Opd.val_congr fun t ht=>h t (.inl ht),Opd.val_congr fun t ht=>h t (.inr ht)]
 case app s bytes mk x y=>rw [Opd.val_congr fun t ht=>h t (.inl ht),Opd.val_congr fun t ht=>h t (.inr ht)]
 case mkS s bytes zero x=>rw [Opd.val_congr h]
 case fn f xs =>
  rw [show xs.map (·.val C E)=xs.map (·.val C E') from List.map_congr_left fun x hx=>Opd.val_congr fun t ht=>h t (List.mem_flatMap.2 ⟨x,hx,ht⟩)]
 case call f args own =>
  rw [Opd.val_congr fun t ht=>h t (.inl ht),show vals C E args=vals C E' args from List.map_congr_left fun x hx=>by rw [Opd.val_congr fun t ht=>h t (.inr (List.mem_flatMap.2 ⟨x,hx,ht⟩))]]
 case ext i x=>rw [Opd.val_congr h]
 case cvI k x=>rw [Opd.val_congr h]
 case ifc t x=>rw [Opd.val_congr h]
 case nn x=>rw [Opd.val_congr h]
 case ldD ag n x=>rw [Opd.val_congr h]
 case mvD x=>rw [Opd.val_congr h]
 case cvB x=>rw [Opd.val_congr h]
 case cvS x=>rw [Opd.val_congr h]
 case slA s n x lo hi=>rw [Opd.val_congr fun t ht=>h t (.inl (.inl ht)),Zck fun t ht=>h t (.inl (.inr ht)),Zck fun t ht=>h t (.inr ht)]
 case clr s zero x=>rw [Opd.val_congr h]
 case appN s bytes x=>rw [Opd.val_congr h]
 case appF s bytes x y=>rw [Opd.val_congr fun t ht=>h t (.inl ht),Opd.val_congr fun t ht=>h t (.inr ht)]
 case cp s x y=>rw [Opd.val_congr fun t ht=>h t (.inl ht),Opd.val_congr fun t ht=>h t (.inr ht)]
theorem Zpz {o:VOper}(h:∀ t∈o.tmps,E t=E' t):runO C o E L=runO C o E' L:=by
 have h1:Zae C E L o.oid o.op=Zae C E' L o.oid o.op:=ZqG fun t ht=>h t (by simp [VOper.tmps,ht])
 unfold runO
 cases hg:o.guard with
 | none=>simp only [h1]
 | some g =>
  obtain ⟨t,want⟩:=g
  simp only [h1,h t (by simp [VOper.tmps,hg])]
theorem Zpl {o:VOper}{u:Upd}(h:∀ t∈o.tmps,E t=E' t):recO C E L o u=recO C E' L o u:=by
 have h':∀ t∈o.op.tmps,E t=E' t:=fun t ht=>h t (by simp [VOper.tmps,ht])
 unfold recO
 split
 ·rfl
 ·cases hop:o.op<;>rw [hop] at h'<;>simp only [VOp.tmps,List.mem_append] at h'<;>try rfl
  case new cells own=>cases own<;>rfl
  case load ag n x=>simp only [Opd.val_congr h']
  case fld off x=>simp only [Opd.val_congr h']
  case nn x=>simp only [Opd.val_congr h']
  case ldD ag n x=>simp only [Opd.val_congr h']
  case store n x y own=>simp only [Opd.val_congr (C:=C) fun t ht=>h' t (.inl ht)]
  case len str x=>simp only [Opd.val_congr h']
  case clr s zero x=>simp only [Opd.val_congr h']
  case cvS x=>simp only [Opd.val_congr h']
  case slA s n x lo hi=>simp only [Opd.val_congr (C:=C) fun t ht=>h' t (.inl (.inl ht))]
  case idxA s x y=>simp only [Opd.val_congr (C:=C) fun t ht=>h' t (.inl ht)]
  case idxAA s len x y=>simp only [Opd.val_congr (C:=C) fun t ht=>h' t (.inl ht)]
  case sl s x lo hi mx=>simp only [Opd.val_congr (C:=C) fun t ht=>h' t (.inl (.inl (.inl ht)))]
  case app s bytes mk x y =>
   cases mk with
   | false=>simp only [Opd.val_congr (C:=C) fun t ht=>h' t (.inl ht),Opd.val_congr (C:=C) fun t ht=>h' t (.inr ht)]
   | true=>simp only [Opd.val_congr (C:=C) fun t ht=>h' t (.inl ht),Opd.val_congr (C:=C) fun t ht=>h' t (.inr ht)]
  case cp s x y=>simp only [Opd.val_congr (C:=C) fun t ht=>h' t (.inl ht),Opd.val_congr (C:=C) fun t ht=>h' t (.inr ht)]
  case appN s bytes x=>simp only [Opd.val_congr h']
  case appF s bytes x y=>simp only [Opd.val_congr (C:=C) fun t ht=>h' t (.inr ht)]
  case call f args own =>
   cases own with
   | cons _ _=>rfl
   | nil =>
    have e:vals C E args=vals C E' args:=List.map_congr_left fun x hx=>by
     rw [Opd.val_congr (C:=C) fun t ht=>h' t (.inr (List.mem_flatMap.2 ⟨x,hx,ht⟩))]
    simp only [Opd.val_congr (C:=C) fun t ht=>h' t (.inl ht),e]
theorem Zq4:∀ (d:Nat)(x:W),W.refs d x=[]→W.toC L d x=W.toC L' d x∧W.ids L d x=[]∧W.ids L' d x=[]:=by
 intro d
 induction d with
 | zero=>intro x h;cases x<;>simp_all [W.refs,W.toC,W.ids]
 | succ d ih =>
  have hl:∀ l:List W,l.flatMap (W.refs d)=[]→Zad (W.toC L d) l=Zad (W.toC L' d) l∧l.flatMap (W.ids L d)=[]∧l.flatMap (W.ids L' d)=[]:=by
   intro l h
   rw [List.flatMap_eq_nil_iff] at h
   refine ⟨ZaD fun x hx=>(ih x (h x hx)).1,?_,?_⟩
   ·rw [List.flatMap_eq_nil_iff];exact fun x hx=>(ih x (h x hx)).2.1
   ·rw [List.flatMap_eq_nil_iff];exact fun x hx=>(ih x (h x hx)).2.2
  intro x h
  cases x<;>simp only [W.refs,reduceCtorEq] at h
  case clo f ones caps =>
   rw [List.flatMap_eq_nil_iff] at h
   simp only [W.toC,W.ids]
   refine ⟨by rw [ZaD fun r hr=>(hl r (h r hr)).1],?_,?_⟩
   ·rw [List.flatMap_eq_nil_iff];exact fun r hr=>(hl r (h r hr)).2.1
   ·rw [List.flatMap_eq_nil_iff];exact fun r hr=>(hl r (h r hr)).2.2
  case ifw t one row =>
   simp only [W.toC,W.ids]
   exact ⟨by rw [(hl row h).1],(hl row h).2⟩
  all_goals simp [W.toC,W.ids]
theorem toD_L {x:V}(h:x.refs=[]):x.toD L=x.toD L'∧x.cells.flatMap (W.ids L deep)=[]:=by
 cases x with
 | sc x =>
  have h':W.refs deep x=[]:=by simpa [V.refs,V.cells] using h
  obtain ⟨h1,h2,_⟩:=Zq4 (L:=L) (L':=L') deep x h'
  exact ⟨by simp only [V.toD,h1],by simpa [V.cells] using h2⟩
 | ag cs =>
  have h':∀ x∈cs,W.refs deep x=[]:=by simpa [V.refs,V.cells,List.flatMap_eq_nil_iff] using h
  refine ⟨by simp only [V.toD];rw [ZaD fun x hx=>(Zq4 (L:=L) (L':=L') deep x (h' x hx)).1],?_⟩
  simp only [V.cells,List.flatMap_eq_nil_iff]
  exact fun x hx=>(Zq4 (L:=L) (L':=L') deep x (h' x hx)).2.1
 | tu l=>exact ⟨rfl,rfl⟩
theorem Zjx {L L':Nat→Option Obj}:∀ {args:List (Bool × V)},(∀ x∈args,x.1=true∨x.2.refs=[])→Zat L args=Zat L' args∧∀ vs ds rs,Zat L args=some (vs,ds,rs)→ds=[]
 | [],_=>⟨rfl,fun vs ds rs h=>by simp only [Zat,Option.some.injEq,Prod.mk.injEq] at h;exact h.2.1.symm⟩
 | (true,x)::xs,h=>by
  obtain ⟨h1,h2⟩:Zat L xs=Zat L' xs∧_:=Zjx fun y hy=>h y (by simp [hy])
  refine ⟨by simp only [Zat,h1],fun vs ds rs e => ?_⟩
  simp only [Zat] at e
  split at e
  ·cases e
  ·cases e
  ·rename_i y vs' ds' rs' _ hq
   simp only [Option.some.injEq,Prod.mk.injEq] at e
   obtain ⟨_,rfl,rfl⟩:=e
   exact h2 _ _ _ hq
 | (false,x)::xs,h=>by
  obtain ⟨h1,h2⟩:Zat L xs=Zat L' xs∧_:=Zjx fun y hy=>h y (by simp [hy])
  have hx:x.refs=[]:=by simpa using h (false,x) (by simp)
  obtain ⟨h3,h4⟩:=toD_L (L:=L) (L':=L') hx
  have h5:=(toD_L (L:=L') (L':=L) hx).2
  refine ⟨by simp only [Zat,h1];rw [h3,h4,h5],fun vs ds rs e => ?_⟩
  simp only [Zat] at e
  split at e
  ·rename_i d vs' ds' rs' _ hq
   simp only [Option.some.injEq,Prod.mk.injEq] at e
   obtain ⟨_,rfl,rfl⟩:=e
   simp [h4,h2 _ _ _ hq]
  ·cases e
end
section
variable {C:Ctx}{E:Nat→Option V}{L L':Nat→Option Obj}
theorem ZjA {oid:Nat}:∀ (l:List W)(j:Nat),ownW oid [] j l=(l,[])
 | [],_=>rfl
 | x::r,j=>by
  simp only [ownW,ZjA r (j+1)]
  split
  ·rename_i h;simp [get?] at h
  ·rename_i h;simp [get?] at h
  ·rfl
theorem ZfB {oid:Nat}:∀ (l:List (Bool × V))(j:Nat),Zai oid [] j l=(l,[])
 | [],_=>rfl
 | (b,x)::r,j=>by
  simp only [Zai,ZfB r (j+1)]
  split
  ·rename_i h;simp [get?] at h
  ·rfl
theorem Zdu {x:V}(h:∀ k∈x.direct,L k=L' k):ZaU L x=ZaU L' x:=by
 cases x with
 | sc x=>cases x with
  | arr k n=>simp only [ZaU,h k (by simp [V.direct])]
  | vw k N lo n=>simp only [ZaU,h k (by simp [V.direct])]
  | c y=>cases y<;>rfl
  | _=>rfl
 | _=>rfl
theorem lenV_L {x:V}(h:∀ k∈x.direct,L k=L' k):lenV L x=lenV L' x:=by
 cases x with
 | sc x=>cases x with
  | arr k n=>simp only [lenV,h k (by simp [V.direct])]
  | vw k N lo n=>simp only [lenV,h k (by simp [V.direct])]
  | c y=>cases y<;>rfl
  | _=>rfl
 | _=>rfl
theorem Zpm {k N i:Nat}(h:L k=L' k):elOk L k N i=elOk L' k N i:=by simp only [elOk,h]
theorem ZpR {x:V}{n:Nat}(h:∀ k∈x.direct,L k=L' k):onBy L n x=onBy L' n x:=by
 cases x with
 | sc x=>cases x with
  | el k N i o=>simp only [onBy,Zpm (h k (by simp [V.direct]))]
  | c y=>cases y<;>rfl
  | _=>rfl
 | _=>rfl
theorem Zo5 {s:Nat}{x:V}{lo hi m3:Option V}(h:∀ k∈x.direct,L k=L' k):Zbb L s x lo hi m3=Zbb L' s x lo hi m3:=by
 cases x with
 | sc x=>cases x with
  | arr k n=>simp only [Zbb,h k (by simp [V.direct])]
  | vw k N lo n=>simp only [Zbb,h k (by simp [V.direct])]
  | c y=>cases y<;>rfl
  | _=>rfl
 | _=>rfl
theorem ZfH {oid s bytes:Nat}{x y:V}(h0:L oid=L' oid)(hx:∀ k∈x.direct,L k=L' k)(hy:∀ k∈y.direct,L k=L' k):Zb9 L oid s bytes true x y=Zb9 L' oid s bytes true x y:=by
 unfold Zb9
 rw [Zdu hy]
 cases ZaU L' y with
 | none=>rfl
 | some ys =>
  dsimp only
  congr 1
  cases x with
  | sc x=>cases x with
   | arr k n=>simp only [hx k (by simp [V.direct])]
   | nil=>simp only [h0]
   | full rows=>simp only [h0]
   | _=>rfl
  | _=>rfl
theorem Zme {oid s bytes:Nat}{x y:V}(hx:∀ k∈x.direct,L k=L' k)(hy:∀ k∈y.direct,L k=L' k):Zb9 L oid s bytes false x y=Zb9 L' oid s bytes false x y:=by
 unfold Zb9
 rw [Zdu hy]
 cases ZaU L' y with
 | none=>rfl
 | some ys =>
  dsimp only
  congr 1
  cases x with
  | sc x=>cases x with
   | arr k n=>simp only [hx k (by simp [V.direct])]
   | nil=>simp only;cases L oid<;>cases L' oid<;>rfl
   | full rows=>simp only;cases L oid<;>cases L' oid<;>rfl
   | _=>rfl
  | _=>rfl
theorem ZqH {s:Nat}{x y:V}(hx:∀ k∈x.direct,L k=L' k)(hy:∀ k∈y.direct,L k=L' k):Zh4 L s x y=Zh4 L' s x y:=by
 unfold Zh4
 rw [Zdu hy]
 cases ZaU L' y with
 | none=>rfl
 | some ys =>
  dsimp only
  congr 1
  cases x with
  | sc x=>cases x with
   | arr k n=>simp only [hx k (by simp [V.direct])]
   | _=>rfl
  | _=>rfl
theorem Zgq:∀ {ids:List Nat}{os:List Obj},ids.length=os.length→(Zcr ids os).map (·.1)=ids
 | [],os,_=>by cases os<;>rfl
 | k::ks,[],h=>by simp at h
 | k::ks,o::os,h=>by simp only [Zcr,List.map_cons,Zgq (ids:=ks) (os:=os) (by simpa using h)]
theorem Zli (L:Nat→Option Obj):Zav L []=[]:=rfl
theorem Zbc {L:Nat→Option Obj}{ks:List Nat}:∀ k∈ks,k∈ZaO L ks:=fun k hk=>by
 unfold ZaO
 rw [Ze2]
 exact List.mem_append_left _ hk
theorem Zb1 {ks:List Nat}(h:∀ k∈ks,L k=L' k):ZaO L ks=ZaO L' ks:=by
 unfold ZaO
 congr 2
 rw [List.flatMap_def,List.flatMap_def]
 congr 1
 exact List.map_congr_left fun k hk=>by rw [h k hk]
theorem Zmd {L:Nat→Option Obj}{ks:List Nat}:∀ k∈ks,k∈Zav L ks:=fun k hk=>by
 cases ks with
 | nil=>cases hk
 | cons x r=>exact Zbc _ (Zbc _ (Zbc _ (Zbc _ hk)))
theorem Zfl {ks:List Nat}(h:∀ k∈Zav L ks,L k=L' k):Zav L ks=Zav L' ks:=by
 cases ks with
 | nil=>rfl
 | cons x r =>
  simp only [Zav] at h ⊢
  have h3:∀ k∈ZaO L (ZaO L (ZaO L (x::r))),L k=L' k:=fun k hk=>h k (Zbc k hk)
  have h2:∀ k∈ZaO L (ZaO L (x::r)),L k=L' k:=fun k hk=>h3 k (Zbc k hk)
  have h1:∀ k∈ZaO L (x::r),L k=L' k:=fun k hk=>h2 k (Zbc k hk)
  have h0:∀ k∈(x::r),L k=L' k:=fun k hk=>h1 k (Zbc k hk)
  rw [Zb1 h3,Zb1 h2,Zb1 h1,Zb1 h0]
theorem Zj4:∀ {l m:List Nat},l.Nodup→(∀ k∈l,k∈m)→l.length≤m.length
 | [],_,_,_=>by simp
 | x::r,m,hn,hs=>by
  rw [List.nodup_cons] at hn
  have hx:x∈m:=hs x (by simp)
  have h:=Zj4 (l:=r) (m:=m.erase x) hn.2 fun k hk=>by
   have hne:k≠x:=fun e=>hn.1 (e▸hk)
   exact (List.mem_erase_of_ne hne).2 (hs k (by simp [hk]))
  rw [List.length_erase_of_mem hx] at h
  have:0<m.length:=List.length_pos_of_mem hx
  simp only [List.length_cons]
  omega
theorem Zmq {l m:List Nat}(hn:l.Nodup)(hs:∀ k∈l,k∈m)(he:m.length≤l.length):∀ k∈m,k∈l:=by
 intro k hk
 by_cases h:k∈l
 ·exact h
 ·have:=Zj4 (l:=k::l) (m:=m) (List.nodup_cons.2 ⟨h,hn⟩) (by
   intro j hj
   rcases List.mem_cons.1 hj with rfl|hj
   ·exact hk
   ·exact hs j hj)
  simp only [List.length_cons] at this
  omega
theorem Zcw {α γ:Type}{f g:α→List γ}{l:List α}(h:∀ x∈l,f x=g x):l.flatMap f=l.flatMap g:=by
 rw [List.flatMap_def,List.flatMap_def]
 congr 1
 exact List.map_congr_left h
theorem Zhr:∀ (d:Nat)(x:W),(∀ k∈W.ids L d x,L k=L' k)→W.toC L d x=W.toC L' d x∧W.ids L d x=W.ids L' d x:=by
 intro d
 induction d with
 | zero=>intro x _;cases x<;>simp [W.toC,W.ids]
 | succ d ih =>
  intro x h
  have rowf:∀ r:List W,(∀ k∈r.flatMap (W.ids L d),L k=L' k)→Zad (W.toC L d) r=Zad (W.toC L' d) r∧r.flatMap (W.ids L d)=r.flatMap (W.ids L' d):=by
   intro r hr
   have hx:∀ x∈r,W.toC L d x=W.toC L' d x∧W.ids L d x=W.ids L' d x:=fun x hx=>ih x fun k hk=>hr k (List.mem_flatMap.2 ⟨x,hx,hk⟩)
   exact ⟨ZaD fun x h'=>(hx x h').1,Zcw fun x h'=>(hx x h').2⟩
  have rowsf:∀ rows:List (List W),(∀ k∈rows.flatMap (·.flatMap (W.ids L d)),L k=L' k)→(∀ r∈rows,Zad (W.toC L d) r=Zad (W.toC L' d) r)∧rows.flatMap (·.flatMap (W.ids L d))=rows.flatMap (·.flatMap (W.ids L' d)):=by
   intro rows hr
   have hx:∀ r∈rows,Zad (W.toC L d) r=Zad (W.toC L' d) r∧r.flatMap (W.ids L d)=r.flatMap (W.ids L' d):=fun r h'=>rowf r fun k hk=>hr k (List.mem_flatMap.2 ⟨r,h',hk⟩)
   exact ⟨fun r h'=>(hx r h').1,Zcw fun r h'=>(hx r h').2⟩
  cases x<;>simp only [W.toC,W.ids]<;>first | exact ⟨trivial,trivial⟩ | exact ⟨rfl,rfl⟩ | skip
  case arr k n =>
   simp only [W.ids] at h
   have hk:L k=L' k:=h k (by simp)
   rw [←hk]
   cases hL:L k with
   | none=>exact ⟨rfl,rfl⟩
   | some o=>cases o with
    | box _=>exact ⟨rfl,rfl⟩
    | arr s rows p =>
     rw [hL] at h
     obtain ⟨h1,h2⟩:=rowsf rows fun j hj=>h j (by simp only [List.mem_cons];exact .inr hj)
     simp only
     exact ⟨by rw [ZaD h1],by rw [h2]⟩
  case vw k N lo n =>
   simp only [W.ids] at h
   have hk:L k=L' k:=h k (by simp)
   rw [←hk]
   cases hL:L k with
   | none=>exact ⟨rfl,rfl⟩
   | some o=>cases o with
    | box _=>exact ⟨rfl,rfl⟩
    | arr s rows p =>
     rw [hL] at h
     obtain ⟨h1,h2⟩:=rowsf rows fun j hj=>h j (by simp only [List.mem_cons];exact .inr hj)
     simp only
     exact ⟨by rw [ZaD fun r hr=>h1 r (List.mem_of_mem_drop (List.mem_of_mem_take hr))],by rw [h2]⟩
  case clo f ones caps =>
   simp only [W.ids] at h
   obtain ⟨h1,h2⟩:=rowsf caps h
   exact ⟨by rw [ZaD h1],h2⟩
  case ifw t one row =>
   simp only [W.ids] at h
   obtain ⟨h1,h2⟩:=rowf row h
   exact ⟨by rw [h1],h2⟩
theorem Zic {v:V}(h:∀ k∈v.cells.flatMap (W.ids L deep),L k=L' k):v.toD L=v.toD L'∧v.cells.flatMap (W.ids L deep)=v.cells.flatMap (W.ids L' deep):=by
 have hx:∀ x∈v.cells,W.toC L deep x=W.toC L' deep x∧W.ids L deep x=W.ids L' deep x:=fun x hx=>Zhr deep x fun k hk=>h k (List.mem_flatMap.2 ⟨x,hx,hk⟩)
 refine ⟨?_,Zcw fun x h'=>(hx x h').2⟩
 cases v with
 | sc x=>simp only [V.toD,(hx x (by simp [V.cells])).1]
 | ag cs=>simp only [V.toD];rw [ZaD (l:=cs) fun x h'=>(hx x h').1]
 | tu l=>rfl
theorem Zdm {all:List Nat}(h:∀ k∈all,L k=L' k):∀ {ks:List Nat}{p:Upd},(∀ k∈ks,k∈all)→Za9 L all ks=some p→Za9 L' all ks=some p
 | [],p,_,hp=>hp
 | k::ks,p,hs,hp=>by
  simp only [Za9] at hp ⊢
  rw [←h k (hs k (by simp))]
  cases hL:L k with
  | none=>simp [hL] at hp
  | some o=>cases o with
   | box _=>simp [hL] at hp
   | arr s rows q =>
    simp only [hL] at hp ⊢
    cases hc:Zad (Zad (W.toC L deep)) rows with
    | none=>simp [hc] at hp
    | some cs =>
     simp only [hc] at hp
     cases hb:(rows.all fun q=>q.all fun x=>(W.ids L deep x).all fun j=>all.contains j) with
     | false=>rw [hb] at hp;simp at hp
     | true =>
      rw [hb] at hp
      simp only [cond_true] at hp
      have hin:∀ r∈rows,∀ x∈r,∀ j∈W.ids L deep x,L j=L' j:=by
       intro r hr x hx j hj
       have h3:=List.all_eq_true.1 hb r hr
       have h4:=List.all_eq_true.1 h3 x hx
       have h5:=List.all_eq_true.1 h4 j hj
       exact h j (by simpa using h5)
      have hl:∀ r∈rows,∀ x∈r,W.toC L deep x=W.toC L' deep x∧W.ids L deep x=W.ids L' deep x:=fun r hr x hx=>Zhr deep x fun j hj=>hin r hr x hx j hj
      have e1:Zad (Zad (W.toC L' deep)) rows=some cs:=by
       rw [←hc]
       exact ZaD fun r hr=>(ZaD fun x hx=>(hl r hr x hx).1).symm
      have e2:(rows.all fun q=>q.all fun x=>(W.ids L' deep x).all fun j=>all.contains j)=true:=by
       rw [List.all_eq_true]
       intro r hr
       rw [List.all_eq_true]
       intro x hx
       rw [←(hl r hr x hx).2]
       exact List.all_eq_true.1 (List.all_eq_true.1 hb r hr) x hx
      rw [e1]
      simp only [e2,cond_true]
      obtain ⟨p',hp',rfl⟩:=Option.map_eq_some_iff.1 hp
      rw [Zdm h (fun j hj=>hs j (by simp [hj])) hp']
      rfl
theorem ZrO {ag:Bool}{n:Nat}{x:V}(h:∀ k∈x.direct,L k=L' k):Zda L ag n x=Zda L' ag n x:=by
 cases x with
 | sc y=>cases y with
  | ptr k f=>simp only [Zda,h k (by simp [V.direct])]
  | el k N i f=>simp only [Zda,h k (by simp [V.direct])]
  | c y=>cases y<;>rfl
  | _=>rfl
 | _=>rfl
theorem Zfu {all:List Nat}:∀ {ks:List Nat}{p:Upd},Za9 L all ks=some p→p.map (·.1)=ks
 | [],p,h=>by simp only [Za9,Option.some.injEq] at h;subst h;rfl
 | k::ks,p,h=>by
  simp only [Za9] at h
  cases hL:L k with
  | none=>simp [hL] at h
  | some o=>cases o with
   | box _=>simp [hL] at h
   | arr s rows q =>
    simp only [hL] at h
    cases hc:Zad (Zad (W.toC L deep)) rows with
    | none=>simp [hc] at h
    | some cs =>
     simp only [hc] at h
     cases hb:(rows.all fun q=>q.all fun x=>(W.ids L deep x).all fun j=>all.contains j) with
     | false=>rw [hb] at h;simp at h
     | true =>
      rw [hb] at h
      simp only [cond_true] at h
      obtain ⟨p',hp',rfl⟩:=Option.map_eq_some_iff.1 h
      simp only [List.map_cons,Zfu hp']
theorem ZdO {x d:V}{p:Upd}(h:Zc7 L x=some (d,p))(hL:∀ k∈p.map (·.1),L k=L' k):Zc7 L' x=some (d,p):=by
 unfold Zc7 at h ⊢
 cases hd:x.toD L with
 | none=>rw [hd] at h;cases h
 | some d' =>
  rw [hd] at h
  simp only at h
  obtain ⟨p',hp,h⟩:=Option.map_eq_some_iff.1 h
  simp only [Prod.mk.injEq] at h
  obtain ⟨rfl,rfl⟩:=h
  have hk:=Zfu hp
  rw [hk] at hL
  obtain ⟨e1,e2⟩:=Zic (L:=L) (L':=L') (v:=x) fun k hk'=>hL k ((Ze2 _ k).2 hk')
  rw [←e1,hd,←e2]
  simp only
  rw [Zdm hL (fun _ h=>h) hp]
  rfl
theorem Zcf:∀ {l:List (Bool × V)},(∀ k∈ZbD L l,L k=L' k)→ZbD L l=ZbD L' l∧Zat L l=Zat L' l
 | [],_=>⟨rfl,rfl⟩
 | (true,v)::r,h=>by
  obtain ⟨h1,h2⟩:=Zcf (l:=r) h
  exact ⟨h1,by simp only [Zat,h2]⟩
 | (false,v)::r,h=>by
  simp only [ZbD,List.mem_append] at h
  obtain ⟨h1,h2⟩:=Zcf (l:=r) fun k hk=>h k (.inr hk)
  obtain ⟨h3,h4⟩:=Zic (v:=v) fun k hk=>h k (.inl hk)
  exact ⟨by simp only [ZbD,h1,h4],by simp only [Zat,h2,h3,h4]⟩
theorem ZfJ:∀ {l:List (Bool × V)}{vs:List V}{ds rs:List Nat},Zat L l=some (vs,ds,rs)→ds=ZbD L l
 | [],_,_,_,h=>by
  simp only [Zat,Option.some.injEq,Prod.mk.injEq] at h
  exact h.2.1.symm
 | (true,v)::r,vs,ds,rs,h=>by
  simp only [Zat] at h
  split at h
  ·cases h
  ·cases h
  ·rename_i hq
   simp only [Option.some.injEq,Prod.mk.injEq] at h
   rw [←h.2.1]
   exact ZfJ (l:=r) hq
 | (false,v)::r,vs,ds,rs,h=>by
  simp only [Zat] at h
  split at h
  ·rename_i hq
   simp only [Option.some.injEq,Prod.mk.injEq] at h
   rw [←h.2.1,ZfJ (l:=r) hq]
   rfl
  ·cases h
theorem ZiE {call:Zac}{oid:Nat}{f:V}{args:List (Bool × V)}{g:FuncId}{caps:List (Bool × V)}(hc:Zbd f=some (g,caps)){v:V}{u:Upd}(h:ZcF call L oid f args=some (v,u))
 (hL:∀ k∈ZbD L (args++caps)++u.map (·.1),L k=L' k):ZcF call L' oid f args=some (v,u):=by
 unfold ZcF at h ⊢
 rw [hc] at h ⊢
 simp only at h ⊢
 simp only [List.mem_append] at hL
 obtain ⟨hd1,hd2⟩:=Zcf (L:=L) (L':=L') (l:=args++caps) fun k hk=>hL k (.inl hk)
 rw [←hd2]
 cases hq:Zat L (args++caps) with
 | none=>rw [hq] at h;cases h
 | some q =>
  obtain ⟨vs,ds,rs⟩:=q
  rw [hq] at h
  have hds:=ZfJ hq
  have hdsL:∀ k∈ds,L k=L' k:=fun k hk=>hL k (.inl (by rw [←hds];exact hk))
  simp only at h ⊢
  cases hos:Zad L (Zav L rs) with
  | none=>rw [hos] at h;cases h
  | some os =>
   rw [hos] at h
   simp only at h
   cases hg:((Zav L rs).all (fun k=>!ds.contains k) && (Zav L (Zav L rs)).length == (Zav L rs).length) with
   | false=>rw [hg] at h;simp at h
   | true =>
    rw [hg] at h
    simp only [cond_true] at h
    cases hcall:call g (vs.map (V.ren (Zaq (Zav L rs)))) (os.map (Obj.ren (Zaq (Zav L rs)))) with
    | none=>rw [hcall] at h;cases h
    | some q =>
     obtain ⟨rv,os'⟩:=q
     rw [hcall] at h
     simp only at h
     cases hb:(Nat.ble (Zav L rs).length os'.length && (os.zip os').all (fun x=>Zcu x.1 x.2) && (ZaJ oid 0 (os'.length-(Zav L rs).length)).all (fun k=>(L k).isNone)) with
     | false=>rw [hb] at h;simp at h
     | true =>
      rw [hb] at h
      simp only [cond_true] at h
      have hb':=hb
      simp only [Bool.and_eq_true] at hb'
      obtain ⟨⟨hb1,hb2⟩,hb3⟩:=hb'
      have hble:=Nat.le_of_ble_eq_true hb1
      have hkeys:(Zcr (Zav L rs++ZaJ oid 0 (os'.length-(Zav L rs).length)) (os'.map (Obj.ren fun i=>(Zav L rs++ZaJ oid 0 (os'.length-(Zav L rs).length))[i]?))).map (·.1)=Zav L rs++ZaJ oid 0 (os'.length-(Zav L rs).length):=by
       refine Zgq ?_
       simp [(ZdJ oid (os'.length-(Zav L rs).length) 0).1]
       omega
      have fin:(∀ k∈Zav L rs++ZaJ oid 0 (os'.length-(Zav L rs).length),L k=L' k)→Zav L rs=Zav L' rs∧Zad L' (Zav L rs)=some os∧(Zav L (Zav L rs)).length=(Zav L' (Zav L rs)).length∧(ZaJ oid 0 (os'.length-(Zav L rs).length)).all (fun k=>(L' k).isNone)=true:=by
       intro hall
       have hids:∀ k∈Zav L rs,L k=L' k:=fun k hk=>hall k (List.mem_append_left _ hk)
       have hg':=hg
       simp only [Bool.and_eq_true,beq_iff_eq] at hg'
       have hsub:∀ k∈Zav L (Zav L rs),k∈Zav L rs:=Zmq (ZdN L rs) (fun k hk=>Zmd (L:=L) k hk) (by omega)
       refine ⟨Zfl hids,?_,by rw [Zfl fun k hk=>hids k (hsub k hk)],?_⟩
       ·rw [←hos]
        exact ZaD fun k hk=>(hids k hk).symm
       ·rw [List.all_eq_true] at hb3 ⊢
        intro k hk
        rw [←hall k (List.mem_append_right _ hk)]
        exact hb3 k hk
      cases ds with
      | nil =>
       simp only [Option.some.injEq,Prod.mk.injEq] at h
       obtain ⟨f1,f2,f3,f4⟩:=fin fun k hk=>hL k (.inr (by rw [←h.2,hkeys];exact hk))
       rw [←f1,f2]
       simp only
       rw [←f3,hg]
       simp only [cond_true]
       rw [hcall]
       simp only
       rw [hb1,hb2,f4]
       simp only [Bool.and_self,cond_true,h.1,h.2]
      | cons d ds =>
       simp only at h
       cases hf:(ZdM rv && (Zav L rs).isEmpty && (ZaJ oid 0 (os'.length-(Zav L rs).length)).isEmpty) with
       | true =>
        rw [hf] at h
        simp only [cond_true,Option.some.injEq,Prod.mk.injEq] at h
        have hf':=hf
        simp only [Bool.and_eq_true,List.isEmpty_iff] at hf'
        obtain ⟨f1,f2,f3,f4⟩:=fin fun k hk=>by rw [hf'.2,hf'.1.2] at hk;simp at hk
        rw [←f1,f2]
        simp only
        rw [←f3,hg]
        simp only [cond_true]
        rw [hcall]
        simp only
        rw [hb1,hb2,f4]
        obtain ⟨rfl,rfl⟩:=h
        simp only [Bool.and_self,cond_true,hf]
       | false =>
        rw [hf] at h
        simp only [cond_false] at h
        cases hp:Za9 L (d::ds) (d::ds) with
        | none=>rw [hp] at h;cases h
        | some p =>
         rw [hp] at h
         simp only [Option.some.injEq,Prod.mk.injEq] at h
         obtain ⟨f1,f2,f3,f4⟩:=fin fun k hk=>hL k (.inr (by rw [←h.2,List.map_append,hkeys];exact List.mem_append_right _ hk))
         rw [←f1,f2]
         simp only
         rw [←f3,hg]
         simp only [cond_true]
         rw [hcall]
         simp only
         rw [hb1,hb2,f4]
         simp only [Bool.and_self,cond_true,hf,cond_false]
         rw [Zdm hdsL (fun _ h=>h) hp]
         simp only [h.1,h.2]
theorem ZfF {n oid:Nat}{own:List (Nat × Nat)}{v a r:V}{u:Upd}(h:(let y:=ownW oid own 0 v.cells
 bif v.cells.length == n && v.cells.all Zas && y.2.all (fun u=>(L u.1).isNone) then match a with
 | .sc (.ptr k off)=>match L k with
  | some (.box cells)=>(splice cells off y.1).map fun cs=>(V.sc .un,y.2++[(k,some (.box cs))])
  | _=>none
 | .sc (.el k N i off)=>match L k with
  | some (.arr s rows p)=>bif rows.length == N && Nat.ble p i then match rows[i]? with
   | some row=>(splice row off y.1).map fun cs=>(.sc .un,y.2++[(k,some (.arr s (setRow rows i cs) p))])
   | none=>none
   else none
  | _=>none
 | _=>none
 else none)=some (r,u)) (hL:∀ k,k∈a.direct∨k∈u.map (fun x:Nat × Option Obj=>x.1)→L k=L' k):(let y:=ownW oid own 0 v.cells
 bif v.cells.length == n && v.cells.all Zas && y.2.all (fun u=>(L' u.1).isNone) then match a with
 | .sc (.ptr k off)=>match L' k with
  | some (.box cells)=>(splice cells off y.1).map fun cs=>(V.sc .un,y.2++[(k,some (.box cs))])
  | _=>none
 | .sc (.el k N i off)=>match L' k with
  | some (.arr s rows p)=>bif rows.length == N && Nat.ble p i then match rows[i]? with
   | some row=>(splice row off y.1).map fun cs=>(.sc .un,y.2++[(k,some (.arr s (setRow rows i cs) p))])
   | none=>none
   else none
  | _=>none
 | _=>none
 else none)=some (r,u):=by
 simp only at h ⊢
 generalize ownW oid own 0 v.cells=y at h ⊢
 cases hb:(v.cells.length == n && v.cells.all Zas && y.2.all (fun u=>(L u.1).isNone)) with
 | false=>rw [hb] at h;simp at h
 | true =>
  rw [hb] at h
  simp only [cond_true] at h
  have hb':=hb
  simp only [Bool.and_eq_true] at hb'
  have hall:(∀ x∈y.2,x.1∈u.map (fun x:Nat × Option Obj=>x.1))→y.2.all (fun u=>(L' u.1).isNone)=true:=by
   intro hk
   rw [List.all_eq_true]
   intro x hx
   rw [←hL x.1 (.inr (hk x hx))]
   exact List.all_eq_true.1 hb'.2 x hx
  have hcond:(∀ x∈y.2,x.1∈u.map (fun x:Nat × Option Obj=>x.1))→(v.cells.length == n && v.cells.all Zas && y.2.all (fun u=>(L' u.1).isNone))=true:=fun hk=>by
   rw [hall hk,hb'.1.1,hb'.1.2]
   rfl
  cases a with
  | sc a=>cases a with
   | ptr k off =>
    simp only at h ⊢
    rw [←hL k (.inl (by simp [V.direct]))]
    cases hk:L k with
    | none=>simp [hk] at h
    | some o=>cases o with
     | arr _ _ _=>simp [hk] at h
     | box cells =>
      simp only [hk] at h ⊢
      obtain ⟨cs,hcs,he⟩:=Option.map_eq_some_iff.1 h
      simp only [Prod.mk.injEq] at he
      rw [hcond fun x hx=>by rw [←he.2];simp only [List.map_append,List.mem_append];exact .inl (List.mem_map.2 ⟨x,hx,rfl⟩)]
      simp only [cond_true,hcs,Option.map_some,he.1,he.2]
   | el k M i off =>
    simp only at h ⊢
    rw [←hL k (.inl (by simp [V.direct]))]
    cases hk:L k with
    | none=>simp [hk] at h
    | some o=>cases o with
     | box _=>simp [hk] at h
     | arr s rows p =>
      simp only [hk] at h ⊢
      cases hc:(rows.length == M && Nat.ble p i) with
      | false=>rw [hc] at h;simp at h
      | true =>
       rw [hc] at h
       simp only [cond_true] at h ⊢
       cases hr:rows[i]? with
       | none=>simp [hr] at h
       | some row =>
        simp only [hr] at h ⊢
        obtain ⟨cs,hcs,he⟩:=Option.map_eq_some_iff.1 h
        simp only [Prod.mk.injEq] at he
        rw [hcond fun x hx=>by rw [←he.2];simp only [List.map_append,List.mem_append];exact .inl (List.mem_map.2 ⟨x,hx,rfl⟩)]
        simp only [cond_true,hcs,Option.map_some,he.1,he.2]
   | _=>simp at h
  | _=>simp at h
theorem ZrG {o:VOper}(hown:o.own=[]){v:V}{u:Upd}(h:Zae C E L o.oid o.op=some (v,u))(ha:(recO C E L o u).1=false)(hL:∀ k∈(recO C E L o u).2,L k=L' k):Zae C E L' o.oid o.op=some (v,u):=by
 unfold recO at ha hL
 rw [hown] at ha hL
 simp only at ha hL
 cases hop:o.op<;>rw [hop] at h ha hL<;>simp only [ZdD,cond_true,cond_false,reduceCtorEq] at ha hL
 case load ag n x =>
  rw [←h]
  simp only [Zae]
  generalize x.val C E=y at hL
  cases y with
  | sc y=>cases y with
   | ptr k f=>simp only [hL k (by simp [V.direct])]
   | el k N i f=>simp only [hL k (by simp [V.direct])]
   | c y=>cases y<;>rfl
   | _=>rfl
  | _=>rfl
 case fld n x=>rw [←h];simp only [Zae,ZpR hL]
 case nn x =>
  rw [←h]
  simp only [Zae]
  generalize x.val C E=y at hL
  cases y with
  | sc y=>cases y with
   | el k N i f=>simp only [Zpm (hL k (by simp [V.direct]))]
   | c y=>cases y<;>rfl
   | _=>rfl
  | _=>rfl
 case store n a x own =>
  simp only [List.mem_append] at hL
  simp only [Zae] at h ⊢
  cases hx:x.val C E with
  | tu l=>rw [hx] at h;simp at h
  | sc y=>rw [hx] at h;exact ZfF h hL
  | ag y=>rw [hx] at h;exact ZfF h hL
 case cp s x y =>
  rw [←h]
  simp only [Zae]
  simp only [List.mem_append] at hL
  rw [ZqH (fun k hk=>hL k (.inl hk)) (fun k hk=>hL k (.inr hk))]
 case appN s bytes y =>
  rw [←h]
  simp only [Zae]
  simp only [List.mem_cons] at hL
  rw [Zdu fun k hk=>hL k (.inr hk),ZfH (x:=.sc .nil) (hL o.oid (.inl rfl)) (fun k hk=>by simp [V.direct] at hk) (fun k hk=>hL k (.inr hk))]
 case appF s bytes x y =>
  rw [←h]
  simp only [Zae]
  simp only [List.mem_cons] at hL
  simp only [Zdu fun k hk=>hL k (.inr hk)]
  split
  ·rename_i rows0 _
   rw [ZfH (x:=.sc (.full rows0)) (hL o.oid (.inl rfl)) (fun k hk=>by simp [V.direct] at hk) (fun k hk=>hL k (.inr hk))]
  ·rfl
 case bldD zero ps =>
  simp only [Zae] at h ⊢
  split at h
  ·cases h
  ·rename_i qs hqs
   obtain ⟨cs,hcs,hs⟩:=Option.bind_eq_some_iff.1 h
   simp only [hcs,Option.bind_some]
   exact ZdO hs fun k hk=>hL k hk
 case mvD x =>
  simp only [Zae] at h ⊢
  exact ZdO h fun k hk=>hL k hk
 case ldD ag n x =>
  simp only [Zae] at h ⊢
  simp only [List.mem_append] at hL
  obtain ⟨v1,hv1,hs⟩:=Option.bind_eq_some_iff.1 h
  rw [←ZrO fun k hk=>hL k (.inl hk),hv1,Option.bind_some]
  exact ZdO hs fun k hk=>hL k (.inr hk)
 case cvS x=>rw [←h];simp only [Zae,Zdu hL]
 case slA s n x lo hi =>
  rw [←h]
  simp only [Zae]
  generalize x.val C E=y at hL
  cases y with
  | sc y=>cases y with
   | el k N i off=>simp only [hL k (by simp [V.direct])]
   | c y=>cases y<;>rfl
   | _=>rfl
  | _=>rfl
 case clr s zero x =>
  rw [←h]
  simp only [Zae]
  generalize x.val C E=y at hL
  cases y with
  | sc y=>cases y with
   | vw k N lo n=>simp only [hL k (by simp [V.direct])]
   | c y=>cases y<;>rfl
   | _=>rfl
  | _=>rfl
 case idxA s x i =>
  rw [←h]
  simp only [Zae]
  generalize x.val C E=y at hL
  cases y with
  | sc y=>cases y with
   | arr k n=>simp only [hL k (by simp [V.direct])]
   | vw k N lo n=>simp only [hL k (by simp [V.direct])]
   | c y=>cases y<;>rfl
   | _=>rfl
  | _=>rfl
 case idxAA s len x i=>rw [←h];simp only [Zae,ZpR hL]
 case len str x=>rw [←h];simp only [Zae,lenV_L hL]
 case sl s x lo hi m3=>rw [←h];simp only [Zae,Zo5 hL]
 case new cells own =>
  cases own with
  | cons _ _=>simp at ha
  | nil =>
   rw [←h]
   simp only [Zae,ZjA,List.all_nil,hL o.oid (by simp)]
 case box x=>rw [←h];simp only [Zae,hL o.oid (by simp)]
 case mkSl s xs=>rw [←h];simp only [Zae,hL o.oid (by simp)]
 case mkS s bytes zero n=>rw [←h];simp only [Zae,hL o.oid (by simp)]
 case newA n zero=>rw [←h];simp only [Zae,hL o.oid (by simp)]
 case app s bytes mk x y =>
  cases mk with
  | false =>
   rw [←h]
   simp only [Zae]
   simp only [List.mem_append] at hL
   rw [Zme (fun k hk=>hL k (.inl hk)) (fun k hk=>hL k (.inr hk))]
  | true =>
   rw [←h]
   simp only [Zae]
   simp only [List.cons_append,List.mem_cons,List.mem_append] at hL
   rw [ZfH (hL o.oid (.inl rfl)) (fun k hk=>hL k (.inr (.inl hk))) (fun k hk=>hL k (.inr (.inr hk)))]
 case call f args own =>
  cases own with
  | cons _ _=>simp at ha
  | nil =>
   simp only at ha hL
   simp only [Zae,ZfB,List.all_nil,cond_true,updL] at h ⊢
   cases hf:Zbd (f.val C E) with
   | none=>rw [hf] at ha;simp at ha
   | some gc =>
    obtain ⟨g,caps⟩:=gc
    rw [hf] at hL
    simp only at hL
    cases hc:ZcF C.call L (o.oid+32) (f.val C E) (vals C E args) with
    | none=>rw [hc] at h;cases h
    | some q =>
     obtain ⟨qv,qu⟩:=q
     rw [hc] at h
     simp only [List.nil_append,Option.some.injEq,Prod.mk.injEq] at h
     obtain ⟨rfl,rfl⟩:=h
     rw [ZiE hf hc hL]
     rfl
 all_goals first | exact h | (simp at ha;done)
theorem ZjV {o:VOper}{u:Upd}(_:(recO C E L o u).1=false)(hL:∀ k∈(recO C E L o u).2,L k=L' k):recO C E L o u=recO C E L' o u:=by
 unfold recO at hL ⊢
 split
 ·rfl
 ·rename_i hown
  rw [hown] at hL
  simp only at hL
  cases hop:o.op<;>rw [hop] at hL<;>try rfl
  case new cells own=>cases own<;>rfl
  case app s bytes mk x y=>cases mk<;>rfl
  case call f args own =>
   cases own with
   | cons _ _=>rfl
   | nil =>
    simp only at hL ⊢
    cases hf:Zbd (f.val C E) with
    | none=>rfl
    | some gc =>
     rw [hf] at hL
     simp only [List.mem_append] at hL
     simp only
     rw [(Zcf fun k hk=>hL k (.inl hk)).1]
theorem Zkc {o:VOper}{v:V}{u:Upd}(h:runO C o E L=some (v,u))(ha:(recO C E L o u).1=false)(hL:∀ k∈(recO C E L o u).2,L k=L' k):runO C o E L'=some (v,u):=by
 have hown:o.own=[]:=by
  cases ho:o.own with
  | nil=>rfl
  | cons _ _=>simp [recO,ho] at ha
 have key:∀ q,Zae C E L o.oid o.op=some q→ownV o.oid o.own L q=some (v,u)→Zae C E L' o.oid o.op=some (v,u):=by
  intro q hq ho
  unfold ownV at ho
  rw [hown] at ho
  simp only [Option.some.injEq] at ho
  subst ho
  exact ZrG hown hq ha hL
 have fin:∀ {q:Option (V × Upd)},q=some (v,u)→(match q with | none=>none | some r=>ownV o.oid o.own L' r)=some (v,u):=by
  intro q hq
  rw [hq]
  simp only [ownV,hown]
 unfold runO at h ⊢
 cases hg:o.guard with
 | none =>
  rw [hg] at h
  simp only at h ⊢
  cases hq:Zae C E L o.oid o.op with
  | none=>rw [hq] at h;cases h
  | some q=>rw [hq] at h;exact fin (key q hq h)
 | some g =>
  obtain ⟨t,want⟩:=g
  rw [hg] at h
  simp only at h ⊢
  split at h
  ·rename_i b hb
   cases hw:(b == want) with
   | false=>rw [hw] at h;exact h
   | true =>
    rw [hw] at h
    simp only [cond_true] at h ⊢
    cases hq:Zae C E L o.oid o.op with
    | none=>rw [hq] at h;cases h
    | some q=>rw [hq] at h;exact fin (key q hq h)
  ·rename_i hb
   exact h
  ·cases h
end
def ZkU (C:Ctx)(E:Nat→Option V)(L:Nat→Option Obj)(o:VOper)(u:Upd):Rec:=⟨(recO C E L o u).1,(recO C E L o u).2,u.map (·.1)⟩
def Runs (C:Ctx):List (VOper × Rec)→(Nat→Option V)→(Nat→Option Obj)→(Nat→Option V)→(Nat→Option Obj)→Prop
 | [],E,L,E',L'=>E=E'∧L=L'
 | x::os,E,L,E',L'=>∃ v u,runO C x.1 E L=some (v,u)∧x.2=ZkU C E L x.1 u∧Runs C os (updD E x.1.dst v) (updL L u) E' L'
def ZhS (x y:VOper):Bool :=
 (match x.dst with | some d=>!(y.tmps.contains d) && !(y.dst == some d) | none=>true) &&
 (match y.dst with | some d=>!(x.tmps.contains d) | none=>true)
section
variable {C:Ctx}{E E':Nat→Option V}{L L':Nat→Option Obj}
theorem Zbh:∀ {u:Upd}{L:Nat→Option Obj}{k:Nat},k∉u.map (·.1)→updL L u k=L k
 | [],_,_,_=>rfl
 | (j,x)::u,L,k,h=>by
  simp only [List.map_cons,List.mem_cons,not_or] at h
  simp only [updL]
  rw [Zbh h.2,Zb7 h.1]
theorem ZiF:∀ {u:Upd}{L M:Nat→Option Obj}{k:Nat},k∈u.map (·.1)→updL L u k=updL M u k
 | [],_,_,_,h=>by simp at h
 | (j,x)::u,L,M,k,h=>by
  simp only [updL]
  by_cases hk:k∈u.map (·.1)
  ·exact ZiF hk
  ·simp only [List.map_cons,List.mem_cons] at h
   have:k=j:=h.resolve_right hk
   subst this
   rw [Zbh hk,Zbh hk,ZaC,ZaC]
theorem ZlF {u u':Upd}(h:∀ k∈u.map (·.1),k∉u'.map (·.1)):updL (updL L u) u'=updL (updL L u') u:=by
 funext k
 by_cases h1:k∈u.map (·.1)
 ·rw [Zbh (h k h1)]
  exact ZiF h1
 ·rw [Zbh (u:=u) h1]
  by_cases h2:k∈u'.map (·.1)
  ·exact ZiF h2
  ·rw [Zbh h2,Zbh h2,Zbh h1]
theorem Znt {d:Option Nat}{v:V}{t:Nat}(h:d≠some t):updD E d v t=E t:=by
 cases d with
 | none=>rfl
 | some d=>simp only [updD,updE];rw [if_neg];intro e;exact h (by rw [e])
theorem Zlw {d d':Option Nat}{v v':V}(h:∀ t,d=some t→d'≠some t):updD (updD E d v) d' v'=updD (updD E d' v') d v:=by
 cases d with
 | none=>rfl
 | some d=>cases d' with
  | none=>rfl
  | some d' =>
   have hne:d'≠d:=fun e=>h d rfl (by rw [e])
   funext t
   simp only [updD,updE]
   by_cases h1:t=d'
   ·have h2:t≠d:=fun e=>hne (h1.symm.trans e)
    simp [h1,hne]
   ·simp [h1]
theorem ZiA {x y:VOper}(h:ZhS x y=true):(∀ t∈y.tmps,x.dst≠some t)∧(∀ t∈x.tmps,y.dst≠some t)∧∀ t,x.dst=some t→y.dst≠some t:=by
 unfold ZhS at h
 simp only [Bool.and_eq_true] at h
 refine ⟨fun t ht e => ?_,fun t ht e => ?_,fun t e => ?_⟩
 ·rw [e] at h;simp [ht] at h
 ·rw [e] at h;simp [ht] at h
 ·rw [e] at h
  have h1:=h.1
  simp only [Bool.and_eq_true,Bool.not_eq_true',beq_eq_false_iff_ne] at h1
  exact h1.2
theorem ZeG {a b:List Nat}(h:Zd7 a b=true):∀ k∈a,k∉b:=by
 intro k hk
 have:=List.all_eq_true.1 h k hk
 simpa using this
theorem Zkn {a b:Rec}(h:ZgL a b=true):(a.all=false∧a.reads=[]∧a.keys=[])∨(b.all=false∧b.reads=[]∧b.keys=[]) ∨
 (a.all=false∧b.all=false∧(∀ k∈a.reads,k∉b.keys)∧(∀ k∈b.reads,k∉a.keys)∧∀ k∈a.keys,k∉b.keys):=by
 unfold ZgL Rec.touch at h
 simp only [Bool.or_eq_true,Bool.and_eq_true,Bool.not_eq_true',Bool.or_eq_false_iff,Bool.not_eq_false',List.isEmpty_iff] at h
 rcases h with (h|h)|h
 ·exact .inl ⟨h.1.1,h.1.2,h.2⟩
 ·exact .inr (.inl ⟨h.1.1,h.1.2,h.2⟩)
 ·exact .inr (.inr ⟨h.1.1.1.1,h.1.1.1.2,ZeG h.1.1.2,ZeG h.1.2,ZeG h.2⟩)
theorem Runs.swap {x y:VOper × Rec}{r:List (VOper × Rec)}(hs:ZhS x.1 y.1=true)(hi:ZgL x.2 y.2=true)(h:Runs C (x::y::r) E L E' L'):Runs C (y::x::r) E L E' L':=by
 obtain ⟨x,rx⟩:=x
 obtain ⟨y,ry⟩:=y
 obtain ⟨v1,u1,h1,h2,v2,u2,h3,h4,h5⟩:=h
 simp only at hs hi h1 h2 h3 h4 h5
 obtain ⟨s1,s2,s3⟩:=ZiA hs
 have e1:∀ t∈y.tmps,updD E x.dst v1 t=E t:=fun t ht=>Znt (s1 t ht)
 have e2:∀ t∈x.tmps,E t=updD E y.dst v2 t:=fun t ht=>(Znt (s2 t ht)).symm
 have q1:recO C (updD E x.dst v1) (updL L u1) y u2=recO C E (updL L u1) y u2:=Zpl e1
 have q2:recO C E (updL L u2) x u1=recO C (updD E y.dst v2) (updL L u2) x u1:=Zpl e2
 rw [Zpz e1] at h3
 unfold ZkU at h2 h4
 rw [q1] at h4
 have keysNil:∀ {u:Upd},u.map (·.1)=[]→u=[]:=fun h=>List.map_eq_nil_iff.1 h
 have d:=Zkn hi
 rw [h2,h4] at d
 simp only at d
 have g1:runO C y E L=some (v2,u2)∧recO C E L y u2=recO C E (updL L u1) y u2:=by
  rcases d with ⟨_,_,d⟩|⟨d1,d2,_⟩|⟨_,d1,_,d2,_⟩
  ·have:=keysNil d;subst this;exact ⟨h3,rfl⟩
  ·have hk:∀ k∈(recO C E (updL L u1) y u2).2,updL L u1 k=L k:=fun k hk=>by rw [d2] at hk;simp at hk
   exact ⟨Zkc h3 d1 hk,(ZjV d1 hk).symm⟩
  ·have hk:∀ k∈(recO C E (updL L u1) y u2).2,updL L u1 k=L k:=fun k hk=>Zbh (d2 k hk)
   exact ⟨Zkc h3 d1 hk,(ZjV d1 hk).symm⟩
 have g2:runO C x E (updL L u2)=some (v1,u1)∧recO C E L x u1=recO C E (updL L u2) x u1:=by
  rcases d with ⟨d1,d2,_⟩|⟨_,_,d⟩|⟨d1,_,d2,_,_⟩
  ·have hk:∀ k∈(recO C E L x u1).2,L k=updL L u2 k:=fun k hk=>by rw [d2] at hk;simp at hk
   exact ⟨Zkc h1 d1 hk,ZjV d1 hk⟩
  ·have:=keysNil d;subst this;exact ⟨h1,rfl⟩
  ·have hk:∀ k∈(recO C E L x u1).2,L k=updL L u2 k:=fun k hk=>(Zbh (d2 k hk)).symm
   exact ⟨Zkc h1 d1 hk,ZjV d1 hk⟩
 have g3:updL (updL L u1) u2=updL (updL L u2) u1:=by
  rcases d with ⟨_,_,d⟩|⟨_,_,d⟩|⟨_,_,_,_,d⟩
  ·have:=keysNil d;subst this;rfl
  ·have:=keysNil d;subst this;rfl
  ·exact ZlF d
 refine ⟨v2,u2,g1.1,?_,v1,u1,?_,?_,?_⟩
 ·simp only [ZkU,g1.2];exact h4
 ·rw [←Zpz e2];exact g2.1
 ·simp only [ZkU,←q2,←g2.2];exact h2
 ·rw [←g3,←Zlw s3];exact h5
theorem Runs.front:∀ {pre:List (VOper × Rec)}{y:VOper × Rec}{post:List (VOper × Rec)}{E:Nat→Option V}{L:Nat→Option Obj},(∀ x∈pre,ZhS x.1 y.1=true∧ZgL x.2 y.2=true) →
 Runs C (pre++y::post) E L E' L'→Runs C (y::(pre++post)) E L E' L'
 | [],_,_,_,_,_,h=>h
 | x::pre,y,post,E,L,hp,h=>by
  obtain ⟨v,u,h1,h2,h3⟩:=h
  have h4:Runs C (x::y::(pre++post)) E L E' L':=⟨v,u,h1,h2,Runs.front (fun z hz=>hp z (by simp [hz])) h3⟩
  exact Runs.swap (hp x (by simp)).1 (hp x (by simp)).2 h4
theorem Zny {o:VOper}(hp:(ZdD o.op && o.own.isEmpty)=true){v:V}{u:Upd}(h:runO C o E L=some (v,u)):(ZkU C E L o u).touch=false:=by
 simp only [Bool.and_eq_true,List.isEmpty_iff] at hp
 obtain ⟨h1,h2⟩:=hp
 have hu:u=[]:=by
  have key:∀ q,Zae C E L o.oid o.op=some q→q.2=[]:=by
   intro q hq
   cases hop:o.op<;>rw [hop] at h1 hq<;>simp only [ZdD,Bool.false_eq_true] at h1<;>simp only [Zae] at hq
   all_goals
    first
    | (cases hq;rfl)
    | (repeat' split at hq)<;>first | (cases hq;done) | (cases hq;rfl) | (obtain ⟨_,_,rfl⟩:=Option.map_eq_some_iff.1 hq;rfl) | (rename_i x _ _;cases hx:Zas x<;>rw [hx] at hq<;>cases hq;rfl)
  unfold runO at h
  rw [h2] at h
  simp only [ownV] at h
  split at h
  ·split at h
   ·cases h
   ·rename_i q hq
    cases h
    exact key _ hq
  ·split at h
   ·rename_i b _
    cases hb:(b == _) with
    | false=>rw [hb] at h;cases h;rfl
    | true =>
     rw [hb] at h
     simp only [cond_true] at h
     split at h
     ·cases h
     ·rename_i q hq
      cases h
      exact key _ hq
   ·cases h;rfl
   ·cases h
 subst hu
 have hr:recO C E L o []=(false,[]):=by
  unfold recO
  rw [h2]
  simp only
  cases hop:o.op<;>rw [hop] at h1<;>simp only [ZdD,Bool.false_eq_true] at h1<;>rfl
 simp [ZkU,Rec.touch,hr]
end
def Zfs (P:Program)(N:Nat)(ops:Array Oper):List Oper→List VOper→Bool
 | [],[]=>true
 | o::os,x::xs=>Zhy P N ops o x && Zfs P N ops os xs
 | _,_=>false
def Zh0 (o:Oper):List Nat:=(o.after.toList.filter (Region.binds .any)).map (·.on)
def Zgs:List Oper→List (List Nat)→List (List Nat)
 | [],acc=>acc
 | o::r,acc=>Zgs r (acc++[nubs ((Zh0 o).flatMap fun e=>e::(acc[e]?).getD [])])
def ZgU (o:VOper):Bool:=ZdD o.op && o.own.isEmpty
def Zm0 (ops:Array Oper):Bool:=(List.range ops.size).all fun i=>match ops[i]? with | some o=>(Zh0 o).all fun e=>Nat.blt e i | none=>true
def ZpA (vops:List VOper)(anc:List (List Nat))(chk:List (Nat × Nat))(i j:Nat):Bool :=
 ((anc[j]?).getD []).contains i || (match vops[i]?,vops[j]? with
   | some x,some y=>ZhS x y && (ZgU x || ZgU y || chk.contains (i,j))
   | _,_=>false)
def ZfT (ops:Array Oper)(vops:List VOper)(chk:List (Nat × Nat)):Bool :=
 let anc:=Zgs ops.toList []
 Zm0 ops && (List.range vops.length).all fun j=>(List.range j).all fun i=>ZpA vops anc chk i j
def Zem (P:Program)(N:Nat)(ops:Array Oper)(vops:List VOper)(chk:List (Nat × Nat))(draw:Bool):Bool :=
 Zfs P N ops ops.toList vops && (!draw || ZfT ops vops chk)
def Zcs (C:Ctx)(vops:List VOper)(chk:List (Nat × Nat))(s:St):Option St :=
 match chk with
 | []=>Zfh C vops s
 | _=>match ZcC C vops s with
  | none=>none
  | some (rs,s')=>bif ZdH rs chk then some s' else none
section
variable {P:Program}{C:Ctx}{N:Nat}{w0:World}{ω0:Nat→Nat}{S:Fr}{E E':Nat→Option V}{L L':Nat→Option Obj}{a:Act}{w:World}{ω:Nat→Nat}{β:Nat→Option Nat}
variable {ops:Array Oper}
theorem Zc6:∀ {os:List Oper}{xs:List VOper},Zfs P N ops os xs=true→os.length=xs.length∧∀ (i:Nat)(x:VOper),xs[i]?=some x→∃ o,os[i]?=some o∧Zhy P N ops o x=true
 | [],[],_=>⟨rfl,fun i x h=>by simp at h⟩
 | [],_::_,h=>by simp [Zfs] at h
 | _::_,[],h=>by simp [Zfs] at h
 | o::os,y::xs,h=>by
  simp only [Zfs,Bool.and_eq_true] at h
  obtain ⟨h1,h2⟩:=Zc6 h.2
  refine ⟨by simp [h1],fun i x hi => ?_⟩
  cases i with
  | zero =>
   simp only [List.getElem?_cons_zero,Option.some.injEq] at hi
   subst hi
   exact ⟨o,rfl,h.1⟩
  | succ i =>
   simp only [List.getElem?_cons_succ] at hi ⊢
   exact h2 i x hi
theorem Zeu:∀ {vops:List VOper}{s s':St}{rs:List Rec},ZcC C vops s=some (rs,s')→rs.length=vops.length∧Runs C (vops.zip rs) (get? s.env) (look s.objs) (get? s'.env) (look s'.objs)
 | [],s,s',rs,h=>by
  simp only [ZcC,Option.some.injEq,Prod.mk.injEq] at h
  obtain ⟨rfl,rfl⟩:=h
  exact ⟨rfl,rfl,rfl⟩
 | o::r,s,s',rs,h=>by
  simp only [ZcC] at h
  split at h
  ·cases h
  ·rename_i v u hv
   split at h
   ·cases h
   ·rename_i rs' s2 hr
    simp only [Option.some.injEq,Prod.mk.injEq] at h
    obtain ⟨rfl,rfl⟩:=h
    obtain ⟨h1,h2⟩:=Zeu hr
    refine ⟨by simp [h1],v,u,hv,rfl,?_⟩
    cases hd:o.dst with
    | none=>rw [hd] at h2;simp only [Zfc] at h2;exact h2
    | some d=>rw [hd] at h2;simp only [Zfc,Zdb] at h2;exact h2
theorem ZdG:∀ {vops:List VOper}{s s':St},Zfh C vops s=some s'→∃ rs,ZcC C vops s=some (rs,s')
 | [],s,s',h=>by
  simp only [Zfh,Option.some.injEq] at h
  subst h
  exact ⟨[],rfl⟩
 | o::r,s,s',h=>by
  simp only [Zfh,Zqw] at h
  cases hr:runO C o (get? s.env) (look s.objs) with
  | none=>rw [hr] at h;cases h
  | some q =>
   obtain ⟨v,u⟩:=q
   rw [hr] at h
   obtain ⟨rs,h1⟩:=ZdG h
   simp only [ZcC,hr]
   rw [h1]
   exact ⟨_,rfl⟩
theorem Zi0 (hC:Zbt P C){Q:Exit→Act→World→Prop}:∀ {os:List Oper}{vops:List VOper}{rs:List Rec}{E:Nat→Option V}{L:Nat→Option Obj}{a:Act}{w:World}{ω:Nat→Nat}{β:Nat→Option Nat},
 Rel C.gl N w0 ω0 S E L a w ω β→Zfs P N ops os vops=true→rs.length=vops.length→Runs C (vops.zip rs) E L E' L' →
 (∀ a w ω β,Rel C.gl N w0 ω0 S E' L' a w ω β→Q .normal a w)→wpList P ops Q os a w
 | [],[],rs,E,L,a,w,ω,β,r,_,_,h,hQ=>by
  simp only [List.zip_nil_left,Runs] at h
  obtain ⟨rfl,rfl⟩:=h
  exact hQ a w ω β r
 | [],_::_,_,_,_,_,_,_,_,_,h,_,_,_=>by simp [Zfs] at h
 | _::_,[],_,_,_,_,_,_,_,_,h,_,_,_=>by simp [Zfs] at h
 | o::os,x::xs,[],_,_,_,_,_,_,_,_,h,_,_=>by simp at h
 | o::os,x::xs,y::rs,E,L,a,w,ω,β,r,hm,hl,h,hQ=>by
  simp only [Zfs,Bool.and_eq_true] at hm
  obtain ⟨v,u,h1,_,h3⟩:=h
  exact Zk8 hC r hm.1 h1 fun a' w' ω' β' r'=>Zi0 hC r' hm.2 (by simpa using hl) h3 hQ
theorem ZhU {os:List Oper}(lst:Nat→Bool)(hc:∀ (j:Nat)(o:Oper),os[j]?=some o→lst j=true→∀ e∈Zh0 o,lst e=true) :
 ∀ (r:List Oper) (acc:List (List Nat)),os.drop acc.length=r→acc.length≤os.length →
 (∀ (j:Nat) (l:List Nat) (o:Oper),acc[j]?=some l→os[j]?=some o→(∀ e∈Zh0 o,lst e=true)→∀ i∈l,lst i=true) →
 ∀ (j:Nat) (l:List Nat) (o:Oper),(Zgs r acc)[j]?=some l→os[j]?=some o→(∀ e∈Zh0 o,lst e=true)→∀ i∈l,lst i=true
 | [],acc,_,_,h=>by simpa only [Zgs] using h
 | o::r,acc,hd,hlen,h=>by
  simp only [Zgs]
  have ho:os[acc.length]?=some o:=by
   have:=congrArg (·[0]?) hd
   simpa using this
  have hlt:acc.length<os.length:=(List.getElem?_eq_some_iff.1 ho).1
  refine ZhU lst hc r _ ?_ (by simp;omega) ?_
  ·rw [List.length_append,List.length_singleton,←List.drop_drop,hd]
   rfl
  ·intro j l oj hj hoj hp i hi
   by_cases hjl:j<acc.length
   ·rw [List.getElem?_append_left hjl] at hj
    exact h j l oj hj hoj hp i hi
   ·rw [List.getElem?_append_right (by omega)] at hj
    have hz:j-acc.length=0:=by
     have:=(List.getElem?_eq_some_iff.1 hj).1
     simp at this
     omega
    have:j=acc.length:=by omega
    subst this
    rw [hz] at hj
    simp only [List.getElem?_cons_zero,Option.some.injEq] at hj
    subst hj
    rw [ho] at hoj
    cases hoj
    rw [Ze2,List.mem_flatMap] at hi
    obtain ⟨e,he,hi⟩:=hi
    rcases List.mem_cons.1 hi with rfl|hi
    ·exact hp _ he
    ·cases hq:acc[e]? with
     | none=>rw [hq] at hi;simp at hi
     | some le =>
      rw [hq] at hi
      simp only [Option.getD_some] at hi
      have hel:e<acc.length:=(List.getElem?_eq_some_iff.1 hq).1
      have heo:os[e]?=some os[e]:=List.getElem?_eq_getElem (by omega)
      exact h e le _ hq heo (fun e' he'=>hc e _ heo (hp e he) e' he') i hi
def Zdk (n:Nat)(listed:Array Bool):List Nat:=(List.range n).filter fun i=>!listed.getD i true
theorem ZfL:∀ {pre post:List Nat}{i:Nat},(pre++i::post).Nodup→(pre++i::post).filter (· != i)=pre++post:=by
 intro pre post i h
 rw [List.nodup_append,List.nodup_cons] at h
 obtain ⟨_,⟨h2,_⟩,h4⟩:=h
 rw [List.filter_append,List.filter_cons]
 simp only [bne_self_eq_false,Bool.false_eq_true,if_false]
 rw [List.filter_eq_self.2,List.filter_eq_self.2]
 ·intro x hx
  simp only [bne_iff_ne,ne_eq]
  exact fun e=>h2 (e▸hx)
 ·intro x hx
  simp only [bne_iff_ne,ne_eq]
  exact h4 x hx i (by simp)
theorem Zm5 {n i:Nat}{listed:Array Bool}(hi:i<listed.size):Zdk n (listed.setIfInBounds i true)=(Zdk n listed).filter (· != i):=by
 unfold Zdk
 rw [List.filter_filter]
 congr 1
 funext j
 by_cases h:j=i
 ·subst h;simp [hi]
 ·rw [show (listed.setIfInBounds i true).getD j true=listed.getD j true by simp [Array.getElem?_setIfInBounds_ne (Ne.symm h)]]
  simp [h]
theorem ZdA (n:Nat)(listed:Array Bool):(Zdk n listed).Pairwise (· < ·):=List.Pairwise.filter _ List.pairwise_lt_range
theorem ZpK (hC:Zbt P C){Q:Exit→Act→World→Prop}{vops:List VOper}{rs:List Rec}{chk:List (Nat × Nat)}(hm:Zfs P N ops ops.toList vops=true)(ho:ZfT ops vops chk=true)
 (hl:rs.length=vops.length) (hk:ZdH rs chk=true) (hpl:∀ (i:Nat) (x:VOper) (y:Rec),vops[i]?=some x→rs[i]?=some y→ZgU x=true→y.touch=false)
 (hQ:∀ a w ω β,Rel C.gl N w0 ω0 S E' L' a w ω β→Q .normal a w) :
 ∀ (fuel:Nat) {listed:Array Bool} {E:Nat→Option V} {L:Nat→Option Obj} {a:Act} {w:World} {ω:Nat→Nat} {β:Nat→Option Nat},listed.size=ops.size →
 (∀ (j:Nat) (o:Oper),ops.toList[j]?=some o→listed.getD j false=true→∀ e∈Zh0 o,listed.getD e false=true) →
 (Zdk ops.size listed).length≤fuel→Rel C.gl N w0 ω0 S E L a w ω β →
 Runs C ((Zdk ops.size listed).map fun i=>((vops[i]?).getD default,(rs[i]?).getD default)) E L E' L'→wpAny P .any ops Q fuel listed a w:=by
 obtain ⟨hlen,hget⟩:=Zc6 hm
 rw [Array.length_toList] at hlen
 unfold ZfT at ho
 simp only [Bool.and_eq_true] at ho
 obtain ⟨hback,hpairs⟩:=ho
 have ready_of:∀ (listed:Array Bool),listed.size=ops.size→Region.ready .any ops listed=[]→Zdk ops.size listed=[]:=by
  intro listed hsz hr
  cases hrem:Zdk ops.size listed with
  | nil=>rfl
  | cons i rest =>
   exfalso
   have hi:i∈Zdk ops.size listed:=by rw [hrem];simp
   have hi':=List.mem_filter.1 hi
   have hilt:i<ops.size:=List.mem_range.1 hi'.1
   have hpw:=ZdA ops.size listed
   rw [hrem,List.pairwise_cons] at hpw
   have:i∈Region.ready .any ops listed:=by
    rw [mem_ready]
    refine ⟨by simpa using hi'.2,ops[i],by simp [hilt],fun e he hb => ?_⟩
    have hp:e.on∈Zh0 ops[i]:=List.mem_map.2 ⟨e,List.mem_filter.2 ⟨by simpa using he,hb⟩,rfl⟩
    have hlt:e.on<i:=by
     have:=List.all_eq_true.1 hback i (List.mem_range.2 hilt)
     rw [Array.getElem?_eq_getElem hilt] at this
     exact Nat.le_of_ble_eq_true (List.all_eq_true.1 this e.on hp)
    cases hle:listed.getD e.on false with
    | true=>rfl
    | false =>
     exfalso
     have hmem:e.on∈Zdk ops.size listed:=by
      refine List.mem_filter.2 ⟨List.mem_range.2 (by omega),?_⟩
      have:e.on<listed.size:=by omega
      simp [this] at hle ⊢
      exact hle
     rw [hrem] at hmem
     rcases List.mem_cons.1 hmem with h|h
     ·omega
     ·have:=hpw.1 _ h;omega
   rw [hr] at this
   simp at this
 intro fuel
 induction fuel with
 | zero =>
  intro listed E L a w ω β hsz hcl hf r hruns
  have hrem:Zdk ops.size listed=[]:=List.eq_nil_of_length_eq_zero (by omega)
  refine ⟨?_,?_⟩
  ·rw [List.eq_nil_iff_forall_not_mem]
   intro j hj
   obtain ⟨h1,o,h2,_⟩:=mem_ready.1 hj
   have:j∈Zdk ops.size listed:=List.mem_filter.2 ⟨List.mem_range.2 (Array.getElem?_eq_some_iff.1 h2).1,by rw [h1];rfl⟩
   rw [hrem] at this
   simp at this
  ·rw [hrem] at hruns
   obtain ⟨rfl,rfl⟩:=hruns
   exact hQ a w ω β r
 | succ fuel ih =>
  intro listed E L a w ω β hsz hcl hf r hruns
  refine ⟨fun hr => ?_,fun i hi => ?_⟩
  ·have hrem:=ready_of listed hsz hr
   rw [hrem] at hruns
   obtain ⟨rfl,rfl⟩:=hruns
   exact hQ a w ω β r
  ·obtain ⟨h1,o,h2,h3⟩:=mem_ready.1 hi
   have hilt:i<ops.size:=(Array.getElem?_eq_some_iff.1 h2).1
   have hmem:i∈Zdk ops.size listed:=List.mem_filter.2 ⟨List.mem_range.2 hilt,by rw [h1];rfl⟩
   obtain ⟨pre,post,hsplit⟩:=List.append_of_mem hmem
   have hpw:=ZdA ops.size listed
   have hnd:(pre++i::post).Nodup:=by
    rw [hsplit] at hpw
    exact hpw.imp (fun h=>by omega)
   have hx:vops[i]?=some vops[i]:=List.getElem?_eq_getElem (by omega)
   obtain ⟨o',ho1,ho2⟩:=hget i _ hx
   have hoo:o'=o:=by
    rw [Array.getElem?_toList,h2] at ho1
    exact (Option.some.inj ho1).symm
   subst hoo
   have hpi:∀ e∈Zh0 o',listed.getD e false=true:=by
    intro e he
    obtain ⟨e',he',rfl⟩:=List.mem_map.1 he
    obtain ⟨he1,he2⟩:=List.mem_filter.1 he'
    exact h3 e' (by simpa using he1) he2
   have hanc:=ZhU (os:=ops.toList) (fun j=>listed.getD j false) hcl ops.toList [] rfl (by simp) (by simp)
   rw [hsplit,List.map_append,List.map_cons] at hruns
   have hfront:=Runs.front ?_ hruns
   ·rw [←List.map_append,hx] at hfront
    obtain ⟨v,u,g1,_,g3⟩:=hfront
    simp only [Option.getD_some] at g1 g3
    simp only [wpOp,h2]
    refine Zk8 hC r ho2 g1 fun a' w' ω' β' r' => ?_
    have hset:Zdk ops.size (listed.setIfInBounds i true)=pre++post:=by
     rw [Zm5 (by omega),hsplit,ZfL hnd]
    refine ih (by simpa using hsz) ?_ ?_ r' ?_
    ·intro j oj hj hlj e he
     have hmono:∀ j,listed.getD j false=true→(listed.setIfInBounds i true).getD j false=true:=by
      intro j hj
      by_cases hji:j=i
      ·subst hji;simp [show j<listed.size by omega]
      ·rw [show (listed.setIfInBounds i true).getD j false=listed.getD j false by simp [Array.getElem?_setIfInBounds_ne (Ne.symm hji)]];exact hj
     refine hmono e ?_
     by_cases hji:j=i
     ·subst hji
      rw [Array.getElem?_toList,h2] at hj
      cases hj
      exact hpi e he
     ·rw [show (listed.setIfInBounds i true).getD j false=listed.getD j false by simp [Array.getElem?_setIfInBounds_ne (Ne.symm hji)]] at hlj
      exact hcl j oj hj hlj e he
    ·rw [hset]
     have:=congrArg List.length hsplit
     simp only [List.length_append,List.length_cons] at this ⊢
     omega
    ·rw [hset];exact g3
   ·intro p hp
    obtain ⟨j,hj,rfl⟩:=List.mem_map.1 hp
    have hjm:j∈Zdk ops.size listed:=by rw [hsplit];simp [hj]
    have hjlt:j<i:=by
     rw [hsplit,List.pairwise_append] at hpw
     exact hpw.2.2 j hj i (by simp)
    have hjn:listed.getD j true=false:=by simpa using (List.mem_filter.1 hjm).2
    have hq:=List.all_eq_true.1 (List.all_eq_true.1 hpairs i (List.mem_range.2 (by omega))) j (List.mem_range.2 hjlt)
    have hxj:vops[j]?=some vops[j]:=List.getElem?_eq_getElem (by omega)
    have hrj:rs[j]?=some rs[j]:=List.getElem?_eq_getElem (by omega)
    have hri:rs[i]?=some rs[i]:=List.getElem?_eq_getElem (by omega)
    unfold ZpA at hq
    simp only [hx,hxj,Bool.or_eq_true,Bool.and_eq_true] at hq
    simp only [hx,hxj,hri,hrj,Option.getD_some]
    rcases hq with hq|⟨hq1,hq2⟩
    ·exfalso
     cases hai:(Zgs ops.toList [])[i]? with
     | none=>rw [hai] at hq;simp at hq
     | some l =>
      rw [hai] at hq
      have:=hanc i l o' hai (by rw [Array.getElem?_toList,h2]) hpi j (by simpa using hq)
      have hjs:j<listed.size:=by omega
      simp [hjs] at this hjn
      rw [this] at hjn
      cases hjn
    ·refine ⟨hq1,?_⟩
     rcases hq2 with (hq2|hq2)|hq2
     ·have:=hpl j _ _ hxj hrj hq2
      simp [ZgL,this]
     ·have:=hpl i _ _ hx hri hq2
      simp [ZgL,this]
     ·have:=List.all_eq_true.1 hk (j,i) (by simpa using hq2)
      simp only [hri,hrj] at this
      exact this
end
end Go.Vs
namespace Go.Vs
open Go Go.RowKit
theorem Zlj (x:Int)(h:-4611686018427387904≤x∧x≤4611686018427387904):IntKind.i64.wrap x=x:=Go.IntWalk.i64_in x (by omega)
def opIs (o:Oper)(d:Nat)(p:Op→Bool):Bool:=o.dst == some d && o.guard.isNone && p o.op
def Zlh (t:TypeId)(x:Nat):Op→Bool
 | .load t' (.tmp m)=>t' == t && m == x
 | _=>false
def qLen (t:TypeId)(x:Nat):Op→Bool
 | .call { callee:=.builtin .len,args:=⟨[.tmp m]⟩,argTypes:=⟨[t']⟩ }=>t' == t && m == x
 | _=>false
def qSub (x:Nat):Op→Bool
 | .binOp .sub _ (.tmp m) (.const (.int .i64 n)) _=>m == x && n == 1
 | _=>false
def qGeq (x:Nat):Op→Bool
 | .binOp .geq _ (.tmp m) (.const (.int .i64 n)) _=>m == x && n == 0
 | _=>false
def qMv (x:Nat):Op→Bool
 | .move (.tmp m)=>m == x
 | _=>false
def qAsg (x:Nat):Op→Bool
 | .assign (.tmp m)=>m == x
 | _=>false
def qIdx (t:TypeId)(x y:Nat):Op→Bool
 | .indexAddr t' (.tmp m) (.tmp n)=>t' == t && m == x && n == y
 | _=>false
def Zns (g x y:Nat):Op→Bool
 | .call { callee:=.value (.tmp k),args:=⟨[.tmp m,.tmp n]⟩,argTypes:=_ }=>k == g && m == x && n == y
 | _=>false
def qNot (x:Nat):Op→Bool
 | .unOp .not _ (.tmp m)=>m == x
 | _=>false
theorem ZgV {t:TypeId}{x:Nat}{op:Op}(h:Zlh t x op=true):op=.load t (.tmp x):=by
 unfold Zlh at h
 split at h
 ·simp only [Bool.and_eq_true,beq_iff_eq] at h
  rw [h.1,h.2]
 ·cases h
theorem ZpY {t:TypeId}{x:Nat}{op:Op}(h:qLen t x op=true):op=.call { callee:=.builtin .len,args:=#[.tmp x],argTypes:=#[t] }:=by
 unfold qLen at h
 split at h
 ·simp only [Bool.and_eq_true,beq_iff_eq] at h
  rw [h.1,h.2]
 ·cases h
theorem ZmJ {x:Nat}{op:Op}(h:qSub x op=true):∃ u v,op=.binOp .sub u (.tmp x) (.const (.int .i64 1)) v:=by
 unfold qSub at h
 split at h
 ·simp only [Bool.and_eq_true,beq_iff_eq] at h
  rw [h.1,h.2]
  exact ⟨_,_,rfl⟩
 ·cases h
theorem ZqB {x:Nat}{op:Op}(h:qGeq x op=true):∃ u v,op=.binOp .geq u (.tmp x) (.const (.int .i64 0)) v:=by
 unfold qGeq at h
 split at h
 ·simp only [Bool.and_eq_true,beq_iff_eq] at h
  rw [h.1,h.2]
  exact ⟨_,_,rfl⟩
 ·cases h
theorem Zh9 {x:Nat}{op:Op}(h:qMv x op=true):op=.move (.tmp x):=by
 unfold qMv at h
 split at h
 ·simp only [beq_iff_eq] at h
  rw [h]
 ·cases h
theorem Zmv {x:Nat}{op:Op}(h:qAsg x op=true):op=.assign (.tmp x):=by
 unfold qAsg at h
 split at h
 ·simp only [beq_iff_eq] at h
  rw [h]
 ·cases h
theorem Zrl {t:TypeId}{x y:Nat}{op:Op}(h:qIdx t x y op=true):op=.indexAddr t (.tmp x) (.tmp y):=by
 unfold qIdx at h
 split at h
 ·simp only [Bool.and_eq_true,beq_iff_eq] at h
  rw [h.1.1,h.1.2,h.2]
 ·cases h
theorem Zlt {g x y:Nat}{op:Op}(h:Zns g x y op=true):∃ u,op=.call { callee:=.value (.tmp g),args:=#[.tmp x,.tmp y],argTypes:=u }:=by
 unfold Zns at h
 split at h
 ·simp only [Bool.and_eq_true,beq_iff_eq] at h
  rw [h.1.1,h.1.2,h.2]
  exact ⟨_,rfl⟩
 ·cases h
theorem Zq9 {x:Nat}{op:Op}(h:qNot x op=true):∃ u,op=.unOp .not u (.tmp x):=by
 unfold qNot at h
 split at h
 ·simp only [beq_iff_eq] at h
  rw [h]
  exact ⟨_,rfl⟩
 ·cases h
def ZjF (P:Program)(f:FuncId)(t e:TypeId):Bool:=match P.funcs[f]? with
 | some fn=>fn.ntmps == 19 && fn.results.toList.isEmpty && (match fn.body with
  | some (.seq (.region _ ⟨[a0,a1,a2,a3]⟩ false) (.block b0 (.loop (.seq (.seq (.region _ ⟨[c0,c1]⟩ false) (.cond (.tmp 8) .skip (.exit b1)))
   (.seq (.block _ (.seq (.region _ ⟨[d0,d1,d2,d3,d4,d5,d6,d7]⟩ false) (.cond (.tmp 18) .ret .skip))) (.region _ ⟨[e0,e1,e2]⟩ false)))))) =>
   b0 == b1 &&
   opIs a0 4 (Zlh t 1) && opIs a1 5 (qLen t 4) && opIs a2 6 (qSub 5) && opIs a3 3 (qAsg 6) && opIs c0 7 (qMv 3) && opIs c1 8 (qGeq 7) && opIs d0 11 (qMv 0) && opIs d1 12 (qMv 3) && opIs d2 13 (Zlh t 1) && opIs d3 14 (qMv 3) && opIs d4 15 (qIdx t 13 14) && opIs d5 16 (Zlh e 15) && opIs d6 17 (Zns 11 12 16) && opIs d7 18 (qNot 17) && opIs e0 9 (qMv 3) && opIs e1 10 (qSub 9) && opIs e2 3 (qAsg 10)
  | _=>false)
 | none=>false
def ZnQ (P:Program)(f:FuncId):Option (TypeId × TypeId):=match P.funcs[f]? with
 | some fn=>match fn.body with
  | some (.seq (.region _ ⟨a0::_⟩ _) (.block _ (.loop (.seq _ (.seq (.block _ (.seq (.region _ ⟨[_,_,_,_,_,d5,_,_]⟩ _) _)) _)))))=>match a0.op,d5.op with
   | .load t _,.load e _=>some (t,e)
   | _,_=>none
  | _=>none
 | none=>none
def Zqo (P:Program)(f:FuncId)(s:Nat)(ag:Bool):Bool:=match ZnQ P f with
 | some (t,e)=>ZjF P f t e && (match P.underlying t with | some (.slice e')=>e' == e | _=>false) && (match P.info? t with | some i=>i.size == 1 | none=>false) && !ZaA P t && (P.underlying e).isSome &&
  (match P.info? e with | some i => i.size == s | none => false) && ZaA P e == ag && (ag || s == 1) && (match P.funcs[f]? with | some fn => fn.body.isSome && fn.name != "runtime.NumGoroutine" | none => false)
 | none=>false
theorem Zg0 {a:Act}{d t:Nat}{v:Value}(h:d<a.tmps.size):(a.put (some d) v).eval (.tmp t)=if t=d then v else a.eval (.tmp t):=by
 by_cases htd:t=d
 ·subst htd
  simp [Act.put,Act.eval,h]
 ·rw [if_neg htd]
  simp [Act.put,Act.eval,Array.getElem?_setIfInBounds_ne (Ne.symm htd)]
theorem ZoQ {a:Act}{d:Nat}{v:Value}:(a.put (some d) v).tmps.size=a.tmps.size:=by simp [Act.put]
section
variable {P:Program}{n:Nat}{ops:Array Oper}{Q:Exit→Act→World→Prop}{a:Act}{w w':World}{o:Oper}{i:Nat}{rest:List Nat}
theorem Zbs {d:Nat}{p:Op→Bool}(h:opIs o d p=true):o.dst=some d∧o.guard=none∧p o.op=true:=by
 unfold opIs at h
 simp only [Bool.and_eq_true,beq_iff_eq,Option.isNone_iff_eq_none] at h
 exact ⟨h.1.1,h.1.2,h.2⟩
theorem Zb3 {F:Fence}(hF:∀ f,F.fn f){d:Nat}(ho:ops[i]?=some o)(hd:o.dst=some d)(hg:o.guard=none)(hd':∀ c,o.op≠.defer c){v:Value}(hrun:(execOp a.eval o).run P w=.ok (.value v) w')(h:wpOpsIn F n P ops Q rest (a.put (some d) v) w') :
 wpOpsIn F n P ops Q (i::rest) a w:=by
 simp only [wpOpsIn,ho]
 rw [if_pos (by simp [Region.wanted,hg])]
 refine ⟨fun f _=>hF f,?_⟩
 rw [Oper.semAt_eq _ _ _ hd',hrun]
 show wpOpsIn F n P ops Q rest (a.put o.dst v) w'
 rw [hd]
 exact h
def KpB (Bs b off m:Nat)(W W':World):Prop:=(∀ v,W.cell? ⟨Bs,0,none⟩=some v→W'.cell? ⟨Bs,0,none⟩=some v)∧∀ k,k<m→∀ v,W.cell? ⟨b,off+k,none⟩=some v→W'.cell? ⟨b,off+k,none⟩=some v
structure BackAct (l Bs:Nat)(a:Act):Prop where
 size:a.tmps.size=19
 defers:a.defers=[]
 y:a.eval (.tmp 0)=.func (.yield l) #[] #[]
 p:a.eval (.tmp 1)=.pointer (some ⟨Bs,0,none⟩)
theorem BackAct.put {l Bs d:Nat}{a:Act}{v:Value}(h:BackAct l Bs a)(hd:2≤d)(hd2:d<19):BackAct l Bs (a.put (some d) v):=by
 have hs:d<a.tmps.size:=by rw [h.size];exact hd2
 exact ⟨by rw [ZoQ,h.size],h.defers,by rw [Zg0 hs,if_neg (by omega)];exact h.y,by rw [Zg0 hs,if_neg (by omega)];exact h.p⟩
theorem BackAct.at {l Bs d t:Nat}{a:Act}{v:Value}(h:BackAct l Bs a)(hd:d<19):(a.put (some d) v).eval (.tmp t)=if t=d then v else a.eval (.tmp t):=Zg0 (by rw [h.size];exact hd)
theorem Zh2 {t:TypeId}{it:TypeInfo}{x:Operand}{b o':Nat}{vs:List Value}(ho:o.op=.load t x)(hx:a.eval x=.pointer (some ⟨b,o',none⟩))(hu:(P.underlying t).isSome=true)(hi:P.info? t=some it)(hl:vs.length=it.size)
 (hag:ZaA P t=true∨vs.length=1) (h:∀ j v,vs[j]?=some v→w.cell? ⟨b,o'+j,none⟩=some v):(execOp a.eval o).run P w=.ok (.value (Zcp (ZaA P t) vs)) w:=by
 have hrun:=Zfn (P:=P) (w:=w) (b:=b) (off:=o') hu hi hl hag h
 simp only [execOp,ho,hx,Instr.loadAt,Sem.run_bind,Zb5,Result.andThen_ok,hrun,Sem.run_pure]
theorem Zd5 {x:Operand}(ho:o.op=.move x):(execOp a.eval o).run P w=.ok (.value (a.eval x)) w:=by
 simp [execOp,ho]
theorem Zgl {x:Operand}(ho:o.op=.assign x):(execOp a.eval o).run P w=.ok (.value (a.eval x)) w:=by
 simp [execOp,ho]
theorem Zre {x:Operand}{t e:TypeId}{base:Option Addr}{len cap:Nat}(ho:o.op=.call { callee:=.builtin .len,args:=#[x],argTypes:=#[t] })(hu:P.underlying t=some (.slice e))(hx:a.eval x=.slice base len cap):(execOp a.eval o).run P w=.ok (.value (.int .i64 len)) w:=by
 simp [execOp,ho,resolve,invoke,builtin,hx,Builtin.len_,run_underlying hu,goInt]
theorem Zkf {x:Operand}{t t':TypeId}{m:Int}(ho:o.op=.binOp .sub t x (.const (.int .i64 1)) t')(hx:a.eval x=.int .i64 m)(hm:-4611686018427387900≤m∧m≤4611686018427387900):(execOp a.eval o).run P w=.ok (.value (.int .i64 (m-1))) w:=by
 obtain ⟨vv,h1,h2⟩:=Zft (P:=P) (w:=w) (ω:=fun _=>0) (op:=.sub) (k:=.i64) (p:=m) (q:=1) (x:=.int .i64 (m-1)) rfl t (by simp only [ZbS,Zc4];rw [Zlj _ (by omega)])
 simp only [RD] at h1
 subst h1
 have hc:a.eval (.const (.int .i64 1))=.int .i64 1:=rfl
 have hg:=Zar (P:=P) (w:=w) (op:=.sub) (t:=t) (x:=x) (y:=.const (.int .i64 1)) (p:=.int .i64 m) (q:=.int .i64 1) rfl
 simp only [execOp,ho,hx,hc,Sem.run_bind,hg,Result.andThen_ok,h2,Sem.run_pure]
theorem ZoI {x:Operand}{t t':TypeId}{m:Int}(ho:o.op=.binOp .geq t x (.const (.int .i64 0)) t')(hx:a.eval x=.int .i64 m):(execOp a.eval o).run P w=.ok (.value (.bool (decide (m≥0)))) w:=by
 obtain ⟨vv,h1,h2⟩:=Zft (P:=P) (w:=w) (ω:=fun _=>0) (op:=.geq) (k:=.i64) (p:=m) (q:=0) (x:=.bool (decide (m≥0))) rfl t (by simp only [ZbS])
 simp only [RD] at h1
 subst h1
 have hc:a.eval (.const (.int .i64 0))=.int .i64 0:=rfl
 have hg:=Zar (P:=P) (w:=w) (op:=.geq) (t:=t) (x:=x) (y:=.const (.int .i64 0)) (p:=.int .i64 m) (q:=.int .i64 0) rfl
 simp only [execOp,ho,hx,hc,Sem.run_bind,hg,Result.andThen_ok,h2,Sem.run_pure]
theorem Zlp {x:Operand}{t:TypeId}{b:Bool}(ho:o.op=.unOp .not t x)(hx:a.eval x=.bool b):(execOp a.eval o).run P w=.ok (.value (.bool !b)) w:=by
 simp [execOp,ho,hx,Op.unary]
theorem ZmI {x y:Operand}{t e:TypeId}{ie:TypeInfo}{b off len cap j:Nat}(ho:o.op=.indexAddr t x y)(ht:P.underlying t=some (.slice e))(hi:P.info? e=some ie)(hx:a.eval x=.slice (some ⟨b,off,none⟩) len cap)(hy:a.eval y=.int .i64 j)(hj:j<len) :
 (execOp a.eval o).run P w=.ok (.value (.pointer (some ⟨b,off+j*ie.size,none⟩))) w:=by
 simp only [execOp,ho,hx,hy,Sem.run_bind,ZcV ht hi hj,Result.andThen_ok,Sem.run_pure]
theorem Zni {F:Fence}(hF:∀ f,F.fn f)(hro:F.round=none)(hdep:F.depth=none){d:Nat}{g:Operand}{args:Array Operand}{ts:Array TypeId}{l:Nat}{R:Ending→World→Prop}(ho:ops[i]?=some o)(hd:o.dst=some d)(hg:o.guard=none)
 (hop:o.op=.call { callee:=.value g,args:=args,argTypes:=ts }) (hy:a.eval g=.func (.yield l) #[] #[]) (h:YieldAt F (n-1) P l (args.map a.eval) w R)
 (hK:∀ e w',R e w'→∃ v,e=.returned v∧wpOpsIn F n P ops Q rest (a.put (some d) v) w'):wpOpsIn F n P ops Q (i::rest) a w:=by
 obtain ⟨fn,tmps,assign,body,hrun,hround⟩:=h
 simp only [wpOpsIn,ho]
 rw [if_pos (by simp [Region.wanted,hg])]
 refine ⟨fun f _=>hF f,?_⟩
 have hx:(execOp a.eval o).run P w=.ok (.round l fn tmps assign body) w:=by
  simp [execOp,hop,resolve,hy,invoke,Deferred.ofValue,hrun]
 rw [Oper.semAt_eq _ _ _ (by intro c hc;rw [hop] at hc;cases hc),hx,Oper.uponIn_round]
 refine ⟨by simp [hdep],hround.mono ?_⟩
 intro e w' hr
 obtain ⟨v,rfl,hk⟩:=hK e w' hr
 show wpOpsIn F n P ops Q rest (a.put o.dst v) w'
 rw [hd]
 exact hk
theorem Zbl (f:FuncId):Fence.wide.fn f:=trivial
theorem Zn2 {f:FuncId}{t e:TypeId}(hm:ZjF P f t e=true)(ht:P.underlying t=some (.slice e)){it ie:TypeInfo}(hit:P.info? t=some it)(hit1:it.size=1)(hat:ZaA P t=false)(hue:(P.underlying e).isSome=true)
 (hie:P.info? e=some ie) (hae:ZaA P e=true∨ie.size=1) {Bs b off len cap:Nat} {base:Option Addr} (us:Nat→List Value) (hlen:len≤4611686018427387900)
 (hbase:len=0∨base=some ⟨b,off,none⟩) (hul':∀ k,k<len→(us k).length=ie.size) {l:Nat} {J:Nat→World→Prop} {Jx:World→Prop} {W:World}
 (hW:W.cell? ⟨Bs,0,none⟩=some (.slice base len cap)∧∀ k,k<len→∀ j v,(us k)[j]?=some v→W.cell? ⟨b,off+(k*ie.size+j),none⟩=some v)
 (hY:∀ m,m<len→∀ W1,J (m+1) W1→YieldAt Fence.wide (n-1) P l #[.int .i64 (m:Int),Zcp (ZaA P e) (us m)] W1 fun e' W' =>
   (e'=.returned (.bool true)∧J m W'∧KpB Bs b off (len*ie.size) W1 W')∨(e'=.returned (.bool false)∧Jx W')) (h0:J len W) :
 CallsIn Fence.wide n P f #[.func (.yield l) #[] #[],.pointer (some ⟨Bs,0,none⟩)] W fun e' W'=>(∃ v,e'=.returned v)∧(J 0 W'∨Jx W'):=by
 have hgood:∃ Good:World→Prop,Good W∧(∀ W1 W2,Good W1→KpB Bs b off (len*ie.size) W1 W2→Good W2)∧(∀ W1,Good W1→W1.cell? ⟨Bs,0,none⟩=some (.slice base len cap)∧∀ k,k<len→∀ j v,(us k)[j]?=some v→W1.cell? ⟨b,off+(k*ie.size+j),none⟩=some v):=by
  refine ⟨fun W1=>W1.cell? ⟨Bs,0,none⟩=some (.slice base len cap)∧∀ k,k<len→∀ j v,(us k)[j]?=some v→W1.cell? ⟨b,off+(k*ie.size+j),none⟩=some v,?_,?_,fun _ h=>h⟩
  ·exact hW
  ·intro W1 W2 h1 hk
   refine ⟨hk.1 _ h1.1,fun k hkl j v hv=>hk.2 _ ?_ v (h1.2 k hkl j v hv)⟩
   have hj:j<ie.size:=by rw [←hul' k hkl];exact (List.getElem?_eq_some_iff.1 hv).1
   have:=Nat.mul_le_mul_right ie.size (show k+1≤len by omega)
   rw [Nat.add_mul] at this
   omega
 obtain ⟨Good,g0,gk,gg⟩:=hgood
 unfold ZjF at hm
 split at hm
 ·rename_i fn hfn
  simp only [Bool.and_eq_true,beq_iff_eq,List.isEmpty_iff,Array.toList_eq_nil_iff] at hm
  obtain ⟨⟨hnt,hres⟩,hm⟩:=hm
  split at hm
  ·rename_i r0 a0 a1 a2 a3 b0 r1 c0 c1 b1 bb r3 d0 d1 d2 d3 d4 d5 d6 d7 r2 e0 e1 e2 hbody
   simp only [Bool.and_eq_true,beq_iff_eq] at hm
   obtain ⟨⟨⟨⟨⟨⟨⟨⟨⟨⟨⟨⟨⟨⟨⟨⟨⟨hbb,ha0⟩,ha1⟩,ha2⟩,ha3⟩,hc0⟩,hc1⟩,hd0⟩,hd1⟩,hd2⟩,hd3⟩,hd4⟩,hd5⟩,hd6⟩,hd7⟩,he0⟩,he1⟩,he2⟩:=hm
   subst hbb
   obtain ⟨ha0d,ha0g,ha0⟩:=Zbs ha0
   obtain ⟨ha1d,ha1g,ha1⟩:=Zbs ha1
   obtain ⟨ha2d,ha2g,ha2⟩:=Zbs ha2
   obtain ⟨ha3d,ha3g,ha3⟩:=Zbs ha3
   obtain ⟨hc0d,hc0g,hc0⟩:=Zbs hc0
   obtain ⟨hc1d,hc1g,hc1⟩:=Zbs hc1
   obtain ⟨hd0d,hd0g,hd0⟩:=Zbs hd0
   obtain ⟨hd1d,hd1g,hd1⟩:=Zbs hd1
   obtain ⟨hd2d,hd2g,hd2⟩:=Zbs hd2
   obtain ⟨hd3d,hd3g,hd3⟩:=Zbs hd3
   obtain ⟨hd4d,hd4g,hd4⟩:=Zbs hd4
   obtain ⟨hd5d,hd5g,hd5⟩:=Zbs hd5
   obtain ⟨hd6d,hd6g,hd6⟩:=Zbs hd6
   obtain ⟨hd7d,hd7g,hd7⟩:=Zbs hd7
   obtain ⟨he0d,he0g,he0⟩:=Zbs he0
   obtain ⟨he1d,he1g,he1⟩:=Zbs he1
   obtain ⟨he2d,he2g,he2⟩:=Zbs he2
   replace ha0:=ZgV ha0
   replace ha1:=ZpY ha1
   obtain ⟨ua2,va2,ha2⟩:=ZmJ ha2
   replace ha3:=Zmv ha3
   replace hc0:=Zh9 hc0
   obtain ⟨uc1,vc1,hc1⟩:=ZqB hc1
   replace hd0:=Zh9 hd0
   replace hd1:=Zh9 hd1
   replace hd2:=ZgV hd2
   replace hd3:=Zh9 hd3
   replace hd4:=Zrl hd4
   replace hd5:=ZgV hd5
   obtain ⟨ud6,hd6⟩:=Zlt hd6
   obtain ⟨ud7,hd7⟩:=Zq9 hd7
   replace he0:=Zh9 he0
   obtain ⟨ue1,ve1,he1⟩:=ZmJ he1
   replace he2:=Zmv he2
   refine callsIn_of_wp hfn hbody trivial ?_ rfl
   have hut:(P.underlying t).isSome=true:=by rw [ht];rfl
   have nd:∀ {o:Oper} {q:Op},o.op=q→(∀ c,q≠.defer c)→∀ c,o.op≠.defer c:=fun h h' c=>by rw [h];exact h' c
   have hA0:BackAct l Bs { tmps:=#[Value.func (.yield l) #[] #[],Value.pointer (some ⟨Bs,0,none⟩)]++Array.replicate (fn.ntmps-#[Value.func (.yield l) #[] #[],Value.pointer (some ⟨Bs,0,none⟩)].size) undef,defers:=[] }:=by
    rw [hnt]
    exact ⟨by simp,rfl,by simp [Act.eval],by simp [Act.eval]⟩
   generalize ({ tmps:=#[Value.func (.yield l) #[] #[],Value.pointer (some ⟨Bs,0,none⟩)]++Array.replicate (fn.ntmps-#[Value.func (.yield l) #[] #[],Value.pointer (some ⟨Bs,0,none⟩)].size) undef,defers:=[] }:Act)=A0 at hA0 ⊢
   have ldS:∀ {o:Oper} {a:Act} {w:World},o.op=.load t (.tmp 1)→BackAct l Bs a→Good w→(execOp a.eval o).run P w=.ok (.value (.slice base len cap)) w:=by
    intro o a w ho hA hg
    have:=Zh2 (P:=P) (w:=w) (vs:=[Value.slice base len cap]) ho hA.p hut hit (by simp [hit1]) (.inr rfl) (by
     intro j v hv
     cases j with
     | zero=>simp only [List.getElem?_cons_zero,Option.some.injEq] at hv;subst hv;exact (gg w hg).1
     | succ j=>simp at hv)
    rw [this,Zcp,hat]
    rfl
   refine wpIn_seq (wpIn_region ?_)
   refine Zb3 Zbl rfl ha0d ha0g (nd ha0 (by simp)) (ldS ha0 hA0 g0) ?_
   have hA1:=hA0.put (v:=.slice base len cap) (d:=4) (by omega) (by omega)
   refine Zb3 Zbl rfl ha1d ha1g (nd ha1 (by simp)) (Zre ha1 ht (by rw [hA0.at (by omega)];rfl)) ?_
   have hA2:=hA1.put (v:=.int .i64 len) (d:=5) (by omega) (by omega)
   refine Zb3 Zbl rfl ha2d ha2g (nd ha2 (by simp)) (Zkf (m:=len) ha2 (by rw [hA1.at (by omega)];rfl) (by omega)) ?_
   have hA3:=hA2.put (v:=.int .i64 ((len:Int)-1)) (d:=6) (by omega) (by omega)
   refine Zb3 Zbl rfl ha3d ha3g (nd ha3 (by simp)) (Zgl ha3) ?_
   rw [show ((((A0.put (some 4) (.slice base len cap)).put (some 5) (.int .i64 len)).put (some 6) (.int .i64 ((len:Int)-1))).eval (.tmp 6))=.int .i64 ((len:Int)-1) by rw [hA2.at (by omega)];rfl]
   have hA4:=hA3.put (v:=.int .i64 ((len:Int)-1)) (d:=3) (by omega) (by omega)
   have h3:((((A0.put (some 4) (.slice base len cap)).put (some 5) (.int .i64 len)).put (some 6) (.int .i64 ((len:Int)-1))).put (some 3) (.int .i64 ((len:Int)-1))).eval (.tmp 3)=.int .i64 ((len:Int)-1):=by rw [hA3.at (by omega)];rfl
   generalize ((((A0.put (some 4) (.slice base len cap)).put (some 5) (.int .i64 len)).put (some 6) (.int .i64 ((len:Int)-1))).put (some 3) (.int .i64 ((len:Int)-1)))=A4 at hA4 h3 ⊢
   show Code.wpIn Fence.wide n P _ _ A4 W
   refine wpIn_block (wpIn_loop (fun a w=>∃ k:Nat,k≤len∧BackAct l Bs a∧a.eval (.tmp 3)=.int .i64 ((k:Int)-1)∧J k w∧Good w)
    (fun a _=>match a.eval (.tmp 3) with | .int _ m=>(m+1).toNat | _=>0) ⟨len,Nat.le_refl _,hA4,h3,h0,g0⟩ ?_)
   rintro a w ⟨k,hk,hA,h3,hj,hg⟩
   refine wpIn_seq (wpIn_seq (wpIn_region ?_))
   refine Zb3 Zbl rfl hc0d hc0g (nd hc0 (by simp)) (Zd5 hc0) ?_
   rw [h3]
   have hA5:=hA.put (v:=.int .i64 ((k:Int)-1)) (d:=7) (by omega) (by omega)
   refine Zb3 Zbl rfl hc1d hc1g (nd hc1 (by simp)) (ZoI (m:=(k:Int)-1) hc1 (by rw [hA.at (by omega)];rfl)) ?_
   have hA6:=hA5.put (v:=.bool (decide ((k:Int)-1≥0))) (d:=8) (by omega) (by omega)
   have h36:((a.put (some 7) (.int .i64 ((k:Int)-1))).put (some 8) (.bool (decide ((k:Int)-1≥0)))).eval (.tmp 3)=.int .i64 ((k:Int)-1):=by rw [hA5.at (by omega),if_neg (by omega),hA.at (by omega),if_neg (by omega),h3]
   have h86:((a.put (some 7) (.int .i64 ((k:Int)-1))).put (some 8) (.bool (decide ((k:Int)-1≥0)))).eval (.tmp 8)=.bool (decide ((k:Int)-1≥0)):=by rw [hA5.at (by omega),if_pos rfl]
   generalize ((a.put (some 7) (.int .i64 ((k:Int)-1))).put (some 8) (.bool (decide ((k:Int)-1≥0))))=A6 at hA6 h36 h86 ⊢
   show Code.wpIn Fence.wide n P _ _ A6 w
   refine wpIn_cond h86 ?_
   by_cases hk0:k=0
   ·subst hk0
    simp only [show decide (((0:Nat):Int)-1≥0)=false by decide,Bool.false_eq_true,if_false]
    refine wpIn_exit ?_
    simp only [Exit.then,Exit.inBlock,if_true]
    refine ⟨hA6.defers,_,results_none (Array.toList_eq_nil_iff.1 (by simpa using hres)) _ _ _,⟨_,rfl⟩,.inl hj⟩
   ·obtain ⟨m,rfl⟩:∃ m,k=m+1:=⟨k-1,by omega⟩
    have hm1:(((m+1:Nat):Int)-1)=(m:Int):=by omega
    rw [hm1] at h36 h86
    have hml:m<len:=by omega
    have hul:=hul' m hml
    have hb':base=some ⟨b,off,none⟩:=hbase.resolve_left (by omega)
    simp only [hm1,show decide ((m:Int)≥0)=true by simp,if_true]
    refine wpIn_skip ?_
    show Code.wpIn Fence.wide n P _ _ A6 w
    refine wpIn_seq (wpIn_block (wpIn_seq (wpIn_region ?_)))
    refine Zb3 Zbl rfl hd0d hd0g (nd hd0 (by simp)) (Zd5 hd0) ?_
    rw [hA6.y]
    have hB1:=hA6.put (v:=.func (.yield l) #[] #[]) (d:=11) (by omega) (by omega)
    refine Zb3 Zbl rfl hd1d hd1g (nd hd1 (by simp)) (Zd5 hd1) ?_
    rw [hA6.at (by omega),if_neg (by omega),h36]
    have hB2:=hB1.put (v:=.int .i64 (m:Int)) (d:=12) (by omega) (by omega)
    refine Zb3 Zbl rfl hd2d hd2g (nd hd2 (by simp)) (ldS hd2 hB2 hg) ?_
    have hB3:=hB2.put (v:=.slice base len cap) (d:=13) (by omega) (by omega)
    refine Zb3 Zbl rfl hd3d hd3g (nd hd3 (by simp)) (Zd5 hd3) ?_
    rw [hB2.at (by omega),if_neg (by omega),hB1.at (by omega),if_neg (by omega),hA6.at (by omega),if_neg (by omega),h36]
    have hB4:=hB3.put (v:=.int .i64 (m:Int)) (d:=14) (by omega) (by omega)
    refine Zb3 Zbl rfl hd4d hd4g (nd hd4 (by simp)) (ZmI (j:=m) hd4 ht hie (by rw [hB3.at (by omega),if_neg (by omega),hB2.at (by omega),if_pos rfl,hb']) (by rw [hB3.at (by omega),if_pos rfl]) hml) ?_
    have hB5:=hB4.put (v:=.pointer (some ⟨b,off+m*ie.size,none⟩)) (d:=15) (by omega) (by omega)
    refine Zb3 Zbl rfl hd5d hd5g (nd hd5 (by simp)) (Zh2 (vs:=us m) hd5 (by rw [hB4.at (by omega),if_pos rfl]) hue hie hul (hae.imp id fun h=>by rw [hul,h]) (by
     intro j v hv
     have:=(gg w hg).2 m hml j v hv
     rwa [←Nat.add_assoc] at this)) ?_
    have hB6:=hB5.put (v:=Zcp (ZaA P e) (us m)) (d:=16) (by omega) (by omega)
    refine Zni Zbl rfl rfl (l:=l) rfl hd6d hd6g hd6 (by rw [hB5.at (by omega),if_neg (by omega),hB4.at (by omega),if_neg (by omega),hB3.at (by omega),if_neg (by omega),hB2.at (by omega),if_neg (by omega),hB1.at (by omega),if_neg (by omega),hA6.at (by omega),if_pos rfl]) (by
     have h12:((((((A6.put (some 11) (Value.func (.yield l) #[] #[])).put (some 12) (.int .i64 (m:Int))).put (some 13) (.slice base len cap)).put (some 14) (.int .i64 (m:Int))).put (some 15) (.pointer (some ⟨b,off+m*ie.size,none⟩))).put (some 16) (Zcp (ZaA P e) (us m))).eval (.tmp 12)=.int .i64 (m:Int):=by
      rw [hB5.at (by omega),if_neg (by omega),hB4.at (by omega),if_neg (by omega),hB3.at (by omega),if_neg (by omega),hB2.at (by omega),if_neg (by omega),hB1.at (by omega),if_pos rfl]
     have h16:((((((A6.put (some 11) (Value.func (.yield l) #[] #[])).put (some 12) (.int .i64 (m:Int))).put (some 13) (.slice base len cap)).put (some 14) (.int .i64 (m:Int))).put (some 15) (.pointer (some ⟨b,off+m*ie.size,none⟩))).put (some 16) (Zcp (ZaA P e) (us m))).eval (.tmp 16)=Zcp (ZaA P e) (us m):=by
      rw [hB5.at (by omega),if_pos rfl]
     have:=hY m hml w hj
     simpa [h12,h16] using this) ?_
    rintro e' w' (⟨rfl,hj',hkp⟩|⟨rfl,hjx⟩)
    ·refine ⟨_,rfl,?_⟩
     have hB7:=hB6.put (v:=.bool true) (d:=17) (by omega) (by omega)
     refine Zb3 Zbl rfl hd7d hd7g (nd hd7 (by simp)) (Zlp (b:=true) hd7 (by rw [hB6.at (by omega),if_pos rfl])) ?_
     have hB8:=hB7.put (v:=.bool (!true)) (d:=18) (by omega) (by omega)
     show Code.wpIn Fence.wide n P _ _ _ w'
     refine wpIn_cond (t:=false) (by rw [hB7.at (by omega),if_pos rfl];rfl) ?_
     simp only [Bool.false_eq_true,if_false]
     refine wpIn_skip ?_
     have h3':((((((((A6.put (some 11) (Value.func (.yield l) #[] #[])).put (some 12) (.int .i64 (m:Int))).put (some 13) (.slice base len cap)).put (some 14) (.int .i64 (m:Int))).put (some 15) (.pointer (some ⟨b,off+m*ie.size,none⟩))).put (some 16) (Zcp (ZaA P e) (us m))).put (some 17) (.bool true)).put (some 18) (.bool (!true))).eval (.tmp 3)=.int .i64 (m:Int):=by
      rw [hB7.at (by omega),if_neg (by omega),hB6.at (by omega),if_neg (by omega),hB5.at (by omega),if_neg (by omega),hB4.at (by omega),if_neg (by omega),hB3.at (by omega),if_neg (by omega),hB2.at (by omega),if_neg (by omega),hB1.at (by omega),if_neg (by omega),hA6.at (by omega),if_neg (by omega),h36]
     generalize ((((((((A6.put (some 11) (Value.func (.yield l) #[] #[])).put (some 12) (.int .i64 (m:Int))).put (some 13) (.slice base len cap)).put (some 14) (.int .i64 (m:Int))).put (some 15) (.pointer (some ⟨b,off+m*ie.size,none⟩))).put (some 16) (Zcp (ZaA P e) (us m))).put (some 17) (.bool true)).put (some 18) (.bool (!true)))=A9 at hB8 h3' ⊢
     show Code.wpIn Fence.wide n P _ _ A9 w'
     refine wpIn_region ?_
     refine Zb3 Zbl rfl he0d he0g (nd he0 (by simp)) (Zd5 he0) ?_
     rw [h3']
     have hC1:=hB8.put (v:=.int .i64 (m:Int)) (d:=9) (by omega) (by omega)
     refine Zb3 Zbl rfl he1d he1g (nd he1 (by simp)) (Zkf (m:=m) he1 (by rw [hB8.at (by omega)];rfl) (by omega)) ?_
     have hC2:=hC1.put (v:=.int .i64 ((m:Int)-1)) (d:=10) (by omega) (by omega)
     refine Zb3 Zbl rfl he2d he2g (nd he2 (by simp)) (Zgl he2) ?_
     rw [hC1.at (by omega),if_pos rfl]
     have hC3:=hC2.put (v:=.int .i64 ((m:Int)-1)) (d:=3) (by omega) (by omega)
     have h3f:(((A9.put (some 9) (.int .i64 (m:Int))).put (some 10) (.int .i64 ((m:Int)-1))).put (some 3) (.int .i64 ((m:Int)-1))).eval (.tmp 3)=.int .i64 ((m:Int)-1):=by rw [hC2.at (by omega),if_pos rfl]
     generalize (((A9.put (some 9) (.int .i64 (m:Int))).put (some 10) (.int .i64 ((m:Int)-1))).put (some 3) (.int .i64 ((m:Int)-1)))=AF at hC3 h3f ⊢
     refine ⟨⟨m,by omega,hC3,h3f,hj',gk _ _ hg hkp⟩,?_⟩
     simp only [h3f,h3]
     omega
    ·refine ⟨_,rfl,?_⟩
     have hB7:=hB6.put (v:=.bool false) (d:=17) (by omega) (by omega)
     refine Zb3 Zbl rfl hd7d hd7g (nd hd7 (by simp)) (Zlp (b:=false) hd7 (by rw [hB6.at (by omega),if_pos rfl])) ?_
     have hB8:=hB7.put (v:=.bool (!false)) (d:=18) (by omega) (by omega)
     show Code.wpIn Fence.wide n P _ _ _ w'
     refine wpIn_cond (t:=true) (by rw [hB7.at (by omega),if_pos rfl];rfl) ?_
     simp only [if_true]
     refine wpIn_ret ?_
     simp only [Exit.then,Exit.inBlock]
     exact ⟨hB8.defers,_,results_none (Array.toList_eq_nil_iff.1 (by simpa using hres)) _ _ _,⟨_,rfl⟩,.inr hjx⟩
  ·cases hm
 ·cases hm
end
end Go.Vs
namespace Go.Vs
open Go Go.RowKit
section
variable {P:Program}{ops:Array Oper}{Q:Exit→Act→World→Prop}{a:Act}{w:World}{o:Oper}
theorem ZoO {N:Nat}{vo:VOper}(hm:Zhy P N ops o vo=true):∀ c,o.op≠.defer c:=by
 intro c hc
 unfold Zhy at hm
 rw [hc] at hm
 simp only [Bool.and_eq_true] at hm
 have h5:=hm.2
 cases hop:vo.op<;>rw [hop] at h5<;>simp [mOp,ZoD] at h5
theorem Zhb {l n:Nat}{f:FuncId}{args:Array Value}{R:Ending→World→Prop}(h:Calls P f args w R):CallsIn (Fence.wide.inRound l) n P f args w R :=
 (callsIn_wide (n:=n)).2 h
theorem ZhY {l n:Nat}{row:String}{args:Array Value}{R:Value→World→Prop}(h:Rows P row args w R):RowsIn (Fence.wide.inRound l) n P row args w R :=
 fun c cs _=>let ⟨v,w',r,s⟩:=h c cs;⟨v,w',r,(stepsIn_wide (P:=P)).2 s⟩
theorem Zls {l n:Nat}{K:Act→World→Prop}{r:Result Next}(h:o.upon P a K Q r):o.uponIn (Fence.wide.inRound l) n P a K Q r:=by
 cases r with
 | ok nx w'=>cases nx with
  | value v=>exact h
  | skip=>exact h
  | defer d=>exact h
  | enter f args=>exact ⟨fun h=>by simp [Fence.wide] at h,Zhb h⟩
  | row row args=>exact ⟨fun h=>by simp [Fence.wide] at h,ZhY h⟩
  | _=>exact h.elim
 | halt x w'=>cases x with
  | panic v=>exact h
  | _=>exact h.elim
theorem Zeh {l n:Nat}(hQ:¬LetsOut Q)(hnd:∀ (i:Nat)(o:Oper),ops[i]?=some o→∀ c,o.op≠.defer c):∀ (is:List Nat)(a:Act)(w:World),wpOps P ops Q is a w→wpOpsIn (Fence.wide.inRound l) n P ops Q is a w
 | [],_,_,h=>h
 | i::is,a,w,h=>by
  simp only [wpOps] at h
  simp only [wpOpsIn]
  cases ho:ops[i]? with
  | none=>rw [ho] at h;exact Zeh hQ hnd is a w h
  | some o =>
   rw [ho] at h
   simp only at h ⊢
   split
   ·rename_i hw
    rw [if_pos hw] at h
    rcases h with h|h
    ·refine ⟨fun f _=>trivial,?_⟩
     rw [Oper.semAt_eq _ _ _ (hnd i o ho)]
     exact Zls (Oper.wp_mono (fun a w=>Zeh hQ hnd is a w) h)
    ·exact absurd h.2 hQ
   ·rename_i hw
    rw [if_neg hw] at h
    exact ⟨fun f _=>trivial,Zeh hQ hnd is _ w h⟩
theorem ZgS {l n id:Nat}(hQ:¬LetsOut Q)(hnd:∀ (i:Nat)(o:Oper),ops[i]?=some o→∀ c,o.op≠.defer c)(h:wpList P ops Q ops.toList a w):(Code.region id ops false).wpIn (Fence.wide.inRound l) n P Q a w :=
 wpIn_region (Zeh hQ hnd _ a w (by rw [List.range_eq_range',←Array.length_toList,wpOps_eq_wpList ops.toList 0 (by simp)];exact h))
theorem Zh8 {l n id:Nat}(hP:P.follows .mixedOrders=true)(hQ:¬LetsOut Q)(hnd:∀ (i:Nat)(o:Oper),ops[i]?=some o→∀ c,o.op≠.defer c)(h:wpAny P .any ops Q ops.size (Array.replicate ops.size false) a { w with drawn:=w.drawn+1 }) :
 (Code.region id ops true).wpIn (Fence.wide.inRound l) n P Q a w :=
 wpIn_region_draw fun t=>Zeh hQ hnd _ a _ (by
  simp only [Region.schedule,hP,Bool.true_or,if_true]
  exact wpAny_sound ops.size t _ a _ h)
end
section
variable {P:Program}{GL:Nat→List Cell}{N:Nat}{w0:World}{ω0:Nat→Nat}{S:Fr}{E:Nat→Option V}{L:Nat→Option Obj}{a:Act}{w:World}{ω:Nat→Nat}{β:Nat→Option Nat}
theorem Zc1 {w:World}{b i:Nat}{v:Value}(h:at? w b i=some v):∃ cs t fr,w.heap[b]?=some (.cells cs t fr):=by
 unfold at? World.cell? at h
 simp only at h
 split at h
 ·rename_i cs t fr hb
  exact ⟨_,_,_,hb⟩
 ·cases h
theorem Rel.cellsOf (h:Rel GL N w0 ω0 S E L a w ω β){k b:Nat}(hk:L k≠none)(hb:β k=some b):∃ cs t fr,w.heap[b]?=some (.cells cs t fr):=by
 cases hL:L k with
 | none=>exact absurd hL hk
 | some o =>
  have ho:=h.obj k o hL
  cases o with
  | box cells =>
   obtain ⟨b',cs,t,h1,h2,_⟩:=ho
   have:b'=b:=by rw [hb] at h1;exact (Option.some.inj h1).symm
   subst this
   exact ⟨_,_,_,h2⟩
  | arr s rows p =>
   obtain ⟨_,_,_,h4⟩:=ho
   rcases h4 with ⟨b',cap,cur,t,h1,h2,_⟩|⟨h1,_⟩
   ·have:b'=b:=by rw [hb] at h1;exact (Option.some.inj h1).symm
    subst this
    exact ⟨_,_,_,h2⟩
   ·rw [hb] at h1;cases h1
theorem Rel.grown (h:Rel GL N w0 ω0 S E L a w ω β){w':World}{row:Option Nat}(hg:w.grownBy w' row)(hrow:∀ b,row=some b→w0.heap.size≤b∧∃ o,w.heap[b]?=some o∧o.isCells=false)(hm:Marks S.lo w' a.defers) :
 Rel GL N w0 ω0 S E L a w' ω β:=by
 have hcell:∀ (b:Nat) (cs:Array Value) (t:TypeId) (fr:Nat × Nat),w.heap[b]?=some (.cells cs t fr)→w'.heap[b]?=some (.cells cs t fr):=by
  intro b cs t fr hb
  refine (hg.block b (Array.getElem?_eq_some_iff.1 hb).1 fun e => ?_).trans hb
  obtain ⟨_,o,ho,hc⟩:=hrow b e.symm
  rw [hb] at ho
  cases ho
  cases hc
 have g:Grows w ω w' ω:=⟨fun b i hi v hv=>by
  obtain ⟨cs,t,fr,hb⟩:=Zc1 hv
  refine ⟨?_,hi⟩
  rw [Zay (hcell b cs t fr hb),←Zay hb]
  exact hv⟩
 have tr:∀ k,Tr w β w' β L L k:=by
  intro k
  unfold Tr
  cases hL:L k with
  | none=>trivial
  | some o=>cases o with
   | box cs=>exact ⟨⟨cs,rfl,rfl⟩,rfl⟩
   | arr s rows p=>exact ⟨rows,p,rfl,Nat.le_refl _,fun _=>⟨rfl,fun b cur t _ hc=>⟨cur,hcell b cur t _ hc,rfl⟩⟩⟩
 refine ⟨h.size,hm,fun t v ht=>⟨(h.env t v ht).1,(h.env t v ht).2.step g tr⟩,fun k o hk=>(h.obj k o hk).step g tr rfl fun b hb => ?_,h.inj,?_,h.mine,fun b=>(h.gl b).grow g,S.closed _ _ _ _ _ _ h.inv fun k _=>tr k⟩
 ·obtain ⟨cs,t,fr,hc⟩:=h.cellsOf (by rw [hk];simp) hb
  exact ⟨(hcell b cs t fr hc).trans hc.symm,rfl⟩
 ·refine h.keeps.step g hg.size (fun b hb hs => ?_) hg.os hg.tape hg.output
  refine ⟨hg.block b (Nat.lt_of_lt_of_le hb h.keeps.size) fun e => ?_,rfl⟩
  have:=(hrow b e.symm).1
  omega
def Zdd (w:World)(β:Nat→Option Nat)(L:Nat→Option Obj)(kept:Nat→Prop)(lo:Nat):Fr where
 lo:=lo
 S:=fun b=>∃ k,L k≠none∧β k=some b
 kept:=fun k=>kept k∨L k≠none
 J:=fun w' β' L'=>∀ k,L k≠none∨kept k→Tr w β w' β' L L' k
 closed:=fun _ _ _ _ _ _ h h' k hk=>(h k hk).trans (h' k (hk.elim .inr .inl))
theorem Ze7 {kept:Nat→Prop}{lo:Nat}{w2:World}{β2:Nat→Option Nat}{L2:Nat→Option Obj}(h:(Zdd w β L kept lo).J w2 β2 L2):∀ k,Tr w β w2 β2 L L2 k:=by
 intro k
 by_cases hk:L k=none
 ·unfold Tr
  rw [hk]
  trivial
 ·exact h k (.inl hk)
theorem Rel.compose (r:Rel GL N w0 ω0 S E L a w ω β){E2:Nat→Option V}{L2:Nat→Option Obj}{a2:Act}{w2:World}{ω2:Nat→Nat}{β2:Nat→Option Nat}(h:Rel GL N w ω (Zdd w β L S.kept S.lo) E2 L2 a2 w2 ω2 β2)(hm:Marks S.lo w2 a.defers) :
 Rel GL N w0 ω0 S E L2 a w2 ω2 β2:=by
 have tr:=Ze7 h.inv
 refine ⟨r.size,hm,fun t v ht=>⟨(r.env t v ht).1,(r.env t v ht).2.step h.keeps.grows tr⟩,h.obj,h.inj,?_,?_,h.gl,S.closed _ _ _ _ _ _ r.inv fun k hk=>tr k⟩
 ·refine r.keeps.step h.keeps.grows h.keeps.size (fun b hb hs=>h.keeps.same b (Nat.lt_of_lt_of_le hb r.keeps.size) ?_) h.keeps.os h.keeps.tape h.keeps.output
  rintro ⟨k,hk,hbk⟩
  rcases r.mine k b hk hbk with h1|h1
  ·exact hs h1
  ·omega
 ·intro k b hk hb
  rcases h.mine k b hk hb with ⟨j,hj,hbj⟩|h1
  ·exact r.mine j b hj hbj
  ·exact .inr (Nat.le_trans r.keeps.size h1)
theorem Rel.rebase (r:Rel GL N w0 ω0 S E L a w ω β):Rel GL N w ω (Zdd w β L S.kept S.lo) E L a w ω β :=
 ⟨r.size,r.defers,r.env,r.obj,r.inj,Keeps.refl _ _ _,fun k b hk hb=>.inl ⟨k,hk,hb⟩,r.gl,fun k _=>Tr.refl k⟩
end
end Go.Vs
