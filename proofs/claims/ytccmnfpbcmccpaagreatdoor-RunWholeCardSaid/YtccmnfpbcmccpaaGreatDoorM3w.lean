/- The value semantics, 21: what an operation depends on. -/
import Derived.Test.YtccmnfpbcmccpaaGreatDoorM2w
import Derived.RangeFuncNested
import Derived.RangeFuncLeaves
import Derived.IntWalk
set_option linter.all false
set_option maxHeartbeats 2000000
namespace Go.Vs
open Go
def Opd.tmps:Opd->List Nat
 |.t n=>[n]
 |_=>[]
def Hl:Option Opd->List Nat
 |some x=>x.tmps
 |none=>[]
def VOp.tmps:VOp->List Nat
 |.mv x | .un _ x | .box x | .load _ _ x | .fld _ x | .part _ _ _ x | .len _ x | .ldD _ _ x | .mvD x | .appN _ _ x | .cvB x | .cvS x | .clr _ _ x | .mkS _ _ _ x | .ext _ x | .cvI _ x | .ifc _ x | .nn x=>x.tmps
 |.pick c x y=>c.tmps++x.tmps++y.tmps
 |.bin _ _ x y | .store _ x y _ | .idxA _ x y | .idxAA _ _ x y | .idxS x y | .mx x y | .mn x y | .app _ _ _ x y | .cp _ x y | .appF _ _ x y=>x.tmps++y.tmps
 |.new _ _ | .newA _ _ | .bad | .mkE=>[]
 |.build _ ps | .bldD _ ps=>ps.flatMap fun p=>p.2.2.tmps
 |.mkSl _ xs | .fn _ xs=>xs.flatMap Opd.tmps
 |.slS x lo hi | .slA _ _ x lo hi=>x.tmps++Hl lo++Hl hi
 |.sl _ x lo hi m3=>x.tmps++Hl lo++Hl hi++Hl m3
 |.call f args _=>f.tmps++args.flatMap fun x=>x.2.tmps
def VOper.tmps (o:VOper):List Nat:=(match o.guard with | some (t,_)=>[t] | none=>[])++o.op.tmps
section
variable {C:Ctx}{E E':LV1}{L L':LO1}
theorem Opd.val_congr {x:Opd}(h:∀t∈x.tmps,E t=E' t):x.val C E=x.val C E':=by
 cases x<;>grind[Opd.val,Opd.tmps]
theorem HQ {x:Option Opd}(h:∀t∈Hl x,E t=E' t):x.map (·.val C E)=x.map (·.val C E'):=by
 cases x with
 |none=>rfl
 |some x=>simp only[qv];rw[Opd.val_congr (fun t ht=>h t ht)]
theorem D9 {α γ:Type}{f g:α->Option γ}:∀{l:List α},(∀x∈l,f x=g x)->Ae f l=Ae g l
 |[],_=>rfl
 |x::l,h=>by simp only[Ae];rw[h x sy,D9 (fun y hy=>h y (by grind))]
theorem ZbD {op:VOp}{oid:Nat}(h:∀t∈op.tmps,E t=E' t):Af C E L oid op=Af C E' L oid op:=by
 cases op<;>simp only[VOp.tmps,qp]at h<;>simp only[Af];grind[Opd.val_congr];grind[Opd.val_congr];grind[Opd.val_congr];grind[Opd.val_congr];grind[Opd.val_congr]
 case build zero ps=>
  have e:Ae (Db C E) ps=Ae (Db C E') ps:=D9 fun x hx=>by
   grind[Db,Opd.val_congr]
  show(match Ae (Db C E) ps with | none=>none | some ps=>(Ci zero ps).map fun cs=>(V.ag cs,([]:Upd)))=_;rw[e];rfl
 case bldD zero ps=>
  have e:Ae (Db C E) ps=Ae (Db C E') ps:=D9 fun x hx=>by
   grind[Db,Opd.val_congr]
  show(match Ae (Db C E) ps with | none=>none | some ps=>(Ci zero ps).bind fun cs=>Cx L (V.ag cs))=_;rw[e];rfl
 case mkSl s xs=>
  have e:Ae (Fa C E s) xs=Ae (Fa C E' s) xs:=D9 fun x hx=>by
   grind[Fa,Opd.val_congr]
  show(match L oid with
   |some _=>none
   |none=>match Ae (Fa C E s) xs with
    |none=>none
    |some rows=>some (V.sc (W.arr oid rows.length),[(oid,some (Obj.arr s rows 0))]))=_
  rw[e];rfl
 grind[Opd.val_congr];grind[Opd.val_congr];grind[Opd.val_congr];grind[Opd.val_congr];grind[Opd.val_congr];grind[Opd.val_congr];grind[Opd.val_congr]
 case slS x lo hi=>rw[Opd.val_congr fun t ht=>h t (.inl (.inl ht)),HQ fun t ht=>h t (.inl (.inr ht)),HQ fun t ht=>h t (.inr ht)]
 grind[Opd.val_congr,HQ];grind[Opd.val_congr];grind[Opd.val_congr];grind[Opd.val_congr];grind[Opd.val_congr];grind[Opd.val_congr];grind[qM,Opd.val_congr];grind[Opd.val_congr,vals,qM];grind[Opd.val_congr];grind[Opd.val_congr];grind[Opd.val_congr];grind[Opd.val_congr]
 case ldD ag n x=>rw[Opd.val_congr h]
 case mvD x=>rw[Opd.val_congr h]
 case cvB x=>rw[Opd.val_congr h]
 case cvS x=>rw[Opd.val_congr h]
 case slA s n x lo hi=>rw[Opd.val_congr fun t ht=>h t (.inl (.inl ht)),HQ fun t ht=>h t (.inl (.inr ht)),HQ fun t ht=>h t (.inr ht)]
 case clr s zero x=>rw[Opd.val_congr h]
 case appN s bytes x=>rw[Opd.val_congr h]
 case appF s bytes x y=>grind[Opd.val_congr]
 grind[Opd.val_congr]
theorem Tj {o:VOper}(h:∀t∈o.tmps,E t=E' t):runO C o E L=runO C o E' L:=by
 have h1:Af C E L o.oid o.op=Af C E' L o.oid o.op:=ZbD fun t ht=>h t (by simp[VOper.tmps,ht]);grind[runO,VOper.tmps]
theorem Rh {o:VOper}{u:Upd}(h:∀t∈o.tmps,E t=E' t):recO C E L o u=recO C E' L o u:=by
 have h':∀t∈o.op.tmps,E t=E' t:=fun t ht=>h t (by simp[VOper.tmps,ht]);unfold recO;split;rfl
 .cases hop:o.op<;>rw [hop] at h'<;>simp only [VOp.tmps,qp] at h'<;>try rfl
  grind;grind[Opd.val_congr]
  case fld off x=>grind[Opd.val_congr]
  case nn x=>grind[Opd.val_congr]
  case ldD ag n x=>grind[Opd.val_congr]
  grind[Opd.val_congr]
  case len str x=>grind[Opd.val_congr]
  case clr s zero x=>grind[Opd.val_congr]
  case cvS x=>grind[Opd.val_congr]
  case slA s n x lo hi=>grind[Opd.val_congr]
  grind[Opd.val_congr];grind[Opd.val_congr];grind[Opd.val_congr];grind[Opd.val_congr]
  case cp s x y=>grind[Opd.val_congr]
  case appN s bytes x=>grind[Opd.val_congr]
  case appF s bytes x y=>grind[Opd.val_congr]
  case call f args own=>
   cases own with
   |cons _ _=>rfl
   |nil=>
    have e:vals C E args=vals C E' args:=qM fun x hx=>by
     grind[Opd.val_congr]
    grind[Opd.val_congr]
end
section
variable {C:Ctx}{E:LV1}{L L':LO1}
theorem VK {oid:Nat}:∀(l:List W)(j:Nat),ownW oid [] j l=(l,[])
 |[],_=>rfl
 |x::r,j=>by
  simp only[ownW,VK r (j+1)];grind[get?]
theorem Tu {oid:Nat}:∀(l:List (Bool×V))(j:Nat),Az oid [] j l=(l,[])
 |[],_=>rfl
 |(b,x)::r,j=>by
  simp only[Az,Tu r (j+1)];grind[get?]
theorem Hj {x:V}(h:∀k∈x.direct,L k=L' k):Bh L x=Bh L' x:=by
 cases x with
 |sc x=>cases x with
  |arr k n=>grind[Bh,V.direct]
  |vw k N lo n=>simp only[Bh,h k (by simp[V.direct])]
  |c y=>cases y<;>rfl
  |_=>rfl
 |_=>rfl
theorem ZbR {x:V}(h:∀k∈x.direct,L k=L' k):lenV L x=lenV L' x:=by
 cases x with
 |sc x=>cases x with
  |arr k n=>grind[lenV,V.direct]
  |vw k N lo n=>simp only[lenV,h k (by simp[V.direct])]
  |c y=>cases y<;>rfl
  |_=>rfl
 |_=>rfl
theorem Uc {k N i:Nat}(h:L k=L' k):elOk L k N i=elOk L' k N i:=by simp only[elOk,h]
theorem Qk {x:V}{n:Nat}(h:∀k∈x.direct,L k=L' k):onBy L n x=onBy L' n x:=by
 cases x with
 |sc x=>cases x with
  |el k N i o=>grind[onBy,Uc,V.direct]
  |c y=>cases y<;>rfl
  |_=>rfl
 |_=>rfl
theorem ZgM {s:Nat}{x:V}{lo hi m3:Option V}(h:∀k∈x.direct,L k=L' k):Bm L s x lo hi m3=Bm L' s x lo hi m3:=by
 cases x with
 |sc x=>cases x with
  |arr k n=>simp only[Bm,h k (by simp[V.direct])]
  |vw k N lo n=>grind[Bm,V.direct]
  |c y=>cases y<;>rfl
  |_=>rfl
 |_=>rfl
theorem LY {oid s bytes:Nat}{x y:V}(h0:L oid=L' oid)(hx:∀k∈x.direct,L k=L' k)(hy:∀k∈y.direct,L k=L' k):DK L oid s bytes true x y=DK L' oid s bytes true x y:=by
 unfold DK;rw[Hj hy];cases Bh L' y with
 |none=>rfl
 |some ys=>
  dsimp only;congr 1;cases x with
  |sc x=>cases x with
   |arr k n=>simp only[hx k (by simp[V.direct])]
   |nil=>simp only[h0]
   |full rows=>simp only[h0]
   |_=>rfl
  |_=>rfl
theorem Zaw {oid s bytes:Nat}{x y:V}(hx:∀k∈x.direct,L k=L' k)(hy:∀k∈y.direct,L k=L' k):DK L oid s bytes false x y=DK L' oid s bytes false x y:=by
 unfold DK;rw[Hj hy];cases Bh L' y with
 |none=>rfl
 |some ys=>
  dsimp only;congr 1;cases x with
  |sc x=>cases x with
   |arr k n=>simp only[hx k (by simp[V.direct])]
   |nil=>simp only;cases L oid<;>cases L' oid<;>rfl
   |full rows=>simp only;cases L oid<;>cases L' oid<;>rfl
   |_=>rfl
  |_=>rfl
theorem Zb6 {s:Nat}{x y:V}(hx:∀k∈x.direct,L k=L' k)(hy:∀k∈y.direct,L k=L' k):FQ L s x y=FQ L' s x y:=by
 unfold FQ;rw[Hj hy];cases Bh L' y with
 |none=>rfl
 |some ys=>
  dsimp only;congr 1;cases x with
  |sc x=>cases x with
   |arr k n=>simp only[hx k (by simp[V.direct])]
   |_=>rfl
  |_=>rfl
theorem V5:∀{ids:List Nat}{os:List Obj},ids.length=os.length->(BM ids os).map (·.1)=ids
 |[],os,_=>by rfl
 |k::ks,[],h=>by grind
 |k::ks,o::os,h=>by simp only[BM,qt,V5 (ids:=ks) (os:=os) (by grind)]
theorem ZfL (L:LO1):Ar L []=[]:=rfl
theorem IW {L:LO1}{ks:List Nat}:∀k∈ks,k∈CS L ks:=fun k hk=>by
 grind[CS,KN]
theorem XI {ks:List Nat}(h:∀k∈ks,L k=L' k):CS L ks=CS L' ks:=by
 unfold CS;congr 2;rw[List.flatMap_def,List.flatMap_def];congr 1;exact qM fun k hk=>by rw[h k hk]
theorem WW {L:LO1}{ks:List Nat}:∀k∈ks,k∈Ar L ks:=fun k hk=>by
 cases ks with
 |nil=>grind
 |cons x r=>exact IW _ (IW _ (IW _ (IW _ hk)))
theorem ZhH {ks:List Nat}(h:∀k∈Ar L ks,L k=L' k):Ar L ks=Ar L' ks:=by
 cases ks<;>grind[Ar,IW,XI]
theorem Sk:∀{l m:List Nat},l.Nodup->(∀k∈l,k∈m)->l.length<=m.length
 |[],_,_,_=>by simp
 |x::r,m,hn,hs=>by
  rw[qbr]at hn;have hx:x∈m:=hs x sy;have h:=Sk (l:=r) (m:=m.erase x) hn.2 fun k hk=>by
   grind
  grind
theorem YF {l m:List Nat}(hn:l.Nodup)(hs:∀k∈l,k∈m)(he:m.length<=l.length):∀k∈m,k∈l:=by
 intro k hk;by_cases h:k∈l;omega
 .have:=Sk (l:=k::l) (m:=m) (qbr.2 ⟨h,hn⟩) (by
   grind)
  grind
theorem Pl {α γ:Type}{f g:α->List γ}{l:List α}(h:∀x∈l,f x=g x):l.flatMap f=l.flatMap g:=by
 grind[qM]
theorem Ui:∀(d:Nat)(x:W),(∀k∈W.ids L d x,L k=L' k)->W.toC L d x=W.toC L' d x/\W.ids L d x=W.ids L' d x:=by
 intro d
 induction d with
 |zero=>intro x _;cases x<;>simp[W.toC,W.ids]
 |succ d ih=>
  intro x h;have rowf:∀r:List W,(∀k∈r.flatMap (W.ids L d),L k=L' k)->Ae (W.toC L d) r=Ae (W.toC L' d) r/\r.flatMap (W.ids L d)=r.flatMap (W.ids L' d):=by
   grind[D9,Pl]
  have rowsf:∀rows:WW1,(∀k∈rows.flatMap (·.flatMap (W.ids L d)),L k=L' k)->(∀r∈rows,Ae (W.toC L d) r=Ae (W.toC L' d) r)/\rows.flatMap (·.flatMap (W.ids L d))=rows.flatMap (·.flatMap (W.ids L' d)):=by
   grind[Pl]
  cases x<;>simp only[W.toC,W.ids]<;>first | exact⟨trivial,trivial⟩ | exact⟨rfl,rfl⟩ | skip
  grind[W.ids,D9];grind[W.ids,D9];grind[W.ids,D9];grind[W.ids]
theorem Qx {v:V}(h:∀k∈v.cells.flatMap (W.ids L deep),L k=L' k):v.toD L=v.toD L'/\v.cells.flatMap (W.ids L deep)=v.cells.flatMap (W.ids L' deep):=by
 have hx:∀x∈v.cells,W.toC L deep x=W.toC L' deep x/\W.ids L deep x=W.ids L' deep x:=fun x hx=>Ui deep x fun k hk=>h k (qbn.2 ⟨x,hx,hk⟩);refine⟨?_,Pl fun x h'=>(hx x h').2⟩;cases v<;>grind[V.toD,V.cells,D9]
theorem PU {all:List Nat}(h:∀k∈all,L k=L' k):∀{ks:List Nat}{p:Upd},(∀k∈ks,k∈all)->Bu L all ks=some p->Bu L' all ks=some p
 |[],p,_,hp=>hp
 |k::ks,p,hs,hp=>by
  simp only[Bu]at hp |-;rw[<-h k (hs k sy)];cases hL:L k with
  |none=>grind
  |some o=>cases o with
   |box _=>grind
   |arr s rows q=>
    simp only[hL]at hp |-;cases hc:Ae (Ae (W.toC L deep)) rows with
    |none=>grind
    |some cs=>
     simp only[hc]at hp;cases hb:(rows.all fun q=>q.all fun x=>(W.ids L deep x).all fun j=>all.contains j)with
     |false=>grind
     |true=>
      rw[hb]at hp;simp only[cond_true]at hp;have hin:∀r∈rows,∀x∈r,∀j∈W.ids L deep x,L j=L' j:=by
       intro r hr x hx j hj;have h3:=qE.1 hb r hr;grind
      have hl:∀r∈rows,∀x∈r,W.toC L deep x=W.toC L' deep x/\W.ids L deep x=W.ids L' deep x:=fun r hr x hx=>Ui deep x fun j hj=>hin r hr x hx j hj;have e1:Ae (Ae (W.toC L' deep)) rows=some cs:=by
       grind[D9]
      have e2:(rows.all fun q=>q.all fun x=>(W.ids L' deep x).all fun j=>all.contains j)=true:=by
       grind
      rw[e1];simp only[e2,cond_true];obtain⟨p',hp',rfl⟩:=qu.1 hp;rw[PU h (fun j hj=>hs j (by grind)) hp'];rfl
theorem Zev {ag:Bool}{n:Nat}{x:V}(h:∀k∈x.direct,L k=L' k):C5 L ag n x=C5 L' ag n x:=by
 cases x with
 |sc y=>cases y with
  |ptr k f=>simp only[C5,h k (by simp[V.direct])]
  |el k N i f=>simp only[C5,h k (by simp[V.direct])]
  |c y=>cases y<;>rfl
  |_=>rfl
 |_=>rfl
theorem V8 {all:List Nat}:∀{ks:List Nat}{p:Upd},Bu L all ks=some p->p.map (·.1)=ks
 |[],p,h=>by grind[Bu]
 |k::ks,p,h=>by
  simp only[Bu]at h;cases hL:L k with
  |none=>grind
  |some o=>cases o with
   |box _=>grind
   |arr s rows q=>
    simp only[hL]at h;cases hc:Ae (Ae (W.toC L deep)) rows with
    |none=>grind
    |some cs=>
     simp only[hc]at h;cases hb:(rows.all fun q=>q.all fun x=>(W.ids L deep x).all fun j=>all.contains j)with
     |false=>grind
     |true=>
      rw[hb]at h;simp only[cond_true]at h;obtain⟨p',hp',rfl⟩:=qu.1 h;simp only[qt,V8 hp']
theorem Oh {x d:V}{p:Upd}(h:Cx L x=some (d,p))(hL:∀k∈p.map (·.1),L k=L' k):Cx L' x=some (d,p):=by
 grind[Cx,qu,V8,Qx,KN,PU]
theorem J8:∀{l:List (Bool×V)},(∀k∈C0 L l,L k=L' k)->C0 L l=C0 L' l/\AU L l=AU L' l
 |[],_=>⟨rfl,rfl⟩
 |(true,v)::r,h=>by
  obtain⟨h1,h2⟩:=J8 (l:=r) h;exact⟨h1,by simp only[AU,h2]⟩
 |(false,v)::r,h=>by
  simp only[C0,qp]at h;obtain⟨h1,h2⟩:=J8 (l:=r) fun k hk=>h k (.inr hk);obtain⟨h3,h4⟩:=Qx (v:=v) fun k hk=>h k (.inl hk);exact⟨by grind[C0],by simp only[AU,h2,h3,h4]⟩
theorem M7:∀{l:List (Bool×V)}{vs:List V}{ds rs:List Nat},AU L l=some (vs,ds,rs)->ds=C0 L l
 |[],_,_,_,h=>by
  simp only[AU,qd,qi]at h;exact h.2.1.symm
 |(true,v)::r,vs,ds,rs,h=>by
  simp only[AU]at h;split at h;grind;grind
  .rename_i hq
   simp only[qd,qi]at h;rw[<-h.2.1];exact M7 (l:=r) hq
 |(false,v)::r,vs,ds,rs,h=>by
  simp only[AU]at h;split at h
  .rename_i hq
   simp only[qd,qi]at h;rw[<-h.2.1,M7 (l:=r) hq];rfl
  grind
theorem ZeF {call:Ag}{oid:Nat}{f:V}{args:List (Bool×V)}{g:FuncId}{caps:List (Bool×V)}(hc:DC f=some (g,caps)){v:V}{u:Upd}(h:Cb call L oid f args=some (v,u))
 (hL:∀k∈C0 L (args++caps)++u.map (·.1),L k=L' k):Cb call L' oid f args=some (v,u):=by
 unfold Cb at h |-;rw[hc]at h |-;simp only at h |-;simp only[qp]at hL;obtain⟨hd1,hd2⟩:=J8 (L:=L) (L':=L') (l:=args++caps) fun k hk=>hL k (.inl hk);rw[<-hd2];cases hq:AU L (args++caps)with
 |none=>grind
 |some q=>
  obtain⟨vs,ds,rs⟩:=q;rw[hq]at h;have hds:=M7 hq;have hdsL:∀k∈ds,L k=L' k:=fun k hk=>hL k (.inl (by grind));simp only at h |-;cases hos:Ae L (Ar L rs)with
  |none=>grind
  |some os=>
   rw[hos]at h;simp only at h;cases hg:((Ar L rs).all (fun k=>!ds.contains k)&&(Ar L (Ar L rs)).length==(Ar L rs).length)with
   |false=>grind
   |true=>
    rw[hg]at h;simp only[cond_true]at h;cases hcall:call g (vs.map (V.ren (AQ (Ar L rs)))) (os.map (Obj.ren (AQ (Ar L rs))))with
    |none=>rw[hcall]at h;cases h
    |some q=>
     obtain⟨rv,os'⟩:=q;rw[hcall]at h;simp only at h;cases hb:(Nat.ble (Ar L rs).length os'.length&&(os.zip os').all (fun x=>Fn x.1 x.2)&&(Ba oid 0 (os'.length-(Ar L rs).length)).all (fun k=>(L k).isNone))with
     |false=>grind
     |true=>
      rw[hb]at h;simp only[cond_true]at h;have hb':=hb;simp only[qe]at hb';obtain⟨⟨hb1,hb2⟩,hb3⟩:=hb';have hble:=qm hb1;have hkeys:(BM (Ar L rs++Ba oid 0 (os'.length-(Ar L rs).length)) (os'.map (Obj.ren fun i=>(Ar L rs++Ba oid 0 (os'.length-(Ar L rs).length))[i]?))).map (·.1)=Ar L rs++Ba oid 0 (os'.length-(Ar L rs).length):=by
       grind[V5,Ph]
      have fin:(∀k∈Ar L rs++Ba oid 0 (os'.length-(Ar L rs).length),L k=L' k)->Ar L rs=Ar L' rs/\Ae L' (Ar L rs)=some os/\(Ar L (Ar L rs)).length=(Ar L' (Ar L rs)).length/\(Ba oid 0 (os'.length-(Ar L rs).length)).all (fun k=>(L' k).isNone)=true:=by
       intro hall;have hids:∀k∈Ar L rs,L k=L' k:=fun k hk=>hall k (List.mem_append_left _ hk);grind[YF,M3,WW,ZhH,D9]
      cases ds with
      |nil=>
       grind
      |cons d ds=>
       simp only at h;cases hf:(C6 rv&&(Ar L rs).isEmpty&&(Ba oid 0 (os'.length-(Ar L rs).length)).isEmpty)with
       |true=>
        grind
       |false=>
        rw[hf]at h;simp only[cond_false]at h;cases hp:Bu L (d::ds) (d::ds)with
        |none=>grind
        |some p=>
         rw[hp]at h;simp only[qd,qi]at h;obtain⟨f1,f2,f3,f4⟩:=fin fun k hk=>hL k (.inr (by grind));rw[<-f1,f2];simp only;rw[<-f3,hg];simp only[cond_true];rw[hcall];simp only;rw[hb1,hb2,f4];simp only[Bool.and_self,cond_true,hf,cond_false];rw[PU hdsL (fun _ h=>h) hp];grind
theorem RE {n oid:Nat}{own:List (Nat×Nat)}{v a r:V}{u:Upd}(h:(let y:=ownW oid own 0 v.cells
 bif v.cells.length==n&&v.cells.all Ap&&y.2.all (fun u=>(L u.1).isNone) then match a with
 |.sc (.ptr k off)=>match L k with
  |some (.box cells)=>(splice cells off y.1).map fun cs=>(V.sc .un,y.2++[(k,some (.box cs))])
  |_=>none
 |.sc (.el k N i off)=>match L k with
  |some (.arr s rows p)=>bif rows.length==N&&Nat.ble p i then match rows[i]? with
   |some row=>(splice row off y.1).map fun cs=>(.sc .un,y.2++[(k,some (.arr s (setRow rows i cs) p))])
   |none=>none
   else none
  |_=>none
 |_=>none
 else none)=some (r,u)) (hL:∀k,k∈a.direct\/k∈u.map (fun x:Nat×Option Obj=>x.1)->L k=L' k):(let y:=ownW oid own 0 v.cells
 bif v.cells.length==n&&v.cells.all Ap&&y.2.all (fun u=>(L' u.1).isNone) then match a with
 |.sc (.ptr k off)=>match L' k with
  |some (.box cells)=>(splice cells off y.1).map fun cs=>(V.sc .un,y.2++[(k,some (.box cs))])
  |_=>none
 |.sc (.el k N i off)=>match L' k with
  |some (.arr s rows p)=>bif rows.length==N&&Nat.ble p i then match rows[i]? with
   |some row=>(splice row off y.1).map fun cs=>(.sc .un,y.2++[(k,some (.arr s (setRow rows i cs) p))])
   |none=>none
   else none
  |_=>none
 |_=>none
 else none)=some (r,u):=by
 simp only at h |-;generalize ownW oid own 0 v.cells=y at h |-;cases hb:(v.cells.length==n&&v.cells.all Ap&&y.2.all (fun u=>(L u.1).isNone))with
 |false=>grind
 |true=>
  rw[hb]at h;simp only[cond_true]at h;have hb':=hb;simp only[qe]at hb';have hall:(∀x∈y.2,x.1∈u.map (fun x:Nat×Option Obj=>x.1))->y.2.all (fun u=>(L' u.1).isNone)=true:=by
   grind
  have hcond:(∀x∈y.2,x.1∈u.map (fun x:Nat×Option Obj=>x.1))->(v.cells.length==n&&v.cells.all Ap&&y.2.all (fun u=>(L' u.1).isNone))=true:=fun hk=>by
   grind
  cases a with
  |sc a=>cases a with
   |ptr k off=>
    grind[qu]
   |el k M i off=>
    simp only at h |-;rw[<-hL k (.inl (by simp[V.direct]))];cases hk:L k with
    |none=>grind
    |some o=>cases o with
     |box _=>grind
     |arr s rows p=>
      simp only[hk]at h |-;grind[qu]
   |_=>simp at h
  |_=>simp at h
theorem XB {o:VOper}(hown:o.own=[]){v:V}{u:Upd}(h:Af C E L o.oid o.op=some (v,u))(ha:(recO C E L o u).1=false)(hL:∀k∈(recO C E L o u).2,L k=L' k):Af C E L' o.oid o.op=some (v,u):=by
 unfold recO at ha hL;rw[hown]at ha hL;simp only at ha hL;cases hop:o.op<;>rw[hop]at h ha hL<;>simp only[Gv,cond_true,cond_false,reduceCtorEq]at ha hL
 case load ag n x=>
  grind[Af,V.direct]
 case fld n x=>grind[Af,Qk]
 case nn x=>
  grind[Af,Uc,V.direct]
 case store n a x own=>
  simp only[qp]at hL;simp only[Af]at h |-;cases hx:x.val C E with
  |tu l=>rw[hx]at h;simp at h
  |sc y=>rw[hx]at h;exact RE h hL
  |ag y=>rw[hx]at h;exact RE h hL
 case cp s x y=>
  grind[Af,Zb6]
 case appN s bytes y=>
  grind[Af,Hj,LY,V.direct]
 case appF s bytes x y=>
  grind[Af,Hj,LY,V.direct]
 case bldD zero ps=>
  grind[Af,qav,Oh]
 case mvD x=>
  grind[Af,Oh]
 case ldD ag n x=>
  grind[Af,qav,Zev,Oh]
 case cvS x=>grind[Af,Hj]
 case slA s n x lo hi=>
  grind[Af,V.direct]
 case clr s zero x=>
  grind[Af,V.direct]
 case idxA s x i=>
  rw[<-h];simp only[Af];generalize x.val C E=y at hL;cases y with
  |sc y=>cases y with
   |arr k n=>simp only[hL k (by simp[V.direct])]
   |vw k N lo n=>simp only[hL k (by simp[V.direct])]
   |c y=>cases y<;>rfl
   |_=>rfl
  |_=>rfl
 case idxAA s len x i=>grind[Af,Qk]
 case len str x=>grind[Af,ZbR]
 case sl s x lo hi m3=>grind[Af,ZgM]
 case new cells own=>
  grind[Af,VK]
 case box x=>rw[<-h];simp only[Af,hL o.oid sy]
 case mkSl s xs=>rw[<-h];simp only[Af,hL o.oid sy]
 case mkS s bytes zero n=>grind[Af]
 case newA n zero=>grind[Af]
 case app s bytes mk x y=>
  grind[Af,Zaw,LY]
 case call f args own=>
  cases own with
  |cons _ _=>grind
  |nil=>
   simp only at ha hL;simp only[Af,Tu,List.all_nil,cond_true,updL]at h |-;grind[ZeF]
 all_goals first | exact h | (simp at ha;done)
theorem Wj {o:VOper}{u:Upd}(_:(recO C E L o u).1=false)(hL:∀k∈(recO C E L o u).2,L k=L' k):recO C E L o u=recO C E L' o u:=by
 unfold recO at hL |-;split;rfl
 .rename_i hown
  rw[hown]at hL;simp only at hL;cases hop:o.op<;>rw[hop]at hL<;>try rfl
  grind;grind;grind[J8]
theorem Rn {o:VOper}{v:V}{u:Upd}(h:runO C o E L=some (v,u))(ha:(recO C E L o u).1=false)(hL:∀k∈(recO C E L o u).2,L k=L' k):runO C o E L'=some (v,u):=by
 have hown:o.own=[]:=by
  grind[recO]
 have key:∀q,Af C E L o.oid o.op=some q->ownV o.oid o.own L q=some (v,u)->Af C E L' o.oid o.op=some (v,u):=by
  grind[ownV,XB]
 have fin:∀{q:Option (V×Upd)},q=some (v,u)->(match q with | none=>none | some r=>ownV o.oid o.own L' r)=some (v,u):=by
  grind[ownV]
 unfold runO at h |-;cases hg:o.guard<;>grind
end
def Ij (C:Ctx)(E:LV1)(L:LO1)(o:VOper)(u:Upd):Rec:=⟨(recO C E L o u).1,(recO C E L o u).2,u.map (·.1)⟩
def Runs (C:Ctx):List (VOper×Rec)->(LV1)->(LO1)->(LV1)->(LO1)->Prop
 |[],E,L,E',L'=>E=E'/\L=L'
 |x::os,E,L,E',L'=>∃v u,runO C x.1 E L=some (v,u)/\x.2=Ij C E L x.1 u/\Runs C os (updD E x.1.dst v) (updL L u) E' L'
def HL (x y:VOper):Bool:=
 (match x.dst with | some d=>!(y.tmps.contains d) && !(y.dst==some d) | none=>true) &&
 (match y.dst with | some d=>!(x.tmps.contains d) | none=>true)
section
variable {C:Ctx}{E E':LV1}{L L':LO1}
theorem HC:∀{u:Upd}{L:LO1}{k:Nat},k∉u.map (·.1)->updL L u k=L k
 |[],_,_,_=>rfl
 |(j,x)::u,L,k,h=>by
  simp only[qt,qG,not_or]at h;simp only[updL];rw[HC h.2,DL h.1]
theorem Uw:∀{u:Upd}{L M:LO1}{k:Nat},k∈u.map (·.1)->updL L u k=updL M u k
 |[],_,_,_,h=>by grind
 |(j,x)::u,L,M,k,h=>by
  simp only[updL];by_cases hk:k∈u.map (·.1)
  .exact Uw hk
  grind[HC,Cg]
theorem Zg4 {u u':Upd}(h:∀k∈u.map (·.1),k∉u'.map (·.1)):updL (updL L u) u'=updL (updL L u') u:=by
 grind[HC,Uw]
theorem Us {d:Option Nat}{v:V}{t:Nat}(h:d≠some t):updD E d v t=E t:=by
 cases d with
 |none=>rfl
 |some d=>simp only[updD,updE];grind
theorem ZS {d d':Option Nat}{v v':V}(h:∀t,d=some t->d'≠some t):updD (updD E d v) d' v'=updD (updD E d' v') d v:=by
 cases d with
 |none=>rfl
 |some d=>cases d' with
  |none=>rfl
  |some d'=>
   have hne:d'≠d:=fun e=>h d rfl (by rw[e]);funext t;simp only[updD,updE];grind
theorem ZeR {x y:VOper}(h:HL x y=true):(∀t∈y.tmps,x.dst≠some t)/\(∀t∈x.tmps,y.dst≠some t)/\∀t,x.dst=some t->y.dst≠some t:=by
 grind[HL]
theorem ZcA {a b:List Nat}(h:apart a b=true):∀k∈a,k∉b:=by
 intro k hk;have:=qE.1 h k hk;grind
theorem Zb3 {a b:Rec}(h:EL a b=true):(a.all=false/\a.reads=[]/\a.keys=[])\/(b.all=false/\b.reads=[]/\b.keys=[])\/
 (a.all=false/\b.all=false/\(∀k∈a.reads,k∉b.keys)/\(∀k∈b.reads,k∉a.keys)/\∀k∈a.keys,k∉b.keys):=by
 grind[EL,Rec.touch,ZcA]
theorem Runs.swap {x y:VOper×Rec}{r:List (VOper×Rec)}(hs:HL x.1 y.1=true)(hi:EL x.2 y.2=true)(h:Runs C (x::y::r) E L E' L'):Runs C (y::x::r) E L E' L':=by
 obtain⟨x,rx⟩:=x;obtain⟨y,ry⟩:=y;obtain⟨v1,u1,h1,h2,v2,u2,h3,h4,h5⟩:=h;simp only at hs hi h1 h2 h3 h4 h5;obtain⟨s1,s2,s3⟩:=ZeR hs;have e1:∀t∈y.tmps,updD E x.dst v1 t=E t:=fun t ht=>Us (s1 t ht);have e2:∀t∈x.tmps,E t=updD E y.dst v2 t:=fun t ht=>(Us (s2 t ht)).symm;have q1:recO C (updD E x.dst v1) (updL L u1) y u2=recO C E (updL L u1) y u2:=Rh e1
 have q2:recO C E (updL L u2) x u1=recO C (updD E y.dst v2) (updL L u2) x u1:=Rh e2;rw[Tj e1]at h3;unfold Ij at h2 h4;rw[q1]at h4;have keysNil:∀{u:Upd},u.map (·.1)=[]->u=[]:=fun h=>List.map_eq_nil_iff.1 h;have d:=Zb3 hi;rw[h2,h4]at d;simp only at d;have g1:runO C y E L=some (v2,u2)/\recO C E L y u2=recO C E (updL L u1) y u2:=by
  grind[updL,Rn,Wj,HC]
 have g2:runO C x E (updL L u2)=some (v1,u1)/\recO C E L x u1=recO C E (updL L u2) x u1:=by
  grind[updL,Rn,Wj,HC]
 have g3:updL (updL L u1) u2=updL (updL L u2) u1:=by
  grind[Zg4]
 refine⟨v2,u2,g1.1,?_,v1,u1,?_,?_,?_⟩<;>grind[Ij,Tj,ZS]
theorem Runs.front:∀{pre:List (VOper×Rec)}{y:VOper×Rec}{post:List (VOper×Rec)}{E:LV1}{L:LO1},(∀x∈pre,HL x.1 y.1=true/\EL x.2 y.2=true)->
 Runs C (pre++y::post) E L E' L'->Runs C (y::(pre++post)) E L E' L'
 |[],_,_,_,_,_,h=>h
 |x::pre,y,post,E,L,hp,h=>by
  obtain⟨v,u,h1,h2,h3⟩:=h;have h4:Runs C (x::y::(pre++post)) E L E' L':=⟨v,u,h1,h2,Runs.front (fun z hz=>hp z (by grind)) h3⟩;grind[Runs.swap]
theorem ZbV {o:VOper}(hp:(Gv o.op&&o.own.isEmpty)=true){v:V}{u:Upd}(h:runO C o E L=some (v,u)):(Ij C E L o u).touch=false:=by
 simp only[qe,qa3]at hp;obtain⟨h1,h2⟩:=hp;have hu:u=[]:=by
  have key:∀q,Af C E L o.oid o.op=some q->q.2=[]:=by
   intro q hq;cases hop:o.op<;>rw[hop]at h1 hq<;>simp only[Gv,qx]at h1<;>simp only[Af]at hq<;>grind[qu]
  grind[runO,ownV]
 grind[recO,Gv,Ij,Rec.touch]
end
def D6 (P:Program)(N:Nat)(ops:Array Oper):List Oper->List VOper->Bool
 |[],[]=>true
 |o::os,x::xs=>FU P N ops o x&&D6 P N ops os xs
 |_,_=>false
def FP (o:Oper):List Nat:=(o.after.toList.filter (Region.binds .any)).map (·.on)
def Gu:List Oper->List (List Nat)->List (List Nat)
 |[],acc=>acc
 |o::r,acc=>Gu r (acc++[nubs ((FP o).flatMap fun e=>e::(acc[e]?).getD [])])
def Hf (o:VOper):Bool:=Gv o.op&&o.own.isEmpty
def ZhV (ops:Array Oper):Bool:=(List.range ops.size).all fun i=>match ops[i]? with | some o=>(FP o).all fun e=>Nat.blt e i | none=>true
def UX (vops:List VOper)(anc:List (List Nat))(chk:List (Nat×Nat))(i j:Nat):Bool:=
 ((anc[j]?).getD []).contains i || (match vops[i]?,vops[j]? with
   |some x,some y=>HL x y&&(Hf x||Hf y||chk.contains (i,j))
   |_,_=>false)
def H3 (ops:Array Oper)(vops:List VOper)(chk:List (Nat×Nat)):Bool:=
 let anc:=Gu ops.toList []
 ZhV ops&&(List.range vops.length).all fun j=>(List.range j).all fun i=>UX vops anc chk i j
def Hp (P:Program)(N:Nat)(ops:Array Oper)(vops:List VOper)(chk:List (Nat×Nat))(draw:Bool):Bool:=
 D6 P N ops ops.toList vops&&(!draw||H3 ops vops chk)
def C7 (C:Ctx)(vops:List VOper)(chk:List (Nat×Nat))(s:St):Option St:=
 match chk with
 |[]=>DY C vops s
 |_=>match B6 C vops s with
  |none=>none
  |some (rs,s')=>bif CU rs chk then some s' else none
section
variable {P:Program}{C:Ctx}{N:Nat}{w0:World}{ω0:Nat->Nat}{S:Fr}{E E':LV1}{L L':LO1}{a:Act}{w:World}{ω:Nat->Nat}{β:LN1}
variable {ops:Array Oper}
theorem IJ:∀{os:List Oper}{xs:List VOper},D6 P N ops os xs=true->os.length=xs.length/\∀(i:Nat)(x:VOper),xs[i]?=some x->∃o,os[i]?=some o/\FU P N ops o x=true
 |[],[],_=>⟨rfl,fun i x h=>by grind⟩
 |[],_::_,h=>by simp[D6]at h
 |_::_,[],h=>by simp[D6]at h
 |o::os,y::xs,h=>by
  simp only[D6,qe]at h;obtain⟨h1,h2⟩:=IJ h.2;grind
theorem Pf:∀{vops:List VOper}{s s':St}{rs:List Rec},B6 C vops s=some (rs,s')->rs.length=vops.length/\Runs C (vops.zip rs) (get? s.env) (look s.objs) (get? s'.env) (look s'.objs)
 |[],s,s',rs,h=>by
  simp only[B6,qd,qi]at h;obtain⟨rfl,rfl⟩:=h;exact⟨rfl,rfl,rfl⟩
 |o::r,s,s',rs,h=>by
  simp only[B6]at h;split at h;grind
  .rename_i v u hv
   split at h;grind
   .rename_i rs' s2 hr
    simp only[qd,qi]at h;obtain⟨rfl,rfl⟩:=h;obtain⟨h1,h2⟩:=Pf hr;refine⟨by grind,v,u,hv,rfl,?_⟩;cases hd:o.dst with
    |none=>rw[hd]at h2;simp only[SM]at h2;exact h2
    |some d=>rw[hd]at h2;simp only[SM,OY]at h2;exact h2
theorem Pv:∀{vops:List VOper}{s s':St},DY C vops s=some s'->∃rs,B6 C vops s=some (rs,s')
 |[],s,s',h=>by
  simp only[DY,qd]at h;subst h;exact⟨[],rfl⟩
 |o::r,s,s',h=>by
  simp only[DY,LZ]at h;cases hr:runO C o (get? s.env) (look s.objs)with
  |none=>grind
  |some q=>
   obtain⟨v,u⟩:=q;rw[hr]at h;obtain⟨rs,h1⟩:=Pv h;grind[B6]
theorem Nv (hC:Dz P C){Q:Exit->Act->World->Prop}:∀{os:List Oper}{vops:List VOper}{rs:List Rec}{E:LV1}{L:LO1}{a:Act}{w:World}{ω:Nat->Nat}{β:LN1},
 Rel C.gl N w0 ω0 S E L a w ω β->D6 P N ops os vops=true->rs.length=vops.length->Runs C (vops.zip rs) E L E' L'->
 (∀a w ω β,Rel C.gl N w0 ω0 S E' L' a w ω β->Q .normal a w)->wpList P ops Q os a w
 |[],[],rs,E,L,a,w,ω,β,r,_,_,h,hQ=>by
  simp only[List.zip_nil_left,Runs]at h;obtain⟨rfl,rfl⟩:=h;exact hQ a w ω β r
 |[],_::_,_,_,_,_,_,_,_,_,h,_,_,_=>by simp[D6]at h
 |_::_,[],_,_,_,_,_,_,_,_,h,_,_,_=>by simp[D6]at h
 |o::os,x::xs,[],_,_,_,_,_,_,_,_,h,_,_=>by grind
 |o::os,x::xs,y::rs,E,L,a,w,ω,β,r,hm,hl,h,hQ=>by
  simp only[D6,qe]at hm;obtain⟨v,u,h1,_,h3⟩:=h;exact UJ hC r hm.1 h1 fun a' w' ω' β' r'=>Nv hC r' hm.2 (by grind) h3 hQ
theorem Tp {os:List Oper}(lst:Nat->Bool)(hc:∀(j:Nat)(o:Oper),os[j]?=some o->lst j=true->∀e∈FP o,lst e=true):
 ∀(r:List Oper) (acc:List (List Nat)),os.drop acc.length=r->acc.length<=os.length->
 (∀(j:Nat) (l:List Nat) (o:Oper),acc[j]?=some l->os[j]?=some o->(∀e∈FP o,lst e=true)->∀i∈l,lst i=true)->
 ∀(j:Nat) (l:List Nat) (o:Oper),(Gu r acc)[j]?=some l->os[j]?=some o->(∀e∈FP o,lst e=true)->∀i∈l,lst i=true
 |[],acc,_,_,h=>by grind[Gu]
 |o::r,acc,hd,hlen,h=>by
  simp only[Gu];have ho:os[acc.length]?=some o:=by
   have:=congrArg (·[0]?) hd;grind
  have hlt:acc.length<os.length:=(qf.1 ho).1;refine Tp lst hc r _ ?_ (by grind) ?_
  .rw [qz,List.length_singleton,<-List.drop_drop,hd]
   rfl
  .intro j l oj hj hoj hp i hi
   by_cases hjl:j<acc.length;grind
   .rw [qN oz] at hj
    have hz:j-acc.length=0:=by
     grind
    have:j=acc.length:=oz;subst this;rw[hz]at hj;simp only[qP,qd]at hj;subst hj;rw[ho]at hoj;cases hoj;rw[KN,qbn]at hi;grind
def CC (n:Nat)(listed:Array Bool):List Nat:=(List.range n).filter fun i=>!listed.getD i true
theorem Zfw:∀{pre post:List Nat}{i:Nat},(pre++i::post).Nodup->(pre++i::post).filter (· != i)=pre++post:=by
 grind[List.filter_eq_self]
theorem ZgK {n i:Nat}{listed:Array Bool}(hi:i<listed.size):CC n (listed.setIfInBounds i true)=(CC n listed).filter (· != i):=by
 unfold CC;rw[List.filter_filter];congr 1;funext j;by_cases h:j=i;simp_all
 .rw [show (listed.setIfInBounds i true).getD j true=listed.getD j true by simp [qaA (Ne.symm h)]]
  grind
theorem Te (n:Nat)(listed:Array Bool):(CC n listed).Pairwise (· < ·):=List.Pairwise.filter _ List.pairwise_lt_range
theorem QB (hC:Dz P C){Q:Exit->Act->World->Prop}{vops:List VOper}{rs:List Rec}{chk:List (Nat×Nat)}(hm:D6 P N ops ops.toList vops=true)(ho:H3 ops vops chk=true)
 (hl:rs.length=vops.length) (hk:CU rs chk=true) (hpl:∀(i:Nat) (x:VOper) (y:Rec),vops[i]?=some x->rs[i]?=some y->Hf x=true->y.touch=false)
 (hQ:∀a w ω β,Rel C.gl N w0 ω0 S E' L' a w ω β->Q .normal a w):
 ∀(fuel:Nat) {listed:Array Bool} {E:LV1} {L:LO1} {a:Act} {w:World} {ω:Nat->Nat} {β:LN1},listed.size=ops.size->
 (∀(j:Nat) (o:Oper),ops.toList[j]?=some o->listed.getD j false=true->∀e∈FP o,listed.getD e false=true)->
 (CC ops.size listed).length<=fuel->Rel C.gl N w0 ω0 S E L a w ω β->
 Runs C ((CC ops.size listed).map fun i=>((vops[i]?).getD default,(rs[i]?).getD default)) E L E' L'->wpAny P .any ops Q fuel listed a w:=by
 obtain⟨hlen,hget⟩:=IJ hm;rw[qar]at hlen;unfold H3 at ho;simp only[qe]at ho;obtain⟨hback,hpairs⟩:=ho;have ready_of:∀(listed:Array Bool),listed.size=ops.size->Region.ready .any ops listed=[]->CC ops.size listed=[]:=by
  intro listed hsz hr;cases hrem:CC ops.size listed with
  |nil=>rfl
  |cons i rest=>
   exfalso;have hi:i∈CC ops.size listed:=(by grind);have hi':=qaV.1 hi;have hilt:i<ops.size:=qaQ.1 hi'.1;have hpw:=Te ops.size listed;rw[hrem,List.pairwise_cons]at hpw;have:i∈Region.ready .any ops listed:=by
    rw[mem_ready];refine⟨by grind,ops[i],by simp,fun e he hb=>?_⟩;have hp:e.on∈FP ops[i]:=qJ.2 ⟨e,qaV.2 ⟨by grind,hb⟩,rfl⟩;have hlt:e.on<i:=by
     have:=qE.1 hback i (qaQ.2 hilt);simp_all
    cases hle:listed.getD e.on false with
    |true=>rfl
    |false=>
     exfalso;have hmem:e.on∈CC ops.size listed:=by
      refine qaV.2 ⟨qaQ.2 oz,?_⟩;grind
     grind
   grind
 intro fuel
 induction fuel with
 |zero=>
  intro listed E L a w ω β hsz hcl hf r hruns;have hrem:CC ops.size listed=[]:=List.eq_nil_of_length_eq_zero oz;refine⟨?_,?_⟩
  .rw [List.eq_nil_iff_forall_not_mem]
   intro j hj;obtain⟨h1,o,h2,_⟩:=mem_ready.1 hj;have:j∈CC ops.size listed:=qaV.2 ⟨qaQ.2 (qV.1 h2).1,by grind⟩;grind
  .rw [hrem] at hruns
   obtain⟨rfl,rfl⟩:=hruns;grind
 |succ fuel ih=>
  intro listed E L a w ω β hsz hcl hf r hruns;refine⟨fun hr=>?_,fun i hi=>?_⟩
  .have hrem:=ready_of listed hsz hr
   rw[hrem]at hruns;obtain⟨rfl,rfl⟩:=hruns;grind
  .obtain ⟨h1,o,h2,h3⟩:=mem_ready.1 hi
   have hilt:i<ops.size:=(qV.1 h2).1;have hmem:i∈CC ops.size listed:=qaV.2 ⟨qaQ.2 hilt,by grind⟩;obtain⟨pre,post,hsplit⟩:=List.append_of_mem hmem;have hpw:=Te ops.size listed;have hnd:(pre++i::post).Nodup:=by
    rw[hsplit]at hpw;exact hpw.imp (fun h=>by omega)
   have hx:vops[i]?=some vops[i]:=qj oz;obtain⟨o',ho1,ho2⟩:=hget i _ hx;have hoo:o'=o:=by
    grind
   subst hoo;have hpi:∀e∈FP o',listed.getD e false=true:=by
    intro e he;obtain⟨e',he',rfl⟩:=qJ.1 he;grind
   have hanc:=Tp (os:=ops.toList) (fun j=>listed.getD j false) hcl ops.toList [] rfl sy sy;rw[hsplit,qai,qt]at hruns;have hfront:=Runs.front ?_ hruns
   .rw [<-qai,hx] at hfront
    obtain⟨v,u,g1,_,g3⟩:=hfront;simp only[Option.getD_some]at g1 g3;simp only[wpOp,h2];refine UJ hC r ho2 g1 fun a' w' ω' β' r'=>?_;have hset:CC ops.size (listed.setIfInBounds i true)=pre++post:=by
     grind[ZgK,Zfw]
    refine ih (by grind) ?_ ?_ r' ?_
    .intro j oj hj hlj e he
     have hmono:∀j,listed.getD j false=true->(listed.setIfInBounds i true).getD j false=true:=by
      intro j hj;by_cases hji:j=i;grind
      .rw[show(listed.setIfInBounds i true).getD j false=listed.getD j false by simp[qaA (Ne.symm hji)]];omega
     refine hmono e ?_;by_cases hji:j=i;grind
     .rw [show (listed.setIfInBounds i true).getD j false=listed.getD j false by simp [qaA (Ne.symm hji)]] at hlj
      grind
    grind;grind
   .intro p hp
    obtain⟨j,hj,rfl⟩:=qJ.1 hp;have hjm:j∈CC ops.size listed:=(by grind);have hjlt:j<i:=by
     grind
    have hjn:listed.getD j true=false:=(by simpa using(qaV.1 hjm).2);have hq:=qE.1 (qE.1 hpairs i (qaQ.2 oz)) j (qaQ.2 hjlt);have hxj:vops[j]?=some vops[j]:=qj oz;have hrj:rs[j]?=some rs[j]:=qj oz;have hri:rs[i]?=some rs[i]:=qj oz;unfold UX at hq;simp only[hx,hxj,qaw,qe]at hq;simp only[hx,hxj,hri,hrj,Option.getD_some];rcases hq with hq|⟨hq1,hq2⟩
    .exfalso
     cases hai:(Gu ops.toList [])[i]? with
     |none=>grind
     |some l=>
      rw[hai]at hq;have:=hanc i l o' hai oz hpi j (by grind);grind
    .refine ⟨hq1,?_⟩
     rcases hq2 with (hq2|hq2)|hq2
     grind[EL];grind[EL]
     .have:=qE.1 hk (j,i) (by grind)
      grind
end
end Go.Vs
namespace Go.Vs
open Go Go.RowKit
theorem ZgE (x:Int)(h:-4611686018427387904<=x/\x<=4611686018427387904):IntKind.i64.wrap x=x:=Go.IntWalk.i64_in x oz
def opIs (o:Oper)(d:Nat)(p:Op->Bool):Bool:=o.dst==some d&&o.guard.isNone&&p o.op
def IC (t:TypeId)(x:Nat):Op->Bool
 |.load t' (.tmp m)=>t'==t&&m==x
 |_=>false
def qLen (t:TypeId)(x:Nat):Op->Bool
 |.call { callee:=.builtin .len,args:=⟨[.tmp m]⟩,argTypes:=⟨[t']⟩ }=>t'==t&&m==x
 |_=>false
def qSub (x:Nat):Op->Bool
 |.binOp .sub _ (.tmp m) (.const (.int .i64 n)) _=>m==x&&n==1
 |_=>false
def qGeq (x:Nat):Op->Bool
 |.binOp .geq _ (.tmp m) (.const (.int .i64 n)) _=>m==x&&n==0
 |_=>false
def qMv (x:Nat):Op->Bool
 |.move (.tmp m)=>m==x
 |_=>false
def qAsg (x:Nat):Op->Bool
 |.assign (.tmp m)=>m==x
 |_=>false
def qIdx (t:TypeId)(x y:Nat):Op->Bool
 |.indexAddr t' (.tmp m) (.tmp n)=>t'==t&&m==x&&n==y
 |_=>false
def LO (g x y:Nat):Op->Bool
 |.call { callee:=.value (.tmp k),args:=⟨[.tmp m,.tmp n]⟩,argTypes:=_ }=>k==g&&m==x&&n==y
 |_=>false
def qNot (x:Nat):Op->Bool
 |.unOp .not _ (.tmp m)=>m==x
 |_=>false
theorem Nf {t:TypeId}{x:Nat}{op:Op}(h:IC t x op=true):op=.load t (.tmp x):=by
 unfold IC at h;grind
theorem Zaf {t:TypeId}{x:Nat}{op:Op}(h:qLen t x op=true):op=.call { callee:=.builtin .len,args:=#[.tmp x],argTypes:=#[t] }:=by
 unfold qLen at h;grind
theorem Tt {x:Nat}{op:Op}(h:qSub x op=true):∃u v,op=.binOp .sub u (.tmp x) (.const (.int .i64 1)) v:=by
 unfold qSub at h;grind
theorem ZcM {x:Nat}{op:Op}(h:qGeq x op=true):∃u v,op=.binOp .geq u (.tmp x) (.const (.int .i64 0)) v:=by
 unfold qGeq at h;grind
theorem II {x:Nat}{op:Op}(h:qMv x op=true):op=.move (.tmp x):=by
 unfold qMv at h;grind
theorem T5 {x:Nat}{op:Op}(h:qAsg x op=true):op=.assign (.tmp x):=by
 unfold qAsg at h;grind
theorem Zb8 {t:TypeId}{x y:Nat}{op:Op}(h:qIdx t x y op=true):op=.indexAddr t (.tmp x) (.tmp y):=by
 unfold qIdx at h;grind
theorem Zhm {g x y:Nat}{op:Op}(h:LO g x y op=true):∃u,op=.call { callee:=.value (.tmp g),args:=#[.tmp x,.tmp y],argTypes:=u }:=by
 unfold LO at h;grind
theorem Zfz {x:Nat}{op:Op}(h:qNot x op=true):∃u,op=.unOp .not u (.tmp x):=by
 unfold qNot at h;grind
def Jv (P:Program)(f:FuncId)(t e:TypeId):Bool:=match P.funcs[f]? with
 |some fn=>fn.ntmps==19&&fn.results.toList.isEmpty&&(match fn.body with
  |some (.seq (.region _ ⟨[a0,a1,a2,a3]⟩ false) (.block b0 (.loop (.seq (.seq (.region _ ⟨[c0,c1]⟩ false) (.cond (.tmp 8) .skip (.exit b1)))
   (.seq (.block _ (.seq (.region _ ⟨[d0,d1,d2,d3,d4,d5,d6,d7]⟩ false) (.cond (.tmp 18) .ret .skip))) (.region _ ⟨[e0,e1,e2]⟩ false))))))=>
   b0==b1 &&
   opIs a0 4 (IC t 1)&&opIs a1 5 (qLen t 4)&&opIs a2 6 (qSub 5)&&opIs a3 3 (qAsg 6)&&opIs c0 7 (qMv 3)&&opIs c1 8 (qGeq 7)&&opIs d0 11 (qMv 0)&&opIs d1 12 (qMv 3)&&opIs d2 13 (IC t 1)&&opIs d3 14 (qMv 3)&&opIs d4 15 (qIdx t 13 14)&&opIs d5 16 (IC e 15)&&opIs d6 17 (LO 11 12 16)&&opIs d7 18 (qNot 17)&&opIs e0 9 (qMv 3)&&opIs e1 10 (qSub 9)&&opIs e2 3 (qAsg 10)
  |_=>false)
 |none=>false
def Zl (P:Program)(f:FuncId):Option (TypeId×TypeId):=match P.funcs[f]? with
 |some fn=>match fn.body with
  |some (.seq (.region _ ⟨a0::_⟩ _) (.block _ (.loop (.seq _ (.seq (.block _ (.seq (.region _ ⟨[_,_,_,_,_,d5,_,_]⟩ _) _)) _)))))=>match a0.op,d5.op with
   |.load t _,.load e _=>some (t,e)
   |_,_=>none
  |_=>none
 |none=>none
def PV (P:Program)(f:FuncId)(s:Nat)(ag:Bool):Bool:=match Zl P f with
 |some (t,e)=>Jv P f t e&&(match P.underlying t with | some (.slice e')=>e'==e | _=>false)&&(match P.info? t with | some i=>i.size==1 | none=>false) && !AO P t&&(P.underlying e).isSome &&
  (match P.info? e with | some i => i.size == s | none => false) && AO P e == ag && (ag || s == 1) && (match P.funcs[f]? with | some fn => fn.body.isSome && fn.name != "runtime.NumGoroutine" | none => false)
 |none=>false
theorem Ns {a:Act}{d t:Nat}{v:Value}(h:d<a.tmps.size):(a.put (some d) v).eval (.tmp t)=if t=d then v else a.eval (.tmp t):=by
 by_cases htd:t=d
 .subst htd
  simp[Act.put,Act.eval,h]
 .rw [if_neg htd]
  simp[Act.put,Act.eval,qaA (Ne.symm htd)]
theorem Xn {a:Act}{d:Nat}{v:Value}:(a.put (some d) v).tmps.size=a.tmps.size:=by simp[Act.put]
section
variable {P:Program}{n:Nat}{ops:Array Oper}{Q:Exit->Act->World->Prop}{a:Act}{w w':World}{o:Oper}{i:Nat}{rest:List Nat}
theorem CA {d:Nat}{p:Op->Bool}(h:opIs o d p=true):o.dst=some d/\o.guard=none/\p o.op=true:=by
 grind[opIs,Option.isNone_iff_eq_none]
theorem CD {F:Fence}(hF:∀f,F.fn f){d:Nat}(ho:ops[i]?=some o)(hd:o.dst=some d)(hg:o.guard=none)(hd':∀c,o.op≠.defer c){v:Value}(hrun:(execOp a.eval o).run P w=.ok (.value v) w')(h:wpOpsIn F n P ops Q rest (a.put (some d) v) w'):
 wpOpsIn F n P ops Q (i::rest) a w:=by
 simp only[wpOpsIn,ho];rw[if_pos (by simp[Region.wanted,hg])];refine⟨fun f _=>hF f,?_⟩;rw[Oper.semAt_eq _ _ _ hd',hrun];show wpOpsIn F n P ops Q rest (a.put o.dst v) w';grind
def KpB (Bs b off m:Nat)(W W':World):Prop:=(∀v,W.cell? ⟨Bs,0,none⟩=some v->W'.cell? ⟨Bs,0,none⟩=some v)/\∀k,k<m->∀v,W.cell? ⟨b,off+k,none⟩=some v->W'.cell? ⟨b,off+k,none⟩=some v
structure BackAct (l Bs:Nat)(a:Act):Prop where
 size:a.tmps.size=19
 defers:a.defers=[]
 y:a.eval (.tmp 0)=.func (.yield l) #[] #[]
 p:a.eval (.tmp 1)=.pointer (some ⟨Bs,0,none⟩)
theorem BackAct.put {l Bs d:Nat}{a:Act}{v:Value}(h:BackAct l Bs a)(hd:2<=d)(hd2:d<19):BackAct l Bs (a.put (some d) v):=by
 have hs:d<a.tmps.size:=by rw[h.size];omega
 exact⟨by rw[Xn,h.size],h.defers,by rw[Ns hs,if_neg oz];exact h.y,by rw[Ns hs,if_neg oz];exact h.p⟩
theorem BackAct.at {l Bs d t:Nat}{a:Act}{v:Value}(h:BackAct l Bs a)(hd:d<19):(a.put (some d) v).eval (.tmp t)=if t=d then v else a.eval (.tmp t):=Ns (by rw[h.size];omega)
theorem SU {t:TypeId}{it:TypeInfo}{x:Operand}{b o':Nat}{vs:List Value}(ho:o.op=.load t x)(hx:a.eval x=.pointer (some ⟨b,o',none⟩))(hu:(P.underlying t).isSome=true)(hi:P.info? t=some it)(hl:vs.length=it.size)
 (hag:AO P t=true\/vs.length=1) (h:∀j v,vs[j]?=some v->w.cell? ⟨b,o'+j,none⟩=some v):(execOp a.eval o).run P w=.ok (.value (BL (AO P t) vs)) w:=by
 have hrun:=Ra (P:=P) (w:=w) (b:=b) (off:=o') hu hi hl hag h;grind[execOp,Instr.loadAt,qw,IH,qq,qy]
theorem HD {x:Operand}(ho:o.op=.move x):(execOp a.eval o).run P w=.ok (.value (a.eval x)) w:=by
 simp[execOp,ho]
theorem Ql {x:Operand}(ho:o.op=.assign x):(execOp a.eval o).run P w=.ok (.value (a.eval x)) w:=by
 simp[execOp,ho]
theorem ZO {x:Operand}{t e:TypeId}{base:Option Addr}{len cap:Nat}(ho:o.op=.call { callee:=.builtin .len,args:=#[x],argTypes:=#[t] })(hu:P.underlying t=some (.slice e))(hx:a.eval x=.slice base len cap):(execOp a.eval o).run P w=.ok (.value (.int .i64 len)) w:=by
 simp[execOp,ho,resolve,invoke,builtin,hx,Builtin.len_,run_underlying hu,goInt]
theorem UH {x:Operand}{t t':TypeId}{m:Int}(ho:o.op=.binOp .sub t x (.const (.int .i64 1)) t')(hx:a.eval x=.int .i64 m)(hm:-4611686018427387900<=m/\m<=4611686018427387900):(execOp a.eval o).run P w=.ok (.value (.int .i64 (m-1))) w:=by
 obtain⟨vv,h1,h2⟩:=O8 (P:=P) (w:=w) (ω:=fun _=>0) (op:=.sub) (k:=.i64) (p:=m) (q:=1) (x:=.int .i64 (m-1)) rfl t (by grind[Cw,CM,ZgE]);simp only[RD]at h1;subst h1;have hc:a.eval (.const (.int .i64 1))=.int .i64 1:=rfl;grind[Cq,execOp,qw,qq,qy]
theorem Zh7 {x:Operand}{t t':TypeId}{m:Int}(ho:o.op=.binOp .geq t x (.const (.int .i64 0)) t')(hx:a.eval x=.int .i64 m):(execOp a.eval o).run P w=.ok (.value (.bool (decide (m>=0)))) w:=by
 obtain⟨vv,h1,h2⟩:=O8 (P:=P) (w:=w) (ω:=fun _=>0) (op:=.geq) (k:=.i64) (p:=m) (q:=0) (x:=.bool (decide (m>=0))) rfl t (by rfl);simp only[RD]at h1;subst h1;have hc:a.eval (.const (.int .i64 0))=.int .i64 0:=rfl;grind[Cq,execOp,qw,qq,qy]
theorem T0 {x:Operand}{t:TypeId}{b:Bool}(ho:o.op=.unOp .not t x)(hx:a.eval x=.bool b):(execOp a.eval o).run P w=.ok (.value (.bool !b)) w:=by
 simp[execOp,ho,hx,Op.unary]
theorem Zdy {x y:Operand}{t e:TypeId}{ie:TypeInfo}{b off len cap j:Nat}(ho:o.op=.indexAddr t x y)(ht:P.underlying t=some (.slice e))(hi:P.info? e=some ie)(hx:a.eval x=.slice (some ⟨b,off,none⟩) len cap)(hy:a.eval y=.int .i64 j)(hj:j<len):
 (execOp a.eval o).run P w=.ok (.value (.pointer (some ⟨b,off+j*ie.size,none⟩))) w:=by
 grind[execOp,qw,JP,qq,qy]
theorem Zo {F:Fence}(hF:∀f,F.fn f)(hro:F.round=none)(hdep:F.depth=none){d:Nat}{g:Operand}{args:Array Operand}{ts:Array TypeId}{l:Nat}{R:Ending->World->Prop}(ho:ops[i]?=some o)(hd:o.dst=some d)(hg:o.guard=none)
 (hop:o.op=.call { callee:=.value g,args:=args,argTypes:=ts }) (hy:a.eval g=.func (.yield l) #[] #[]) (h:YieldAt F (n-1) P l (args.map a.eval) w R)
 (hK:∀e w',R e w'->∃v,e=.returned v/\wpOpsIn F n P ops Q rest (a.put (some d) v) w'):wpOpsIn F n P ops Q (i::rest) a w:=by
 obtain⟨fn,tmps,assign,body,hrun,hround⟩:=h;simp only[wpOpsIn,ho];rw[if_pos (by simp[Region.wanted,hg])];refine⟨fun f _=>hF f,?_⟩;have hx:(execOp a.eval o).run P w=.ok (.round l fn tmps assign body) w:=by
  grind[execOp,resolve,invoke,Deferred.ofValue]
 rw[Oper.semAt_eq _ _ _ (by grind),hx,Oper.uponIn_round];refine⟨by grind,hround.mono ?_⟩;grind
theorem Cu (f:FuncId):Fence.wide.fn f:=trivial
theorem W0 {f:FuncId}{t e:TypeId}(hm:Jv P f t e=true)(ht:P.underlying t=some (.slice e)){it ie:TypeInfo}(hit:P.info? t=some it)(hit1:it.size=1)(hat:AO P t=false)(hue:(P.underlying e).isSome=true)
 (hie:P.info? e=some ie) (hae:AO P e=true\/ie.size=1) {Bs b off len cap:Nat}{base:Option Addr}(us:Nat->List Value) (hlen:len<=4611686018427387900)
 (hbase:len=0\/base=some ⟨b,off,none⟩) (hul':∀k,k<len->(us k).length=ie.size) {l:Nat}{J:Nat->World->Prop}{Jx:World->Prop}{W:World}
 (hW:W.cell? ⟨Bs,0,none⟩=some (.slice base len cap)/\∀k,k<len->∀j v,(us k)[j]?=some v->W.cell? ⟨b,off+(k*ie.size+j),none⟩=some v)
 (hY:∀m,m<len->∀W1,J (m+1) W1->YieldAt Fence.wide (n-1) P l #[.int .i64 (m:Int),BL (AO P e) (us m)] W1 fun e' W'=>
   (e'=.returned (.bool true)/\J m W'/\KpB Bs b off (len*ie.size) W1 W')\/(e'=.returned (.bool false)/\Jx W')) (h0:J len W):
 CallsIn Fence.wide n P f #[.func (.yield l) #[] #[],.pointer (some ⟨Bs,0,none⟩)] W fun e' W'=>(∃v,e'=.returned v)/\(J 0 W'\/Jx W'):=by
 have hgood:∃Good:World->Prop,Good W/\(∀W1 W2,Good W1->KpB Bs b off (len*ie.size) W1 W2->Good W2)/\(∀W1,Good W1->W1.cell? ⟨Bs,0,none⟩=some (.slice base len cap)/\∀k,k<len->∀j v,(us k)[j]?=some v->W1.cell? ⟨b,off+(k*ie.size+j),none⟩=some v):=by
  refine⟨fun W1=>W1.cell? ⟨Bs,0,none⟩=some (.slice base len cap)/\∀k,k<len->∀j v,(us k)[j]?=some v->W1.cell? ⟨b,off+(k*ie.size+j),none⟩=some v,?_,?_,fun _ h=>h⟩;omega
  .intro W1 W2 h1 hk
   refine⟨hk.1 _ h1.1,fun k hkl j v hv=>hk.2 _ ?_ v (h1.2 k hkl j v hv)⟩;have hj:j<ie.size:=(by grind);have:=qD ie.size (show k+1<=len by omega);grind
 obtain⟨Good,g0,gk,gg⟩:=hgood;unfold Jv at hm;split at hm
 .rename_i fn hfn
  simp only[qe,beq_iff_eq,qa3,Array.toList_eq_nil_iff]at hm;obtain⟨⟨hnt,hres⟩,hm⟩:=hm;split at hm
  .rename_i r0 a0 a1 a2 a3 b0 r1 c0 c1 b1 bb r3 d0 d1 d2 d3 d4 d5 d6 d7 r2 e0 e1 e2 hbody
   simp only[qe,beq_iff_eq]at hm;obtain⟨⟨⟨⟨⟨⟨⟨⟨⟨⟨⟨⟨⟨⟨⟨⟨⟨hbb,ha0⟩,ha1⟩,ha2⟩,ha3⟩,hc0⟩,hc1⟩,hd0⟩,hd1⟩,hd2⟩,hd3⟩,hd4⟩,hd5⟩,hd6⟩,hd7⟩,he0⟩,he1⟩,he2⟩:=hm;subst hbb;obtain⟨ha0d,ha0g,ha0⟩:=CA ha0;obtain⟨ha1d,ha1g,ha1⟩:=CA ha1;obtain⟨ha2d,ha2g,ha2⟩:=CA ha2;obtain⟨ha3d,ha3g,ha3⟩:=CA ha3;obtain⟨hc0d,hc0g,hc0⟩:=CA hc0;obtain⟨hc1d,hc1g,hc1⟩:=CA hc1;obtain⟨hd0d,hd0g,hd0⟩:=CA hd0;obtain⟨hd1d,hd1g,hd1⟩:=CA hd1
   obtain⟨hd2d,hd2g,hd2⟩:=CA hd2;obtain⟨hd3d,hd3g,hd3⟩:=CA hd3;obtain⟨hd4d,hd4g,hd4⟩:=CA hd4;obtain⟨hd5d,hd5g,hd5⟩:=CA hd5;obtain⟨hd6d,hd6g,hd6⟩:=CA hd6;obtain⟨hd7d,hd7g,hd7⟩:=CA hd7;obtain⟨he0d,he0g,he0⟩:=CA he0;obtain⟨he1d,he1g,he1⟩:=CA he1;obtain⟨he2d,he2g,he2⟩:=CA he2;replace ha0:=Nf ha0;replace ha1:=Zaf ha1;obtain⟨ua2,va2,ha2⟩:=Tt ha2;replace ha3:=T5 ha3;replace hc0:=II hc0
   obtain⟨uc1,vc1,hc1⟩:=ZcM hc1;replace hd0:=II hd0;replace hd1:=II hd1;replace hd2:=Nf hd2;replace hd3:=II hd3;replace hd4:=Zb8 hd4;replace hd5:=Nf hd5;obtain⟨ud6,hd6⟩:=Zhm hd6;obtain⟨ud7,hd7⟩:=Zfz hd7;replace he0:=II he0;obtain⟨ue1,ve1,he1⟩:=Tt he1;replace he2:=T5 he2;refine callsIn_of_wp hfn hbody trivial ?_ rfl;have hut:(P.underlying t).isSome=true:=(by grind)
   have nd:∀{o:Oper} {q:Op},o.op=q->(∀c,q≠.defer c)->∀c,o.op≠.defer c:=fun h h' c=>by grind
   have hA0:BackAct l Bs { tmps:=#[Value.func (.yield l) #[] #[],Value.pointer (some ⟨Bs,0,none⟩)]++Array.replicate (fn.ntmps-#[Value.func (.yield l) #[] #[],Value.pointer (some ⟨Bs,0,none⟩)].size) undef,defers:=[] }:=by
    rw[hnt];exact⟨by simp,rfl,by simp[Act.eval],by simp[Act.eval]⟩
   generalize ({ tmps:=#[Value.func (.yield l) #[] #[],Value.pointer (some ⟨Bs,0,none⟩)]++Array.replicate (fn.ntmps-#[Value.func (.yield l) #[] #[],Value.pointer (some ⟨Bs,0,none⟩)].size) undef,defers:=[] }:Act)=A0 at hA0 |-;have ldS:∀{o:Oper} {a:Act} {w:World},o.op=.load t (.tmp 1)->BackAct l Bs a->Good w->(execOp a.eval o).run P w=.ok (.value (.slice base len cap)) w:=by
    intro o a w ho hA hg;have:=SU (P:=P) (w:=w) (vs:=[Value.slice base len cap]) ho hA.p hut hit (by grind) (.inr rfl) (by
     grind)
    grind[BL]
   refine wpIn_seq (wpIn_region ?_);refine CD Cu rfl ha0d ha0g (nd ha0 sy) (ldS ha0 hA0 g0) ?_;have hA1:=hA0.put (v:=.slice base len cap) (d:=4) oz oz;refine CD Cu rfl ha1d ha1g (nd ha1 sy) (ZO ha1 ht (by rw[hA0.at oz];rfl)) ?_;have hA2:=hA1.put (v:=.int .i64 len) (d:=5) oz oz
   refine CD Cu rfl ha2d ha2g (nd ha2 sy) (UH (m:=len) ha2 (by rw[hA1.at oz];rfl) oz) ?_;have hA3:=hA2.put (v:=.int .i64 ((len:Int)-1)) (d:=6) oz oz;refine CD Cu rfl ha3d ha3g (nd ha3 sy) (Ql ha3) ?_
   rw[show((((A0.put (some 4) (.slice base len cap)).put (some 5) (.int .i64 len)).put (some 6) (.int .i64 ((len:Int)-1))).eval (.tmp 6))=.int .i64 ((len:Int)-1) by rw[hA2.at oz];rfl];have hA4:=hA3.put (v:=.int .i64 ((len:Int)-1)) (d:=3) oz oz
   have h3:((((A0.put (some 4) (.slice base len cap)).put (some 5) (.int .i64 len)).put (some 6) (.int .i64 ((len:Int)-1))).put (some 3) (.int .i64 ((len:Int)-1))).eval (.tmp 3)=.int .i64 ((len:Int)-1):=(by rw[hA3.at oz];rfl)
   generalize ((((A0.put (some 4) (.slice base len cap)).put (some 5) (.int .i64 len)).put (some 6) (.int .i64 ((len:Int)-1))).put (some 3) (.int .i64 ((len:Int)-1)))=A4 at hA4 h3 |-;show Code.wpIn Fence.wide n P _ _ A4 W;refine wpIn_block (wpIn_loop (fun a w=>∃k:Nat,k<=len/\BackAct l Bs a/\a.eval (.tmp 3)=.int .i64 ((k:Int)-1)/\J k w/\Good w)
    (fun a _=>match a.eval (.tmp 3)with | .int _ m=>(m+1).toNat | _=>0) ⟨len,qg _,hA4,h3,h0,g0⟩ ?_)
   rintro a w ⟨k,hk,hA,h3,hj,hg⟩;refine wpIn_seq (wpIn_seq (wpIn_region ?_));refine CD Cu rfl hc0d hc0g (nd hc0 sy) (HD hc0) ?_;rw[h3];have hA5:=hA.put (v:=.int .i64 ((k:Int)-1)) (d:=7) oz oz;refine CD Cu rfl hc1d hc1g (nd hc1 sy) (Zh7 (m:=(k:Int)-1) hc1 (by rw[hA.at oz];rfl)) ?_;have hA6:=hA5.put (v:=.bool (decide ((k:Int)-1>=0))) (d:=8) oz oz
   have h36:((a.put (some 7) (.int .i64 ((k:Int)-1))).put (some 8) (.bool (decide ((k:Int)-1>=0)))).eval (.tmp 3)=.int .i64 ((k:Int)-1):=(by rw[hA5.at oz,if_neg oz,hA.at oz,if_neg oz,h3]);have h86:((a.put (some 7) (.int .i64 ((k:Int)-1))).put (some 8) (.bool (decide ((k:Int)-1>=0)))).eval (.tmp 8)=.bool (decide ((k:Int)-1>=0)):=(by rw[hA5.at oz,if_pos rfl])
   generalize ((a.put (some 7) (.int .i64 ((k:Int)-1))).put (some 8) (.bool (decide ((k:Int)-1>=0))))=A6 at hA6 h36 h86 |-;show Code.wpIn Fence.wide n P _ _ A6 w;refine wpIn_cond h86 ?_;by_cases hk0:k=0
   .subst hk0
    simp only[show decide (((0:Nat):Int)-1>=0)=false by rfl,qx,if_false];refine wpIn_exit ?_;simp only[Exit.then,Exit.inBlock,if_true];refine⟨hA6.defers,_,results_none (Array.toList_eq_nil_iff.1 (by grind)) _ _ _,⟨_,rfl⟩,.inl hj⟩
   .obtain ⟨m,rfl⟩:∃ m,k=m+1:=⟨k-1,oz⟩
    have hm1:(((m+1:Nat):Int)-1)=(m:Int):=oz;rw[hm1]at h36 h86;have hml:m<len:=oz;have hul:=hul' m hml;have hb':base=some ⟨b,off,none⟩:=hbase.resolve_left oz;simp only[hm1,show decide ((m:Int)>=0)=true by simp,if_true];refine wpIn_skip ?_;show Code.wpIn Fence.wide n P _ _ A6 w;refine wpIn_seq (wpIn_block (wpIn_seq (wpIn_region ?_)))
    refine CD Cu rfl hd0d hd0g (nd hd0 sy) (HD hd0) ?_;rw[hA6.y];have hB1:=hA6.put (v:=.func (.yield l) #[] #[]) (d:=11) oz oz;refine CD Cu rfl hd1d hd1g (nd hd1 sy) (HD hd1) ?_;rw[hA6.at oz,if_neg oz,h36];have hB2:=hB1.put (v:=.int .i64 (m:Int)) (d:=12) oz oz;refine CD Cu rfl hd2d hd2g (nd hd2 sy) (ldS hd2 hB2 hg) ?_
    have hB3:=hB2.put (v:=.slice base len cap) (d:=13) oz oz;refine CD Cu rfl hd3d hd3g (nd hd3 sy) (HD hd3) ?_;rw[hB2.at oz,if_neg oz,hB1.at oz,if_neg oz,hA6.at oz,if_neg oz,h36];have hB4:=hB3.put (v:=.int .i64 (m:Int)) (d:=14) oz oz
    refine CD Cu rfl hd4d hd4g (nd hd4 sy) (Zdy (j:=m) hd4 ht hie (by rw[hB3.at oz,if_neg oz,hB2.at oz,if_pos rfl,hb']) (by rw[hB3.at oz,if_pos rfl]) hml) ?_;have hB5:=hB4.put (v:=.pointer (some ⟨b,off+m*ie.size,none⟩)) (d:=15) oz oz
    refine CD Cu rfl hd5d hd5g (nd hd5 sy) (SU (vs:=us m) hd5 (by rw[hB4.at oz,if_pos rfl]) hue hie hul (hae.imp id fun h=>by omega) (by
     grind)) ?_
    have hB6:=hB5.put (v:=BL (AO P e) (us m)) (d:=16) oz oz;refine Zo Cu rfl rfl (l:=l) rfl hd6d hd6g hd6 (by rw[hB5.at oz,if_neg oz,hB4.at oz,if_neg oz,hB3.at oz,if_neg oz,hB2.at oz,if_neg oz,hB1.at oz,if_neg oz,hA6.at oz,if_pos rfl]) (by
     have h12:((((((A6.put (some 11) (Value.func (.yield l) #[] #[])).put (some 12) (.int .i64 (m:Int))).put (some 13) (.slice base len cap)).put (some 14) (.int .i64 (m:Int))).put (some 15) (.pointer (some ⟨b,off+m*ie.size,none⟩))).put (some 16) (BL (AO P e) (us m))).eval (.tmp 12)=.int .i64 (m:Int):=by
      rw[hB5.at oz,if_neg oz,hB4.at oz,if_neg oz,hB3.at oz,if_neg oz,hB2.at oz,if_neg oz,hB1.at oz,if_pos rfl]
     have h16:((((((A6.put (some 11) (Value.func (.yield l) #[] #[])).put (some 12) (.int .i64 (m:Int))).put (some 13) (.slice base len cap)).put (some 14) (.int .i64 (m:Int))).put (some 15) (.pointer (some ⟨b,off+m*ie.size,none⟩))).put (some 16) (BL (AO P e) (us m))).eval (.tmp 16)=BL (AO P e) (us m):=by
      rw[hB5.at oz,if_pos rfl]
     have:=hY m hml w hj;simpa[h12,h16]using this) ?_
    rintro e' w' (⟨rfl,hj',hkp⟩|⟨rfl,hjx⟩)
    .refine ⟨_,rfl,?_⟩
     have hB7:=hB6.put (v:=.bool true) (d:=17) oz oz;refine CD Cu rfl hd7d hd7g (nd hd7 sy) (T0 (b:=true) hd7 (by rw[hB6.at oz,if_pos rfl])) ?_;have hB8:=hB7.put (v:=.bool (!true)) (d:=18) oz oz;show Code.wpIn Fence.wide n P _ _ _ w';refine wpIn_cond (t:=false) (by rw[hB7.at oz,if_pos rfl];rfl) ?_;simp only[qx,if_false];refine wpIn_skip ?_
     have h3':((((((((A6.put (some 11) (Value.func (.yield l) #[] #[])).put (some 12) (.int .i64 (m:Int))).put (some 13) (.slice base len cap)).put (some 14) (.int .i64 (m:Int))).put (some 15) (.pointer (some ⟨b,off+m*ie.size,none⟩))).put (some 16) (BL (AO P e) (us m))).put (some 17) (.bool true)).put (some 18) (.bool (!true))).eval (.tmp 3)=.int .i64 (m:Int):=by
      rw[hB7.at oz,if_neg oz,hB6.at oz,if_neg oz,hB5.at oz,if_neg oz,hB4.at oz,if_neg oz,hB3.at oz,if_neg oz,hB2.at oz,if_neg oz,hB1.at oz,if_neg oz,hA6.at oz,if_neg oz,h36]
     generalize ((((((((A6.put (some 11) (Value.func (.yield l) #[] #[])).put (some 12) (.int .i64 (m:Int))).put (some 13) (.slice base len cap)).put (some 14) (.int .i64 (m:Int))).put (some 15) (.pointer (some ⟨b,off+m*ie.size,none⟩))).put (some 16) (BL (AO P e) (us m))).put (some 17) (.bool true)).put (some 18) (.bool (!true)))=A9 at hB8 h3' |-;show Code.wpIn Fence.wide n P _ _ A9 w'
     refine wpIn_region ?_;refine CD Cu rfl he0d he0g (nd he0 sy) (HD he0) ?_;rw[h3'];have hC1:=hB8.put (v:=.int .i64 (m:Int)) (d:=9) oz oz;refine CD Cu rfl he1d he1g (nd he1 sy) (UH (m:=m) he1 (by rw[hB8.at oz];rfl) oz) ?_;have hC2:=hC1.put (v:=.int .i64 ((m:Int)-1)) (d:=10) oz oz;refine CD Cu rfl he2d he2g (nd he2 sy) (Ql he2) ?_
     rw[hC1.at oz,if_pos rfl];have hC3:=hC2.put (v:=.int .i64 ((m:Int)-1)) (d:=3) oz oz;have h3f:(((A9.put (some 9) (.int .i64 (m:Int))).put (some 10) (.int .i64 ((m:Int)-1))).put (some 3) (.int .i64 ((m:Int)-1))).eval (.tmp 3)=.int .i64 ((m:Int)-1):=(by rw[hC2.at oz,if_pos rfl])
     generalize (((A9.put (some 9) (.int .i64 (m:Int))).put (some 10) (.int .i64 ((m:Int)-1))).put (some 3) (.int .i64 ((m:Int)-1)))=AF at hC3 h3f |-;refine⟨⟨m,oz,hC3,h3f,hj',gk _ _ hg hkp⟩,?_⟩;grind
    .refine ⟨_,rfl,?_⟩
     have hB7:=hB6.put (v:=.bool false) (d:=17) oz oz;refine CD Cu rfl hd7d hd7g (nd hd7 sy) (T0 (b:=false) hd7 (by rw[hB6.at oz,if_pos rfl])) ?_;have hB8:=hB7.put (v:=.bool (!false)) (d:=18) oz oz;show Code.wpIn Fence.wide n P _ _ _ w';refine wpIn_cond (t:=true) (by rw[hB7.at oz,if_pos rfl];rfl) ?_;simp only[if_true];refine wpIn_ret ?_
     simp only[Exit.then,Exit.inBlock];exact⟨hB8.defers,_,results_none (Array.toList_eq_nil_iff.1 (by grind)) _ _ _,⟨_,rfl⟩,.inr hjx⟩
  grind
 grind
end
end Go.Vs
namespace Go.Vs
open Go Go.RowKit
section
variable {P:Program}{ops:Array Oper}{Q:Exit->Act->World->Prop}{a:Act}{w:World}{o:Oper}
theorem ZeD {N:Nat}{vo:VOper}(hm:FU P N ops o vo=true):∀c,o.op≠.defer c:=by
 intro c hc;unfold FU at hm;rw[hc]at hm;simp only[qe]at hm;have h5:=hm.2;cases hop:vo.op<;>rw[hop]at h5<;>simp[mOp,KJ]at h5
theorem Zgf {l n:Nat}{f:FuncId}{args:Array Value}{R:Ending->World->Prop}(h:Calls P f args w R):CallsIn (Fence.wide.inRound l) n P f args w R:=
 (callsIn_wide (n:=n)).2 h
theorem Zdt {l n:Nat}{row:String}{args:Array Value}{R:Value->World->Prop}(h:Rows P row args w R):RowsIn (Fence.wide.inRound l) n P row args w R:=
 fun c cs _=>let ⟨v,w',r,s⟩:=h c cs;⟨v,w',r,(stepsIn_wide (P:=P)).2 s⟩
theorem Zhg {l n:Nat}{K:Act->World->Prop}{r:Result Next}(h:o.upon P a K Q r):o.uponIn (Fence.wide.inRound l) n P a K Q r:=by
 cases r with
 |ok nx w'=>cases nx with
  |value v=>exact h
  |skip=>exact h
  |defer d=>exact h
  |enter f args=>exact⟨fun h=>by simp[Fence.wide]at h,Zgf h⟩
  |row row args=>exact⟨fun h=>by simp[Fence.wide]at h,Zdt h⟩
  |_=>exact h.elim
 |halt x w'=>cases x with
  |panic v=>exact h
  |_=>exact h.elim
theorem I0 {l n:Nat}(hQ:¬LetsOut Q)(hnd:∀(i:Nat)(o:Oper),ops[i]?=some o->∀c,o.op≠.defer c):∀(is:List Nat)(a:Act)(w:World),wpOps P ops Q is a w->wpOpsIn (Fence.wide.inRound l) n P ops Q is a w
 |[],_,_,h=>h
 |i::is,a,w,h=>by
  simp only[wpOps]at h;simp only[wpOpsIn];cases ho:ops[i]? with
  |none=>rw[ho]at h;exact I0 hQ hnd is a w h
  |some o=>
   rw[ho]at h;simp only at h |-;split
   .rename_i hw
    rw[if_pos hw]at h;rcases h with h|h
    .refine ⟨fun f _=>trivial,?_⟩
     rw[Oper.semAt_eq _ _ _ (hnd i o ho)];exact Zhg (Oper.wp_mono (fun a w=>I0 hQ hnd is a w) h)
    grind
   .rename_i hw
    rw[if_neg hw]at h;exact⟨fun f _=>trivial,I0 hQ hnd is _ w h⟩
theorem ZfO {l n id:Nat}(hQ:¬LetsOut Q)(hnd:∀(i:Nat)(o:Oper),ops[i]?=some o->∀c,o.op≠.defer c)(h:wpList P ops Q ops.toList a w):(Code.region id ops false).wpIn (Fence.wide.inRound l) n P Q a w:=
 wpIn_region (I0 hQ hnd _ a w (by rw[List.range_eq_range',<-qar,wpOps_eq_wpList ops.toList 0 sy];exact h))
theorem ZC {l n id:Nat}(hP:P.follows .mixedOrders=true)(hQ:¬LetsOut Q)(hnd:∀(i:Nat)(o:Oper),ops[i]?=some o->∀c,o.op≠.defer c)(h:wpAny P .any ops Q ops.size (Array.replicate ops.size false) a { w with drawn:=w.drawn+1 }):
 (Code.region id ops true).wpIn (Fence.wide.inRound l) n P Q a w:=
 wpIn_region_draw fun t=>I0 hQ hnd _ a _ (by
  simp only[Region.schedule,hP,Bool.true_or,if_true];exact wpAny_sound ops.size t _ a _ h)
end
section
variable {P:Program}{GL:Nat->List Cell}{N:Nat}{w0:World}{ω0:Nat->Nat}{S:Fr}{E:LV1}{L:LO1}{a:Act}{w:World}{ω:Nat->Nat}{β:LN1}
theorem KW {w:World}{b i:Nat}{v:Value}(h:at? w b i=some v):∃cs t fr,w.heap[b]?=some (.cells cs t fr):=by
 grind[at?,World.cell?]
theorem Rel.cellsOf (h:Rel GL N w0 ω0 S E L a w ω β){k b:Nat}(hk:L k≠none)(hb:β k=some b):∃cs t fr,w.heap[b]?=some (.cells cs t fr):=by
 cases hL:L k with
 |none=>grind
 |some o=>
  have ho:=h.obj k o hL;cases o with
  |box cells=>
   obtain⟨b',cs,t,h1,h2,_⟩:=ho;grind
  |arr s rows p=>
   obtain⟨_,_,_,h4⟩:=ho;grind
theorem Rel.grown (h:Rel GL N w0 ω0 S E L a w ω β){w':World}{row:Option Nat}(hg:w.grownBy w' row)(hrow:∀b,row=some b->w0.heap.size<=b/\∃o,w.heap[b]?=some o/\o.isCells=false)(hm:Marks S.lo w' a.defers):
 Rel GL N w0 ω0 S E L a w' ω β:=by
 have hcell:∀(b:Nat) (cs:Array Value) (t:TypeId) (fr:Nat×Nat),w.heap[b]?=some (.cells cs t fr)->w'.heap[b]?=some (.cells cs t fr):=by
  intro b cs t fr hb;refine(hg.block b (qV.1 hb).1 fun e=>?_).trans hb;obtain⟨_,o,ho,hc⟩:=hrow b e.symm;rw[hb]at ho;cases ho;cases hc
 have g:Grows w ω w' ω:=⟨fun b i hi v hv=>by
  obtain⟨cs,t,fr,hb⟩:=KW hv;refine⟨?_,hi⟩;rw[Ca (hcell b cs t fr hb),<-Ca hb];omega⟩
 have tr:∀k,Tr w β w' β L L k:=by
  grind[Tr]
 refine⟨h.size,hm,fun t v ht=>⟨(h.env t v ht).1,(h.env t v ht).2.step g tr⟩,fun k o hk=>(h.obj k o hk).step g tr rfl fun b hb=>?_,h.inj,?_,h.mine,fun b=>(h.gl b).grow g,S.closed _ _ _ _ _ _ h.inv fun k _=>tr k⟩
 .obtain ⟨cs,t,fr,hc⟩:=h.cellsOf (by grind) hb
  grind
 .refine h.keeps.step g hg.size (fun b hb hs => ?_) hg.os hg.tape hg.output
  refine⟨hg.block b (qak hb h.keeps.size) fun e=>?_,rfl⟩;grind
def Fv (w:World)(β:LN1)(L:LO1)(kept:Nat->Prop)(lo:Nat):Fr where
 lo:=lo
 S:=fun b=>∃k,L k≠none/\β k=some b
 kept:=fun k=>kept k\/L k≠none
 J:=fun w' β' L'=>∀k,L k≠none\/kept k->Tr w β w' β' L L' k
 closed:=fun _ _ _ _ _ _ h h' k hk=>(h k hk).trans (h' k (hk.elim .inr .inl))
theorem Q0 {kept:Nat->Prop}{lo:Nat}{w2:World}{β2:LN1}{L2:LO1}(h:(Fv w β L kept lo).J w2 β2 L2):∀k,Tr w β w2 β2 L L2 k:=by
 intro k;by_cases hk:L k=none;grind[Tr]
 .exact h k (.inl hk)
theorem Rel.compose (r:Rel GL N w0 ω0 S E L a w ω β){E2:LV1}{L2:LO1}{a2:Act}{w2:World}{ω2:Nat->Nat}{β2:LN1}(h:Rel GL N w ω (Fv w β L S.kept S.lo) E2 L2 a2 w2 ω2 β2)(hm:Marks S.lo w2 a.defers):
 Rel GL N w0 ω0 S E L2 a w2 ω2 β2:=by
 have tr:=Q0 h.inv;refine⟨r.size,hm,fun t v ht=>⟨(r.env t v ht).1,(r.env t v ht).2.step h.keeps.grows tr⟩,h.obj,h.inj,?_,?_,h.gl,S.closed _ _ _ _ _ _ r.inv fun k hk=>tr k⟩
 .refine r.keeps.step h.keeps.grows h.keeps.size (fun b hb hs=>h.keeps.same b (qak hb r.keeps.size) ?_) h.keeps.os h.keeps.tape h.keeps.output
  rintro⟨k,hk,hbk⟩;rcases r.mine k b hk hbk with h1|h1<;>grind
 .intro k b hk hb
  rcases h.mine k b hk hb with ⟨j,hj,hbj⟩|h1
  .exact r.mine j b hj hbj
  .exact .inr (qr r.keeps.size h1)
theorem Rel.rebase (r:Rel GL N w0 ω0 S E L a w ω β):Rel GL N w ω (Fv w β L S.kept S.lo) E L a w ω β:=
 ⟨r.size,r.defers,r.env,r.obj,r.inj,Keeps.refl _ _ _,fun k b hk hb=>.inl ⟨k,hk,hb⟩,r.gl,fun k _=>Tr.refl k⟩
end
end Go.Vs
