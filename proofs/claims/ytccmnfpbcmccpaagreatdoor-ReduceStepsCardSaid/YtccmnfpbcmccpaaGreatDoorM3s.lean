/- The value semantics, 21: what an operation depends on. -/
import Derived.Test.YtccmnfpbcmccpaaGreatDoorM2s
import Derived.RangeFuncNested
import Derived.RangeFuncLeaves
import Derived.IntWalk
set_option linter.unusedSimpArgs false
set_option linter.unusedVariables false
set_option linter.deprecated false
namespace Go.Vs
open Go
def Opd.tmps:Opd->List Nat
 |.t n=>[n]
 |_=>[]
def Zg8:Option Opd->List Nat
 |some x=>x.tmps
 |none=>[]
def VOp.tmps:VOp->List Nat
 |.mv x | .un _ x | .box x | .load _ _ x | .fld _ x | .part _ _ _ x | .len _ x | .ldD _ _ x | .mvD x | .appN _ _ x | .cvB x | .cvS x | .clr _ _ x | .mkS _ _ _ x | .ext _ x | .cvI _ x | .ifc _ x | .nn x=>x.tmps
 |.pick c x y=>c.tmps++x.tmps++y.tmps
 |.bin _ _ x y | .store _ x y _ | .idxA _ x y | .idxAA _ _ x y | .idxS x y | .mx x y | .mn x y | .app _ _ _ x y | .cp _ x y | .appF _ _ x y=>x.tmps++y.tmps
 |.new _ _ | .newA _ _ | .bad | .mkE=>[]
 |.build _ ps | .bldD _ ps=>ps.flatMap fun p=>p.2.2.tmps
 |.mkSl _ xs | .fn _ xs=>xs.flatMap Opd.tmps
 |.slS x lo hi | .slA _ _ x lo hi=>x.tmps++Zg8 lo++Zg8 hi
 |.sl _ x lo hi m3=>x.tmps++Zg8 lo++Zg8 hi++Zg8 m3
 |.call f args _=>f.tmps++args.flatMap fun x=>x.2.tmps
def VOper.tmps (o:VOper):List Nat:=(match o.guard with | some (t,_)=>[t] | none=>[])++o.op.tmps
section
variable {C:Ctx}{E E':Nat->Option V}{L L':Nat->Option Obj}
theorem Opd.val_congr {x:Opd}(h:∀t∈x.tmps,E t=E' t):x.val C E=x.val C E':=by
 cases x<;>grind[Opd.val,Opd.tmps]
theorem ZeG {x:Option Opd}(h:∀t∈Zg8 x,E t=E' t):x.map (·.val C E)=x.map (·.val C E'):=by
 cases x with
 |none=>rfl
 |some x=>simp only[qp];rw[Opd.val_congr (fun t ht=>h t ht)]
theorem Zbr {α γ:Type}{f g:α->Option γ}:∀{l:List α},(∀x∈l,f x=g x)->Zag f l=Zag g l
 |[],_=>rfl
 |x::l,h=>by simp only[Zag];rw[h x (by simp),Zbr (fun y hy=>h y (by grind))]
theorem ZAW {op:VOp}{oid:Nat}(h:∀t∈op.tmps,E t=E' t):Zah C E L oid op=Zah C E' L oid op:=by
 cases op<;>simp only[VOp.tmps,ql]at h<;>simp only[Zah];grind[Opd.val_congr];grind[Opd.val_congr];grind[Opd.val_congr];grind[Opd.val_congr];grind[Opd.val_congr]
 case build zero ps=>
  have e:Zag (ZdA C E) ps=Zag (ZdA C E') ps:=Zbr fun x hx=>by
   grind[ZdA,Opd.val_congr]
  show(match Zag (ZdA C E) ps with | none=>none | some ps=>(Zer zero ps).map fun cs=>(V.ag cs,([]:Upd)))=_;rw[e];rfl
 case bldD zero ps=>
  have e:Zag (ZdA C E) ps=Zag (ZdA C E') ps:=Zbr fun x hx=>by
   grind[ZdA,Opd.val_congr]
  show(match Zag (ZdA C E) ps with | none=>none | some ps=>(Zer zero ps).bind fun cs=>ZeO L (V.ag cs))=_;rw[e];rfl
 case mkSl s xs=>
  have e:Zag (ZkS C E s) xs=Zag (ZkS C E' s) xs:=Zbr fun x hx=>by
   grind[ZkS,Opd.val_congr]
  show(match L oid with
   |some _=>none
   |none=>match Zag (ZkS C E s) xs with
    |none=>none
    |some rows=>some (V.sc (W.arr oid rows.length),[(oid,some (Obj.arr s rows 0))]))=_
  rw[e];rfl
 grind[Opd.val_congr];grind[Opd.val_congr];grind[Opd.val_congr];grind[Opd.val_congr];grind[Opd.val_congr];grind[Opd.val_congr];grind[Opd.val_congr]
 case slS x lo hi=>rw[Opd.val_congr fun t ht=>h t (.inl (.inl ht)),ZeG fun t ht=>h t (.inl (.inr ht)),ZeG fun t ht=>h t (.inr ht)]
 grind[Opd.val_congr,ZeG];grind[Opd.val_congr];grind[Opd.val_congr];grind[Opd.val_congr];grind[Opd.val_congr];grind[Opd.val_congr];grind[qJ,Opd.val_congr];grind[Opd.val_congr,vals,qJ];grind[Opd.val_congr];grind[Opd.val_congr];grind[Opd.val_congr];grind[Opd.val_congr]
 case ldD ag n x=>rw[Opd.val_congr h]
 case mvD x=>rw[Opd.val_congr h]
 case cvB x=>rw[Opd.val_congr h]
 case cvS x=>rw[Opd.val_congr h]
 case slA s n x lo hi=>rw[Opd.val_congr fun t ht=>h t (.inl (.inl ht)),ZeG fun t ht=>h t (.inl (.inr ht)),ZeG fun t ht=>h t (.inr ht)]
 case clr s zero x=>rw[Opd.val_congr h]
 case appN s bytes x=>rw[Opd.val_congr h]
 case appF s bytes x y=>grind[Opd.val_congr]
 grind[Opd.val_congr]
theorem ZyK {o:VOper}(h:∀t∈o.tmps,E t=E' t):runO C o E L=runO C o E' L:=by
 have h1:Zah C E L o.oid o.op=Zah C E' L o.oid o.op:=ZAW fun t ht=>h t (by simp[VOper.tmps,ht]);grind[runO,VOper.tmps]
theorem ZyT {o:VOper}{u:Upd}(h:∀t∈o.tmps,E t=E' t):recO C E L o u=recO C E' L o u:=by
 have h':∀t∈o.op.tmps,E t=E' t:=fun t ht=>h t (by simp[VOper.tmps,ht]);unfold recO;split;rfl
 .cases hop:o.op<;>rw [hop] at h'<;>simp only [VOp.tmps,ql] at h'<;>try rfl
  grind;grind[Opd.val_congr]
  case fld off x=>grind[Opd.val_congr]
  case nn x=>grind[Opd.val_congr]
  case ldD ag n x=>grind[Opd.val_congr]
  grind[Opd.val_congr]
  case len str x=>grind[Opd.val_congr]
  case clr s zero x=>grind[Opd.val_congr]
  case cvS x=>grind[Opd.val_congr]
  case slA s n x lo hi=>grind[Opd.val_congr]
  grind[Opd.val_congr];grind[Opd.val_congr];grind[Opd.val_congr];grind[Opd.val_congr]
  case cp s x y=>grind[Opd.val_congr]
  case appN s bytes x=>grind[Opd.val_congr]
  case appF s bytes x y=>grind[Opd.val_congr]
  case call f args own=>
   cases own with
   |cons _ _=>rfl
   |nil=>
    have e:vals C E args=vals C E' args:=qJ fun x hx=>by
     grind[Opd.val_congr]
    grind[Opd.val_congr]
end
section
variable {C:Ctx}{E:Nat->Option V}{L L':Nat->Option Obj}
theorem Zoi {oid:Nat}:∀(l:List W)(j:Nat),ownW oid [] j l=(l,[])
 |[],_=>rfl
 |x::r,j=>by
  simp only[ownW,Zoi r (j+1)];grind[get?]
theorem Zjd {oid:Nat}:∀(l:List (Bool×V))(j:Nat),Zaq oid [] j l=(l,[])
 |[],_=>rfl
 |(b,x)::r,j=>by
  simp only[Zaq,Zjd r (j+1)];grind[get?]
theorem Zff {x:V}(h:∀k∈x.direct,L k=L' k):Zbm L x=Zbm L' x:=by
 cases x with
 |sc x=>cases x with
  |arr k n=>grind[Zbm,V.direct]
  |vw k N lo n=>simp only[Zbm,h k (by simp[V.direct])]
  |c y=>cases y<;>rfl
  |_=>rfl
 |_=>rfl
theorem lenV_L {x:V}(h:∀k∈x.direct,L k=L' k):lenV L x=lenV L' x:=by
 cases x with
 |sc x=>cases x with
  |arr k n=>grind[lenV,V.direct]
  |vw k N lo n=>simp only[lenV,h k (by simp[V.direct])]
  |c y=>cases y<;>rfl
  |_=>rfl
 |_=>rfl
theorem Zyz {k N i:Nat}(h:L k=L' k):elOk L k N i=elOk L' k N i:=by simp only[elOk,h]
theorem Zyn {x:V}{n:Nat}(h:∀k∈x.direct,L k=L' k):onBy L n x=onBy L' n x:=by
 cases x with
 |sc x=>cases x with
  |el k N i o=>grind[onBy,Zyz,V.direct]
  |c y=>cases y<;>rfl
  |_=>rfl
 |_=>rfl
theorem Zxj {s:Nat}{x:V}{lo hi m3:Option V}(h:∀k∈x.direct,L k=L' k):Zbw L s x lo hi m3=Zbw L' s x lo hi m3:=by
 cases x with
 |sc x=>cases x with
  |arr k n=>simp only[Zbw,h k (by simp[V.direct])]
  |vw k N lo n=>grind[Zbw,V.direct]
  |c y=>cases y<;>rfl
  |_=>rfl
 |_=>rfl
theorem ZhW {oid s bytes:Nat}{x y:V}(h0:L oid=L' oid)(hx:∀k∈x.direct,L k=L' k)(hy:∀k∈y.direct,L k=L' k):Zc2 L oid s bytes true x y=Zc2 L' oid s bytes true x y:=by
 unfold Zc2;rw[Zff hy];cases Zbm L' y with
 |none=>rfl
 |some ys=>
  dsimp only;congr 1;cases x with
  |sc x=>cases x with
   |arr k n=>simp only[hx k (by simp[V.direct])]
   |nil=>simp only[h0]
   |full rows=>simp only[h0]
   |_=>rfl
  |_=>rfl
theorem ZvF {oid s bytes:Nat}{x y:V}(hx:∀k∈x.direct,L k=L' k)(hy:∀k∈y.direct,L k=L' k):Zc2 L oid s bytes false x y=Zc2 L' oid s bytes false x y:=by
 unfold Zc2;rw[Zff hy];cases Zbm L' y with
 |none=>rfl
 |some ys=>
  dsimp only;congr 1;cases x with
  |sc x=>cases x with
   |arr k n=>simp only[hx k (by simp[V.direct])]
   |nil=>simp only;cases L oid<;>cases L' oid<;>rfl
   |full rows=>simp only;cases L oid<;>cases L' oid<;>rfl
   |_=>rfl
  |_=>rfl
theorem ZzZ {s:Nat}{x y:V}(hx:∀k∈x.direct,L k=L' k)(hy:∀k∈y.direct,L k=L' k):ZlS L s x y=ZlS L' s x y:=by
 unfold ZlS;rw[Zff hy];cases Zbm L' y with
 |none=>rfl
 |some ys=>
  dsimp only;congr 1;cases x with
  |sc x=>cases x with
   |arr k n=>simp only[hx k (by simp[V.direct])]
   |_=>rfl
  |_=>rfl
theorem Zkg:∀{ids:List Nat}{os:List Obj},ids.length=os.length->(Zds ids os).map (·.1)=ids
 |[],os,_=>by rfl
 |k::ks,[],h=>by grind
 |k::ks,o::os,h=>by simp only[Zds,qq,Zkg (ids:=ks) (os:=os) (by grind)]
theorem ZsX (L:Nat->Option Obj):ZaL L []=[]:=rfl
theorem ZcU {L:Nat->Option Obj}{ks:List Nat}:∀k∈ks,k∈ZbI L ks:=fun k hk=>by
 grind[ZbI,ZhG]
theorem Zjm {ks:List Nat}(h:∀k∈ks,L k=L' k):ZbI L ks=ZbI L' ks:=by
 unfold ZbI;congr 2;rw[List.flatMap_def,List.flatMap_def];congr 1;exact qJ fun k hk=>by rw[h k hk]
theorem Zs9 {L:Nat->Option Obj}{ks:List Nat}:∀k∈ks,k∈ZaL L ks:=fun k hk=>by
 cases ks with
 |nil=>grind
 |cons x r=>exact ZcU _ (ZcU _ (ZcU _ (ZcU _ hk)))
theorem ZnZ {ks:List Nat}(h:∀k∈ZaL L ks,L k=L' k):ZaL L ks=ZaL L' ks:=by
 cases ks<;>grind[ZaL,ZcU,Zjm]
theorem ZpN:∀{l m:List Nat},l.Nodup->(∀k∈l,k∈m)->l.length<=m.length
 |[],_,_,_=>by simp
 |x::r,m,hn,hs=>by
  rw[qbd]at hn;have hx:x∈m:=hs x (by simp);have h:=ZpN (l:=r) (m:=m.erase x) hn.2 fun k hk=>by
   grind
  grind
theorem Zs7 {l m:List Nat}(hn:l.Nodup)(hs:∀k∈l,k∈m)(he:m.length<=l.length):∀k∈m,k∈l:=by
 intro k hk;by_cases h:k∈l;omega
 .have:=ZpN (l:=k::l) (m:=m) (qbd.2 ⟨h,hn⟩) (by
   grind)
  grind
theorem ZdO {α γ:Type}{f g:α->List γ}{l:List α}(h:∀x∈l,f x=g x):l.flatMap f=l.flatMap g:=by
 grind[qJ]
theorem Zmg:∀(d:Nat)(x:W),(∀k∈W.ids L d x,L k=L' k)->W.toC L d x=W.toC L' d x/\W.ids L d x=W.ids L' d x:=by
 intro d
 induction d with
 |zero=>intro x _;cases x<;>simp[W.toC,W.ids]
 |succ d ih=>
  intro x h;have rowf:∀r:List W,(∀k∈r.flatMap (W.ids L d),L k=L' k)->Zag (W.toC L d) r=Zag (W.toC L' d) r/\r.flatMap (W.ids L d)=r.flatMap (W.ids L' d):=by
   grind[Zbr,ZdO]
  have rowsf:∀rows:List (List W),(∀k∈rows.flatMap (·.flatMap (W.ids L d)),L k=L' k)->(∀r∈rows,Zag (W.toC L d) r=Zag (W.toC L' d) r)/\rows.flatMap (·.flatMap (W.ids L d))=rows.flatMap (·.flatMap (W.ids L' d)):=by
   grind[ZdO]
  cases x<;>simp only[W.toC,W.ids]<;>first | exact⟨trivial,trivial⟩ | exact⟨rfl,rfl⟩ | skip
  grind[W.ids,Zbr];grind[W.ids,Zbr];grind[W.ids,Zbr];grind[W.ids]
theorem ZmL {v:V}(h:∀k∈v.cells.flatMap (W.ids L deep),L k=L' k):v.toD L=v.toD L'/\v.cells.flatMap (W.ids L deep)=v.cells.flatMap (W.ids L' deep):=by
 have hx:∀x∈v.cells,W.toC L deep x=W.toC L' deep x/\W.ids L deep x=W.ids L' deep x:=fun x hx=>Zmg deep x fun k hk=>h k (qbi.2 ⟨x,hx,hk⟩);refine⟨?_,ZdO fun x h'=>(hx x h').2⟩;cases v<;>grind[V.toD,V.cells,Zbr]
theorem ZeX {all:List Nat}(h:∀k∈all,L k=L' k):∀{ks:List Nat}{p:Upd},(∀k∈ks,k∈all)->ZbD L all ks=some p->ZbD L' all ks=some p
 |[],p,_,hp=>hp
 |k::ks,p,hs,hp=>by
  simp only[ZbD]at hp |-;rw[<-h k (hs k (by simp))];cases hL:L k with
  |none=>grind
  |some o=>cases o with
   |box _=>grind
   |arr s rows q=>
    simp only[hL]at hp |-;cases hc:Zag (Zag (W.toC L deep)) rows with
    |none=>grind
    |some cs=>
     simp only[hc]at hp;cases hb:(rows.all fun q=>q.all fun x=>(W.ids L deep x).all fun j=>all.contains j)with
     |false=>grind
     |true=>
      rw[hb]at hp;simp only[cond_true]at hp;have hin:∀r∈rows,∀x∈r,∀j∈W.ids L deep x,L j=L' j:=by
       intro r hr x hx j hj;have h3:=qy.1 hb r hr;grind
      have hl:∀r∈rows,∀x∈r,W.toC L deep x=W.toC L' deep x/\W.ids L deep x=W.ids L' deep x:=fun r hr x hx=>Zmg deep x fun j hj=>hin r hr x hx j hj;have e1:Zag (Zag (W.toC L' deep)) rows=some cs:=by
       grind[Zbr]
      have e2:(rows.all fun q=>q.all fun x=>(W.ids L' deep x).all fun j=>all.contains j)=true:=by
       grind
      rw[e1];simp only[e2,cond_true];obtain⟨p',hp',rfl⟩:=qo.1 hp;rw[ZeX h (fun j hj=>hs j (by grind)) hp'];rfl
theorem Zza {ag:Bool}{n:Nat}{x:V}(h:∀k∈x.direct,L k=L' k):ZfM L ag n x=ZfM L' ag n x:=by
 cases x with
 |sc y=>cases y with
  |ptr k f=>simp only[ZfM,h k (by simp[V.direct])]
  |el k N i f=>simp only[ZfM,h k (by simp[V.direct])]
  |c y=>cases y<;>rfl
  |_=>rfl
 |_=>rfl
theorem Zh9 {all:List Nat}:∀{ks:List Nat}{p:Upd},ZbD L all ks=some p->p.map (·.1)=ks
 |[],p,h=>by grind[ZbD]
 |k::ks,p,h=>by
  simp only[ZbD]at h;cases hL:L k with
  |none=>grind
  |some o=>cases o with
   |box _=>grind
   |arr s rows q=>
    simp only[hL]at h;cases hc:Zag (Zag (W.toC L deep)) rows with
    |none=>grind
    |some cs=>
     simp only[hc]at h;cases hb:(rows.all fun q=>q.all fun x=>(W.ids L deep x).all fun j=>all.contains j)with
     |false=>grind
     |true=>
      rw[hb]at h;simp only[cond_true]at h;obtain⟨p',hp',rfl⟩:=qo.1 h;simp only[qq,Zh9 hp']
theorem ZfF {x d:V}{p:Upd}(h:ZeO L x=some (d,p))(hL:∀k∈p.map (·.1),L k=L' k):ZeO L' x=some (d,p):=by
 grind[ZeO,qo,Zh9,ZmL,ZhG,ZeX]
theorem Zdc:∀{l:List (Bool×V)},(∀k∈Zcf L l,L k=L' k)->Zcf L l=Zcf L' l/\ZaY L l=ZaY L' l
 |[],_=>⟨rfl,rfl⟩
 |(true,v)::r,h=>by
  obtain⟨h1,h2⟩:=Zdc (l:=r) h;exact⟨h1,by simp only[ZaY,h2]⟩
 |(false,v)::r,h=>by
  simp only[Zcf,ql]at h;obtain⟨h1,h2⟩:=Zdc (l:=r) fun k hk=>h k (.inr hk);obtain⟨h3,h4⟩:=ZmL (v:=v) fun k hk=>h k (.inl hk);exact⟨by grind[Zcf],by simp only[ZaY,h2,h3,h4]⟩
theorem Zh2:∀{l:List (Bool×V)}{vs:List V}{ds rs:List Nat},ZaY L l=some (vs,ds,rs)->ds=Zcf L l
 |[],_,_,_,h=>by
  simp only[ZaY,qb,qg]at h;exact h.2.1.symm
 |(true,v)::r,vs,ds,rs,h=>by
  simp only[ZaY]at h;split at h;grind;grind
  .rename_i hq
   simp only[qb,qg]at h;rw[<-h.2.1];exact Zh2 (l:=r) hq
 |(false,v)::r,vs,ds,rs,h=>by
  simp only[ZaY]at h;split at h
  .rename_i hq
   simp only[qb,qg]at h;rw[<-h.2.1,Zh2 (l:=r) hq];rfl
  grind
theorem Zn7 {call:Zab}{oid:Nat}{f:V}{args:List (Bool×V)}{g:FuncId}{caps:List (Bool×V)}(hc:Zb3 f=some (g,caps)){v:V}{u:Upd}(h:Zd1 call L oid f args=some (v,u))
 (hL:∀k∈Zcf L (args++caps)++u.map (·.1),L k=L' k):Zd1 call L' oid f args=some (v,u):=by
 unfold Zd1 at h |-;rw[hc]at h |-;simp only at h |-;simp only[ql]at hL;obtain⟨hd1,hd2⟩:=Zdc (L:=L) (L':=L') (l:=args++caps) fun k hk=>hL k (.inl hk);rw[<-hd2];cases hq:ZaY L (args++caps)with
 |none=>grind
 |some q=>
  obtain⟨vs,ds,rs⟩:=q;rw[hq]at h;have hds:=Zh2 hq;have hdsL:∀k∈ds,L k=L' k:=fun k hk=>hL k (.inl (by grind));simp only at h |-;cases hos:Zag L (ZaL L rs)with
  |none=>grind
  |some os=>
   rw[hos]at h;simp only at h;cases hg:((ZaL L rs).all (fun k=>!ds.contains k)&&(ZaL L (ZaL L rs)).length==(ZaL L rs).length)with
   |false=>grind
   |true=>
    rw[hg]at h;simp only[cond_true]at h;cases hcall:call g (vs.map (V.ren (Zay (ZaL L rs)))) (os.map (Obj.ren (Zay (ZaL L rs))))with
    |none=>rw[hcall]at h;cases h
    |some q=>
     obtain⟨rv,os'⟩:=q;rw[hcall]at h;simp only at h;cases hb:(Nat.ble (ZaL L rs).length os'.length&&(os.zip os').all (fun x=>Zdx x.1 x.2)&&(Za8 oid 0 (os'.length-(ZaL L rs).length)).all (fun k=>(L k).isNone))with
     |false=>grind
     |true=>
      rw[hb]at h;simp only[cond_true]at h;have hb':=hb;simp only[qc]at hb';obtain⟨⟨hb1,hb2⟩,hb3⟩:=hb';have hble:=qm hb1;have hkeys:(Zds (ZaL L rs++Za8 oid 0 (os'.length-(ZaL L rs).length)) (os'.map (Obj.ren fun i=>(ZaL L rs++Za8 oid 0 (os'.length-(ZaL L rs).length))[i]?))).map (·.1)=ZaL L rs++Za8 oid 0 (os'.length-(ZaL L rs).length):=by
       grind[Zkg,ZfL]
      have fin:(∀k∈ZaL L rs++Za8 oid 0 (os'.length-(ZaL L rs).length),L k=L' k)->ZaL L rs=ZaL L' rs/\Zag L' (ZaL L rs)=some os/\(ZaL L (ZaL L rs)).length=(ZaL L' (ZaL L rs)).length/\(Za8 oid 0 (os'.length-(ZaL L rs).length)).all (fun k=>(L' k).isNone)=true:=by
       intro hall;have hids:∀k∈ZaL L rs,L k=L' k:=fun k hk=>hall k (List.mem_append_left _ hk);grind[Zs7,ZfC,Zs9,ZnZ,Zbr]
      cases ds with
      |nil=>
       grind
      |cons d ds=>
       simp only at h;cases hf:(Zfx rv&&(ZaL L rs).isEmpty&&(Za8 oid 0 (os'.length-(ZaL L rs).length)).isEmpty)with
       |true=>
        grind
       |false=>
        rw[hf]at h;simp only[cond_false]at h;cases hp:ZbD L (d::ds) (d::ds)with
        |none=>grind
        |some p=>
         rw[hp]at h;simp only[qb,qg]at h;obtain⟨f1,f2,f3,f4⟩:=fin fun k hk=>hL k (.inr (by grind));rw[<-f1,f2];simp only;rw[<-f3,hg];simp only[cond_true];rw[hcall];simp only;rw[hb1,hb2,f4];simp only[Bool.and_self,cond_true,hf,cond_false];rw[ZeX hdsL (fun _ h=>h) hp];grind
theorem ZiS {n oid:Nat}{own:List (Nat×Nat)}{v a r:V}{u:Upd}(h:(let y:=ownW oid own 0 v.cells
 bif v.cells.length==n&&v.cells.all ZaI&&y.2.all (fun u=>(L u.1).isNone) then match a with
 |.sc (.ptr k off)=>match L k with
  |some (.box cells)=>(splice cells off y.1).map fun cs=>(V.sc .un,y.2++[(k,some (.box cs))])
  |_=>none
 |.sc (.el k N i off)=>match L k with
  |some (.arr s rows p)=>bif rows.length==N&&Nat.ble p i then match rows[i]? with
   |some row=>(splice row off y.1).map fun cs=>(.sc .un,y.2++[(k,some (.arr s (setRow rows i cs) p))])
   |none=>none
   else none
  |_=>none
 |_=>none
 else none)=some (r,u)) (hL:∀k,k∈a.direct\/k∈u.map (fun x:Nat×Option Obj=>x.1)->L k=L' k):(let y:=ownW oid own 0 v.cells
 bif v.cells.length==n&&v.cells.all ZaI&&y.2.all (fun u=>(L' u.1).isNone) then match a with
 |.sc (.ptr k off)=>match L' k with
  |some (.box cells)=>(splice cells off y.1).map fun cs=>(V.sc .un,y.2++[(k,some (.box cs))])
  |_=>none
 |.sc (.el k N i off)=>match L' k with
  |some (.arr s rows p)=>bif rows.length==N&&Nat.ble p i then match rows[i]? with
   |some row=>(splice row off y.1).map fun cs=>(.sc .un,y.2++[(k,some (.arr s (setRow rows i cs) p))])
   |none=>none
   else none
  |_=>none
 |_=>none
 else none)=some (r,u):=by
 simp only at h |-;generalize ownW oid own 0 v.cells=y at h |-;cases hb:(v.cells.length==n&&v.cells.all ZaI&&y.2.all (fun u=>(L u.1).isNone))with
 |false=>grind
 |true=>
  rw[hb]at h;simp only[cond_true]at h;have hb':=hb;simp only[qc]at hb';have hall:(∀x∈y.2,x.1∈u.map (fun x:Nat×Option Obj=>x.1))->y.2.all (fun u=>(L' u.1).isNone)=true:=by
   grind
  have hcond:(∀x∈y.2,x.1∈u.map (fun x:Nat×Option Obj=>x.1))->(v.cells.length==n&&v.cells.all ZaI&&y.2.all (fun u=>(L' u.1).isNone))=true:=fun hk=>by
   grind
  cases a with
  |sc a=>cases a with
   |ptr k off=>
    grind[qo]
   |el k M i off=>
    simp only at h |-;rw[<-hL k (.inl (by simp[V.direct]))];cases hk:L k with
    |none=>grind
    |some o=>cases o with
     |box _=>grind
     |arr s rows p=>
      simp only[hk]at h |-;grind[qo]
   |_=>simp at h
  |_=>simp at h
theorem ZzG {o:VOper}(hown:o.own=[]){v:V}{u:Upd}(h:Zah C E L o.oid o.op=some (v,u))(ha:(recO C E L o u).1=false)(hL:∀k∈(recO C E L o u).2,L k=L' k):Zah C E L' o.oid o.op=some (v,u):=by
 unfold recO at ha hL;rw[hown]at ha hL;simp only at ha hL;cases hop:o.op<;>rw[hop]at h ha hL<;>simp only[ZfE,cond_true,cond_false,reduceCtorEq]at ha hL
 case load ag n x=>
  grind[Zah,V.direct]
 case fld n x=>grind[Zah,Zyn]
 case nn x=>
  grind[Zah,Zyz,V.direct]
 case store n a x own=>
  simp only[ql]at hL;simp only[Zah]at h |-;cases hx:x.val C E with
  |tu l=>rw[hx]at h;simp at h
  |sc y=>rw[hx]at h;exact ZiS h hL
  |ag y=>rw[hx]at h;exact ZiS h hL
 case cp s x y=>
  grind[Zah,ZzZ]
 case appN s bytes y=>
  grind[Zah,Zff,ZhW,V.direct]
 case appF s bytes x y=>
  grind[Zah,Zff,ZhW,V.direct]
 case bldD zero ps=>
  grind[Zah,qai,ZfF]
 case mvD x=>
  grind[Zah,ZfF]
 case ldD ag n x=>
  grind[Zah,qai,Zza,ZfF]
 case cvS x=>grind[Zah,Zff]
 case slA s n x lo hi=>
  grind[Zah,V.direct]
 case clr s zero x=>
  grind[Zah,V.direct]
 case idxA s x i=>
  rw[<-h];simp only[Zah];generalize x.val C E=y at hL;cases y with
  |sc y=>cases y with
   |arr k n=>simp only[hL k (by simp[V.direct])]
   |vw k N lo n=>simp only[hL k (by simp[V.direct])]
   |c y=>cases y<;>rfl
   |_=>rfl
  |_=>rfl
 case idxAA s len x i=>grind[Zah,Zyn]
 case len str x=>grind[Zah,lenV_L]
 case sl s x lo hi m3=>grind[Zah,Zxj]
 case new cells own=>
  grind[Zah,Zoi]
 case box x=>rw[<-h];simp only[Zah,hL o.oid (by simp)]
 case mkSl s xs=>rw[<-h];simp only[Zah,hL o.oid (by simp)]
 case mkS s bytes zero n=>grind[Zah]
 case newA n zero=>grind[Zah]
 case app s bytes mk x y=>
  grind[Zah,ZvF,ZhW]
 case call f args own=>
  cases own with
  |cons _ _=>grind
  |nil=>
   simp only at ha hL;simp only[Zah,Zjd,List.all_nil,cond_true,updL]at h |-;grind[Zn7]
 all_goals first | exact h | (simp at ha;done)
theorem Zyg {o:VOper}{u:Upd}(_:(recO C E L o u).1=false)(hL:∀k∈(recO C E L o u).2,L k=L' k):recO C E L o u=recO C E L' o u:=by
 unfold recO at hL |-;split;rfl
 .rename_i hown
  rw[hown]at hL;simp only at hL;cases hop:o.op<;>rw[hop]at hL<;>try rfl
  grind;grind;grind[Zdc]
theorem Zyi {o:VOper}{v:V}{u:Upd}(h:runO C o E L=some (v,u))(ha:(recO C E L o u).1=false)(hL:∀k∈(recO C E L o u).2,L k=L' k):runO C o E L'=some (v,u):=by
 have hown:o.own=[]:=by
  grind[recO]
 have key:∀q,Zah C E L o.oid o.op=some q->ownV o.oid o.own L q=some (v,u)->Zah C E L' o.oid o.op=some (v,u):=by
  grind[ownV,ZzG]
 have fin:∀{q:Option (V×Upd)},q=some (v,u)->(match q with | none=>none | some r=>ownV o.oid o.own L' r)=some (v,u):=by
  grind[ownV]
 unfold runO at h |-;cases hg:o.guard<;>grind
end
def Ztf (C:Ctx)(E:Nat->Option V)(L:Nat->Option Obj)(o:VOper)(u:Upd):Rec:=⟨(recO C E L o u).1,(recO C E L o u).2,u.map (·.1)⟩
def Runs (C:Ctx):List (VOper×Rec)->(Nat->Option V)->(Nat->Option Obj)->(Nat->Option V)->(Nat->Option Obj)->Prop
 |[],E,L,E',L'=>E=E'/\L=L'
 |x::os,E,L,E',L'=>∃v u,runO C x.1 E L=some (v,u)/\x.2=Ztf C E L x.1 u/\Runs C os (updD E x.1.dst v) (updL L u) E' L'
def ZlO (x y:VOper):Bool:=
 (match x.dst with | some d=>!(y.tmps.contains d) && !(y.dst==some d) | none=>true) &&
 (match y.dst with | some d=>!(x.tmps.contains d) | none=>true)
section
variable {C:Ctx}{E E':Nat->Option V}{L L':Nat->Option Obj}
theorem ZdS:∀{u:Upd}{L:Nat->Option Obj}{k:Nat},k∉u.map (·.1)->updL L u k=L k
 |[],_,_,_=>rfl
 |(j,x)::u,L,k,h=>by
  simp only[qq,qz,not_or]at h;simp only[updL];rw[ZdS h.2,Zc4 h.1]
theorem ZuV:∀{u:Upd}{L M:Nat->Option Obj}{k:Nat},k∈u.map (·.1)->updL L u k=updL M u k
 |[],_,_,_,h=>by grind
 |(j,x)::u,L,M,k,h=>by
  simp only[updL];by_cases hk:k∈u.map (·.1)
  .exact ZuV hk
  grind[ZdS,Za1]
theorem ZrV {u u':Upd}(h:∀k∈u.map (·.1),k∉u'.map (·.1)):updL (updL L u) u'=updL (updL L u') u:=by
 grind[ZdS,ZuV]
theorem Zu0 {d:Option Nat}{v:V}{t:Nat}(h:d≠some t):updD E d v t=E t:=by
 cases d with
 |none=>rfl
 |some d=>simp only[updD,updE];grind
theorem Zvy {d d':Option Nat}{v v':V}(h:∀t,d=some t->d'≠some t):updD (updD E d v) d' v'=updD (updD E d' v') d v:=by
 cases d with
 |none=>rfl
 |some d=>cases d' with
  |none=>rfl
  |some d'=>
   have hne:d'≠d:=fun e=>h d rfl (by rw[e]);funext t;simp only[updD,updE];grind
theorem Znb {x y:VOper}(h:ZlO x y=true):(∀t∈y.tmps,x.dst≠some t)/\(∀t∈x.tmps,y.dst≠some t)/\∀t,x.dst=some t->y.dst≠some t:=by
 grind[ZlO]
theorem Zqv {a b:List Nat}(h:apart a b=true):∀k∈a,k∉b:=by
 intro k hk;have:=qy.1 h k hk;grind
theorem Zqs {a b:Rec}(h:Zlj a b=true):(a.all=false/\a.reads=[]/\a.keys=[])\/(b.all=false/\b.reads=[]/\b.keys=[])\/
 (a.all=false/\b.all=false/\(∀k∈a.reads,k∉b.keys)/\(∀k∈b.reads,k∉a.keys)/\∀k∈a.keys,k∉b.keys):=by
 grind[Zlj,Rec.touch,Zqv]
theorem Runs.swap {x y:VOper×Rec}{r:List (VOper×Rec)}(hs:ZlO x.1 y.1=true)(hi:Zlj x.2 y.2=true)(h:Runs C (x::y::r) E L E' L'):Runs C (y::x::r) E L E' L':=by
 obtain⟨x,rx⟩:=x;obtain⟨y,ry⟩:=y;obtain⟨v1,u1,h1,h2,v2,u2,h3,h4,h5⟩:=h;simp only at hs hi h1 h2 h3 h4 h5;obtain⟨s1,s2,s3⟩:=Znb hs;have e1:∀t∈y.tmps,updD E x.dst v1 t=E t:=fun t ht=>Zu0 (s1 t ht);have e2:∀t∈x.tmps,E t=updD E y.dst v2 t:=fun t ht=>(Zu0 (s2 t ht)).symm;have q1:recO C (updD E x.dst v1) (updL L u1) y u2=recO C E (updL L u1) y u2:=ZyT e1
 have q2:recO C E (updL L u2) x u1=recO C (updD E y.dst v2) (updL L u2) x u1:=ZyT e2;rw[ZyK e1]at h3;unfold Ztf at h2 h4;rw[q1]at h4;have keysNil:∀{u:Upd},u.map (·.1)=[]->u=[]:=fun h=>List.map_eq_nil_iff.1 h;have d:=Zqs hi;rw[h2,h4]at d;simp only at d;have g1:runO C y E L=some (v2,u2)/\recO C E L y u2=recO C E (updL L u1) y u2:=by
  grind[updL,Zyi,Zyg,ZdS]
 have g2:runO C x E (updL L u2)=some (v1,u1)/\recO C E L x u1=recO C E (updL L u2) x u1:=by
  grind[updL,Zyi,Zyg,ZdS]
 have g3:updL (updL L u1) u2=updL (updL L u2) u1:=by
  grind[ZrV]
 refine⟨v2,u2,g1.1,?_,v1,u1,?_,?_,?_⟩<;>grind[Ztf,ZyK,Zvy]
theorem Runs.front:∀{pre:List (VOper×Rec)}{y:VOper×Rec}{post:List (VOper×Rec)}{E:Nat->Option V}{L:Nat->Option Obj},(∀x∈pre,ZlO x.1 y.1=true/\Zlj x.2 y.2=true)->
 Runs C (pre++y::post) E L E' L'->Runs C (y::(pre++post)) E L E' L'
 |[],_,_,_,_,_,h=>h
 |x::pre,y,post,E,L,hp,h=>by
  obtain⟨v,u,h1,h2,h3⟩:=h;have h4:Runs C (x::y::(pre++post)) E L E' L':=⟨v,u,h1,h2,Runs.front (fun z hz=>hp z (by grind)) h3⟩;grind[Runs.swap]
theorem ZuL {o:VOper}(hp:(ZfE o.op&&o.own.isEmpty)=true){v:V}{u:Upd}(h:runO C o E L=some (v,u)):(Ztf C E L o u).touch=false:=by
 simp only[qc,qa5]at hp;obtain⟨h1,h2⟩:=hp;have hu:u=[]:=by
  have key:∀q,Zah C E L o.oid o.op=some q->q.2=[]:=by
   intro q hq;cases hop:o.op<;>rw[hop]at h1 hq<;>simp only[ZfE,qE]at h1<;>simp only[Zah]at hq<;>grind[qo]
  grind[runO,ownV]
 grind[recO,ZfE,Ztf,Rec.touch]
end
def Zi3 (P:Program)(N:Nat)(ops:Array Oper):List Oper->List VOper->Bool
 |[],[]=>true
 |o::os,x::xs=>ZqT P N ops o x&&Zi3 P N ops os xs
 |_,_=>false
def Zmr (o:Oper):List Nat:=(o.after.toList.filter (Region.binds .any)).map (·.on)
def Zim:List Oper->List (List Nat)->List (List Nat)
 |[],acc=>acc
 |o::r,acc=>Zim r (acc++[nubs ((Zmr o).flatMap fun e=>e::(acc[e]?).getD [])])
def ZgF (o:VOper):Bool:=ZfE o.op&&o.own.isEmpty
def Zsd (ops:Array Oper):Bool:=(List.range ops.size).all fun i=>match ops[i]? with | some o=>(Zmr o).all fun e=>Nat.blt e i | none=>true
def Zy0 (vops:List VOper)(anc:List (List Nat))(chk:List (Nat×Nat))(i j:Nat):Bool:=
 ((anc[j]?).getD []).contains i || (match vops[i]?,vops[j]? with
   |some x,some y=>ZlO x y&&(ZgF x||ZgF y||chk.contains (i,j))
   |_,_=>false)
def Zle (ops:Array Oper)(vops:List VOper)(chk:List (Nat×Nat)):Bool:=
 let anc:=Zim ops.toList []
 Zsd ops&&(List.range vops.length).all fun j=>(List.range j).all fun i=>Zy0 vops anc chk i j
def ZnG (P:Program)(N:Nat)(ops:Array Oper)(vops:List VOper)(chk:List (Nat×Nat))(draw:Bool):Bool:=
 Zi3 P N ops ops.toList vops&&(!draw||Zle ops vops chk)
def Zew (C:Ctx)(vops:List VOper)(chk:List (Nat×Nat))(s:St):Option St:=
 match chk with
 |[]=>ZiN C vops s
 |_=>match Zeg C vops s with
  |none=>none
  |some (rs,s')=>bif Zgy rs chk then some s' else none
section
variable {P:Program}{C:Ctx}{N:Nat}{w0:World}{ω0:Nat->Nat}{S:Fr}{E E':Nat->Option V}{L L':Nat->Option Obj}{a:Act}{w:World}{ω:Nat->Nat}{β:Nat->Option Nat}
variable {ops:Array Oper}
theorem Zix:∀{os:List Oper}{xs:List VOper},Zi3 P N ops os xs=true->os.length=xs.length/\∀(i:Nat)(x:VOper),xs[i]?=some x->∃o,os[i]?=some o/\ZqT P N ops o x=true
 |[],[],_=>⟨rfl,fun i x h=>by grind⟩
 |[],_::_,h=>by simp[Zi3]at h
 |_::_,[],h=>by simp[Zi3]at h
 |o::os,y::xs,h=>by
  simp only[Zi3,qc]at h;obtain⟨h1,h2⟩:=Zix h.2;grind
theorem Zki:∀{vops:List VOper}{s s':St}{rs:List Rec},Zeg C vops s=some (rs,s')->rs.length=vops.length/\Runs C (vops.zip rs) (get? s.env) (look s.objs) (get? s'.env) (look s'.objs)
 |[],s,s',rs,h=>by
  simp only[Zeg,qb,qg]at h;obtain⟨rfl,rfl⟩:=h;exact⟨rfl,rfl,rfl⟩
 |o::r,s,s',rs,h=>by
  simp only[Zeg]at h;split at h;grind
  .rename_i v u hv
   split at h;grind
   .rename_i rs' s2 hr
    simp only[qb,qg]at h;obtain⟨rfl,rfl⟩:=h;obtain⟨h1,h2⟩:=Zki hr;refine⟨by grind,v,u,hv,rfl,?_⟩;cases hd:o.dst with
    |none=>rw[hd]at h2;simp only[ZiJ]at h2;exact h2
    |some d=>rw[hd]at h2;simp only[ZiJ,Zl2]at h2;exact h2
theorem Zih:∀{vops:List VOper}{s s':St},ZiN C vops s=some s'->∃rs,Zeg C vops s=some (rs,s')
 |[],s,s',h=>by
  simp only[ZiN,qb]at h;subst h;exact⟨[],rfl⟩
 |o::r,s,s',h=>by
  simp only[ZiN,Zzv]at h;cases hr:runO C o (get? s.env) (look s.objs)with
  |none=>grind
  |some q=>
   obtain⟨v,u⟩:=q;rw[hr]at h;obtain⟨rs,h1⟩:=Zih h;grind[Zeg]
theorem Zvv (hC:ZcR P C){Q:Exit->Act->World->Prop}:∀{os:List Oper}{vops:List VOper}{rs:List Rec}{E:Nat->Option V}{L:Nat->Option Obj}{a:Act}{w:World}{ω:Nat->Nat}{β:Nat->Option Nat},
 Rel C.gl N w0 ω0 S E L a w ω β->Zi3 P N ops os vops=true->rs.length=vops.length->Runs C (vops.zip rs) E L E' L'->
 (∀a w ω β,Rel C.gl N w0 ω0 S E' L' a w ω β->Q .normal a w)->wpList P ops Q os a w
 |[],[],rs,E,L,a,w,ω,β,r,_,_,h,hQ=>by
  simp only[List.zip_nil_left,Runs]at h;obtain⟨rfl,rfl⟩:=h;exact hQ a w ω β r
 |[],_::_,_,_,_,_,_,_,_,_,h,_,_,_=>by simp[Zi3]at h
 |_::_,[],_,_,_,_,_,_,_,_,h,_,_,_=>by simp[Zi3]at h
 |o::os,x::xs,[],_,_,_,_,_,_,_,_,h,_,_=>by grind
 |o::os,x::xs,y::rs,E,L,a,w,ω,β,r,hm,hl,h,hQ=>by
  simp only[Zi3,qc]at hm;obtain⟨v,u,h1,_,h3⟩:=h;exact ZsW hC r hm.1 h1 fun a' w' ω' β' r'=>Zvv hC r' hm.2 (by grind) h3 hQ
theorem Zlp {os:List Oper}(lst:Nat->Bool)(hc:∀(j:Nat)(o:Oper),os[j]?=some o->lst j=true->∀e∈Zmr o,lst e=true):
 ∀(r:List Oper) (acc:List (List Nat)),os.drop acc.length=r->acc.length<=os.length->
 (∀(j:Nat) (l:List Nat) (o:Oper),acc[j]?=some l->os[j]?=some o->(∀e∈Zmr o,lst e=true)->∀i∈l,lst i=true)->
 ∀(j:Nat) (l:List Nat) (o:Oper),(Zim r acc)[j]?=some l->os[j]?=some o->(∀e∈Zmr o,lst e=true)->∀i∈l,lst i=true
 |[],acc,_,_,h=>by grind[Zim]
 |o::r,acc,hd,hlen,h=>by
  simp only[Zim];have ho:os[acc.length]?=some o:=by
   have:=congrArg (·[0]?) hd;grind
  have hlt:acc.length<os.length:=(qd.1 ho).1;refine Zlp lst hc r _ ?_ (by grind) ?_
  .rw [qv,List.length_singleton,<-List.drop_drop,hd]
   rfl
  .intro j l oj hj hoj hp i hi
   by_cases hjl:j<acc.length;grind
   .rw [qN (by omega)] at hj
    have hz:j-acc.length=0:=by
     grind
    have:j=acc.length:=(by omega);subst this;rw[hz]at hj;simp only[qI,qb]at hj;subst hj;rw[ho]at hoj;cases hoj;rw[ZhG,qbi]at hi;grind
def Zfp (n:Nat)(listed:Array Bool):List Nat:=(List.range n).filter fun i=>!listed.getD i true
theorem Zio:∀{pre post:List Nat}{i:Nat},(pre++i::post).Nodup->(pre++i::post).filter (· != i)=pre++post:=by
 grind[List.filter_eq_self]
theorem Zva {n i:Nat}{listed:Array Bool}(hi:i<listed.size):Zfp n (listed.setIfInBounds i true)=(Zfp n listed).filter (· != i):=by
 unfold Zfp;rw[List.filter_filter];congr 1;funext j;by_cases h:j=i;simp_all
 .rw [show (listed.setIfInBounds i true).getD j true=listed.getD j true by simp [qaM (Ne.symm h)]]
  grind
theorem Zfs (n:Nat)(listed:Array Bool):(Zfp n listed).Pairwise (· < ·):=List.Pairwise.filter _ List.pairwise_lt_range
theorem any_ok (hC:ZcR P C){Q:Exit->Act->World->Prop}{vops:List VOper}{rs:List Rec}{chk:List (Nat×Nat)}(hm:Zi3 P N ops ops.toList vops=true)(ho:Zle ops vops chk=true)
 (hl:rs.length=vops.length) (hk:Zgy rs chk=true) (hpl:∀(i:Nat) (x:VOper) (y:Rec),vops[i]?=some x->rs[i]?=some y->ZgF x=true->y.touch=false)
 (hQ:∀a w ω β,Rel C.gl N w0 ω0 S E' L' a w ω β->Q .normal a w):
 ∀(fuel:Nat) {listed:Array Bool} {E:Nat->Option V} {L:Nat->Option Obj} {a:Act} {w:World} {ω:Nat->Nat} {β:Nat->Option Nat},listed.size=ops.size->
 (∀(j:Nat) (o:Oper),ops.toList[j]?=some o->listed.getD j false=true->∀e∈Zmr o,listed.getD e false=true)->
 (Zfp ops.size listed).length<=fuel->Rel C.gl N w0 ω0 S E L a w ω β->
 Runs C ((Zfp ops.size listed).map fun i=>((vops[i]?).getD default,(rs[i]?).getD default)) E L E' L'->wpAny P .any ops Q fuel listed a w:=by
 obtain⟨hlen,hget⟩:=Zix hm;rw[qax]at hlen;unfold Zle at ho;simp only[qc]at ho;obtain⟨hback,hpairs⟩:=ho;have ready_of:∀(listed:Array Bool),listed.size=ops.size->Region.ready .any ops listed=[]->Zfp ops.size listed=[]:=by
  intro listed hsz hr;cases hrem:Zfp ops.size listed with
  |nil=>rfl
  |cons i rest=>
   exfalso;have hi:i∈Zfp ops.size listed:=(by grind);have hi':=qaJ.1 hi;have hilt:i<ops.size:=qaF.1 hi'.1;have hpw:=Zfs ops.size listed;rw[hrem,List.pairwise_cons]at hpw;have:i∈Region.ready .any ops listed:=by
    rw[mem_ready];refine⟨by grind,ops[i],by simp,fun e he hb=>?_⟩;have hp:e.on∈Zmr ops[i]:=qH.2 ⟨e,qaJ.2 ⟨by grind,hb⟩,rfl⟩;have hlt:e.on<i:=by
     have:=qy.1 hback i (qaF.2 hilt);simp_all
    cases hle:listed.getD e.on false with
    |true=>rfl
    |false=>
     exfalso;have hmem:e.on∈Zfp ops.size listed:=by
      refine qaJ.2 ⟨qaF.2 (by omega),?_⟩;grind
     grind
   grind
 intro fuel
 induction fuel with
 |zero=>
  intro listed E L a w ω β hsz hcl hf r hruns;have hrem:Zfp ops.size listed=[]:=List.eq_nil_of_length_eq_zero (by omega);refine⟨?_,?_⟩
  .rw [List.eq_nil_iff_forall_not_mem]
   intro j hj;obtain⟨h1,o,h2,_⟩:=mem_ready.1 hj;have:j∈Zfp ops.size listed:=qaJ.2 ⟨qaF.2 (qar.1 h2).1,by grind⟩;grind
  .rw [hrem] at hruns
   obtain⟨rfl,rfl⟩:=hruns;grind
 |succ fuel ih=>
  intro listed E L a w ω β hsz hcl hf r hruns;refine⟨fun hr=>?_,fun i hi=>?_⟩
  .have hrem:=ready_of listed hsz hr
   rw[hrem]at hruns;obtain⟨rfl,rfl⟩:=hruns;grind
  .obtain ⟨h1,o,h2,h3⟩:=mem_ready.1 hi
   have hilt:i<ops.size:=(qar.1 h2).1;have hmem:i∈Zfp ops.size listed:=qaJ.2 ⟨qaF.2 hilt,by grind⟩;obtain⟨pre,post,hsplit⟩:=List.append_of_mem hmem;have hpw:=Zfs ops.size listed;have hnd:(pre++i::post).Nodup:=by
    rw[hsplit]at hpw;exact hpw.imp (fun h=>by omega)
   have hx:vops[i]?=some vops[i]:=qh (by omega);obtain⟨o',ho1,ho2⟩:=hget i _ hx;have hoo:o'=o:=by
    grind
   subst hoo;have hpi:∀e∈Zmr o',listed.getD e false=true:=by
    intro e he;obtain⟨e',he',rfl⟩:=qH.1 he;grind
   have hanc:=Zlp (os:=ops.toList) (fun j=>listed.getD j false) hcl ops.toList [] rfl (by simp) (by simp);rw[hsplit,qaf,qq]at hruns;have hfront:=Runs.front ?_ hruns
   .rw [<-qaf,hx] at hfront
    obtain⟨v,u,g1,_,g3⟩:=hfront;simp only[Option.getD_some]at g1 g3;simp only[wpOp,h2];refine ZsW hC r ho2 g1 fun a' w' ω' β' r'=>?_;have hset:Zfp ops.size (listed.setIfInBounds i true)=pre++post:=by
     grind[Zva,Zio]
    refine ih (by grind) ?_ ?_ r' ?_
    .intro j oj hj hlj e he
     have hmono:∀j,listed.getD j false=true->(listed.setIfInBounds i true).getD j false=true:=by
      intro j hj;by_cases hji:j=i;grind
      .rw[show(listed.setIfInBounds i true).getD j false=listed.getD j false by simp[qaM (Ne.symm hji)]];omega
     refine hmono e ?_;by_cases hji:j=i;grind
     .rw [show (listed.setIfInBounds i true).getD j false=listed.getD j false by simp [qaM (Ne.symm hji)]] at hlj
      grind
    grind;grind
   .intro p hp
    obtain⟨j,hj,rfl⟩:=qH.1 hp;have hjm:j∈Zfp ops.size listed:=(by grind);have hjlt:j<i:=by
     grind
    have hjn:listed.getD j true=false:=(by simpa using(qaJ.1 hjm).2);have hq:=qy.1 (qy.1 hpairs i (qaF.2 (by omega))) j (qaF.2 hjlt);have hxj:vops[j]?=some vops[j]:=qh (by omega);have hrj:rs[j]?=some rs[j]:=qh (by omega);have hri:rs[i]?=some rs[i]:=qh (by omega);unfold Zy0 at hq;simp only[hx,hxj,qay,qc]at hq;simp only[hx,hxj,hri,hrj,Option.getD_some];rcases hq with hq|⟨hq1,hq2⟩
    .exfalso
     cases hai:(Zim ops.toList [])[i]? with
     |none=>grind
     |some l=>
      rw[hai]at hq;have:=hanc i l o' hai (by omega) hpi j (by grind);grind
    .refine ⟨hq1,?_⟩
     rcases hq2 with (hq2|hq2)|hq2
     grind[Zlj];grind[Zlj]
     .have:=qy.1 hk (j,i) (by grind)
      grind
end
end Go.Vs
namespace Go.Vs
open Go Go.RowKit
section
variable {P:Program}{ops:Array Oper}{Q:Exit->Act->World->Prop}{a:Act}{w:World}{o:Oper}
end
section
variable {P:Program}{GL:Nat->List Cell}{N:Nat}{w0:World}{ω0:Nat->Nat}{S:Fr}{E:Nat->Option V}{L:Nat->Option Obj}{a:Act}{w:World}{ω:Nat->Nat}{β:Nat->Option Nat}
theorem Zi1 {w:World}{b i:Nat}{v:Value}(h:at? w b i=some v):∃cs t fr,w.heap[b]?=some (.cells cs t fr):=by
 grind[at?,World.cell?]
theorem Rel.cellsOf (h:Rel GL N w0 ω0 S E L a w ω β){k b:Nat}(hk:L k≠none)(hb:β k=some b):∃cs t fr,w.heap[b]?=some (.cells cs t fr):=by
 cases hL:L k with
 |none=>grind
 |some o=>
  have ho:=h.obj k o hL;cases o with
  |box cells=>
   obtain⟨b',cs,t,h1,h2,_⟩:=ho;grind
  |arr s rows p=>
   obtain⟨_,_,_,h4⟩:=ho;grind
theorem Rel.grown (h:Rel GL N w0 ω0 S E L a w ω β){w':World}{row:Option Nat}(hg:w.grownBy w' row)(hrow:∀b,row=some b->w0.heap.size<=b/\∃o,w.heap[b]?=some o/\o.isCells=false)(hm:Marks S.lo w' a.defers):
 Rel GL N w0 ω0 S E L a w' ω β:=by
 have hcell:∀(b:Nat) (cs:Array Value) (t:TypeId) (fr:Nat×Nat),w.heap[b]?=some (.cells cs t fr)->w'.heap[b]?=some (.cells cs t fr):=by
  intro b cs t fr hb;refine(hg.block b (qar.1 hb).1 fun e=>?_).trans hb;obtain⟨_,o,ho,hc⟩:=hrow b e.symm;rw[hb]at ho;cases ho;cases hc
 have g:Grows w ω w' ω:=⟨fun b i hi v hv=>by
  obtain⟨cs,t,fr,hb⟩:=Zi1 hv;refine⟨?_,hi⟩;rw[Zbk (hcell b cs t fr hb),<-Zbk hb];omega⟩
 have tr:∀k,Tr w β w' β L L k:=by
  grind[Tr]
 refine⟨h.size,hm,fun t v ht=>⟨(h.env t v ht).1,(h.env t v ht).2.step g tr⟩,fun k o hk=>(h.obj k o hk).step g tr rfl fun b hb=>?_,h.inj,?_,h.mine,fun b=>(h.gl b).grow g,S.closed _ _ _ _ _ _ h.inv fun k _=>tr k⟩
 .obtain ⟨cs,t,fr,hc⟩:=h.cellsOf (by grind) hb
  grind
 .refine h.keeps.step g hg.size (fun b hb hs => ?_) hg.os hg.tape hg.output
  refine⟨hg.block b (qaq hb h.keeps.size) fun e=>?_,rfl⟩;grind
def roundFr (w:World)(β:Nat->Option Nat)(L:Nat->Option Obj)(kept:Nat->Prop)(lo:Nat):Fr where
 lo:=lo
 S:=fun b=>∃k,L k≠none/\β k=some b
 kept:=fun k=>kept k\/L k≠none
 J:=fun w' β' L'=>∀k,L k≠none\/kept k->Tr w β w' β' L L' k
 closed:=fun _ _ _ _ _ _ h h' k hk=>(h k hk).trans (h' k (hk.elim .inr .inl))
end
end Go.Vs
