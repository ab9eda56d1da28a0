/- The value semantics, 21: what an operation depends on. -/
import Derived.Test.YtccmnfpbcmccpaaGreatDoorM2a
import Derived.RangeFuncNested
import Derived.RangeFuncLeaves
import Derived.IntWalk
set_option linter.unusedSimpArgs false
set_option linter.unusedVariables false
set_option linter.deprecated false
namespace Go.Vs
open Go
def Opd.tmps:Opd->List Nat
 |.t n=>[n]
 |_=>[]
def ZgK:Option Opd->List Nat
 |some x=>x.tmps
 |none=>[]
def VOp.tmps:VOp->List Nat
 |.mv x | .un _ x | .box x | .load _ _ x | .fld _ x | .part _ _ _ x | .len _ x | .ldD _ _ x | .mvD x | .appN _ _ x | .cvB x | .cvS x | .clr _ _ x | .mkS _ _ _ x | .ext _ x | .cvI _ x | .ifc _ x | .nn x=>x.tmps
 |.pick c x y=>c.tmps++x.tmps++y.tmps
 |.bin _ _ x y | .store _ x y _ | .idxA _ x y | .idxAA _ _ x y | .idxS x y | .mx x y | .mn x y | .app _ _ _ x y | .cp _ x y | .appF _ _ x y=>x.tmps++y.tmps
 |.new _ _ | .newA _ _ | .bad | .mkE=>[]
 |.build _ ps | .bldD _ ps=>ps.flatMap fun p=>p.2.2.tmps
 |.mkSl _ xs | .fn _ xs=>xs.flatMap Opd.tmps
 |.slS x lo hi | .slA _ _ x lo hi=>x.tmps++ZgK lo++ZgK hi
 |.sl _ x lo hi m3=>x.tmps++ZgK lo++ZgK hi++ZgK m3
 |.call f args _=>f.tmps++args.flatMap fun x=>x.2.tmps
def VOper.tmps (o:VOper):List Nat:=(match o.guard with | some (t,_)=>[t] | none=>[])++o.op.tmps
section
variable {C:Ctx}{E E':Nat->Option V}{L L':Nat->Option Obj}
theorem Opd.val_congr {x:Opd}(h:∀t∈x.tmps,E t=E' t):x.val C E=x.val C E':=by
 cases x<;>grind[Opd.val,Opd.tmps]
theorem ZeO {x:Option Opd}(h:∀t∈ZgK x,E t=E' t):x.map (·.val C E)=x.map (·.val C E'):=by
 cases x with
 |none=>rfl
 |some x=>simp only[qr];rw[Opd.val_congr (fun t ht=>h t ht)]
theorem Zbr {α γ:Type}{f g:α->Option γ}:∀{l:List α},(∀x∈l,f x=g x)->Zae f l=Zae g l
 |[],_=>rfl
 |x::l,h=>by simp only[Zae];rw[h x (by simp),Zbr (fun y hy=>h y (by grind))]
theorem Zzw {op:VOp}{oid:Nat}(h:∀t∈op.tmps,E t=E' t):Zag C E L oid op=Zag C E' L oid op:=by
 cases op<;>simp only[VOp.tmps,qn]at h<;>simp only[Zag];grind[Opd.val_congr];grind[Opd.val_congr];grind[Opd.val_congr];grind[Opd.val_congr];grind[Opd.val_congr]
 case build zero ps=>
  have e:Zae (ZdH C E) ps=Zae (ZdH C E') ps:=Zbr fun x hx=>by
   grind[ZdH,Opd.val_congr]
  show(match Zae (ZdH C E) ps with | none=>none | some ps=>(Zee zero ps).map fun cs=>(V.ag cs,([]:Upd)))=_;rw[e];rfl
 case bldD zero ps=>
  have e:Zae (ZdH C E) ps=Zae (ZdH C E') ps:=Zbr fun x hx=>by
   grind[ZdH,Opd.val_congr]
  show(match Zae (ZdH C E) ps with | none=>none | some ps=>(Zee zero ps).bind fun cs=>ZeP L (V.ag cs))=_;rw[e];rfl
 case mkSl s xs=>
  have e:Zae (Zlm C E s) xs=Zae (Zlm C E' s) xs:=Zbr fun x hx=>by
   grind[Zlm,Opd.val_congr]
  show(match L oid with
   |some _=>none
   |none=>match Zae (Zlm C E s) xs with
    |none=>none
    |some rows=>some (V.sc (W.arr oid rows.length),[(oid,some (Obj.arr s rows 0))]))=_
  rw[e];rfl
 grind[Opd.val_congr];grind[Opd.val_congr];grind[Opd.val_congr];grind[Opd.val_congr];grind[Opd.val_congr];grind[Opd.val_congr];grind[Opd.val_congr]
 case slS x lo hi=>rw[Opd.val_congr fun t ht=>h t (.inl (.inl ht)),ZeO fun t ht=>h t (.inl (.inr ht)),ZeO fun t ht=>h t (.inr ht)]
 grind[Opd.val_congr,ZeO];grind[Opd.val_congr];grind[Opd.val_congr];grind[Opd.val_congr];grind[Opd.val_congr];grind[Opd.val_congr];grind[qL,Opd.val_congr];grind[Opd.val_congr,vals,qL];grind[Opd.val_congr];grind[Opd.val_congr];grind[Opd.val_congr];grind[Opd.val_congr]
 case ldD ag n x=>rw[Opd.val_congr h]
 case mvD x=>rw[Opd.val_congr h]
 case cvB x=>rw[Opd.val_congr h]
 case cvS x=>rw[Opd.val_congr h]
 case slA s n x lo hi=>rw[Opd.val_congr fun t ht=>h t (.inl (.inl ht)),ZeO fun t ht=>h t (.inl (.inr ht)),ZeO fun t ht=>h t (.inr ht)]
 case clr s zero x=>rw[Opd.val_congr h]
 case appN s bytes x=>rw[Opd.val_congr h]
 case appF s bytes x y=>grind[Opd.val_congr]
 grind[Opd.val_congr]
theorem Zyp {o:VOper}(h:∀t∈o.tmps,E t=E' t):runO C o E L=runO C o E' L:=by
 have h1:Zag C E L o.oid o.op=Zag C E' L o.oid o.op:=Zzw fun t ht=>h t (by simp[VOper.tmps,ht]);grind[runO,VOper.tmps]
theorem Zyd {o:VOper}{u:Upd}(h:∀t∈o.tmps,E t=E' t):recO C E L o u=recO C E' L o u:=by
 have h':∀t∈o.op.tmps,E t=E' t:=fun t ht=>h t (by simp[VOper.tmps,ht]);unfold recO;split;rfl
 .cases hop:o.op<;>rw [hop] at h'<;>simp only [VOp.tmps,qn] at h'<;>try rfl
  grind;grind[Opd.val_congr]
  case fld off x=>grind[Opd.val_congr]
  case nn x=>grind[Opd.val_congr]
  case ldD ag n x=>grind[Opd.val_congr]
  grind[Opd.val_congr]
  case len str x=>grind[Opd.val_congr]
  case clr s zero x=>grind[Opd.val_congr]
  case cvS x=>grind[Opd.val_congr]
  case slA s n x lo hi=>grind[Opd.val_congr]
  grind[Opd.val_congr];grind[Opd.val_congr];grind[Opd.val_congr];grind[Opd.val_congr]
  case cp s x y=>grind[Opd.val_congr]
  case appN s bytes x=>grind[Opd.val_congr]
  case appF s bytes x y=>grind[Opd.val_congr]
  case call f args own=>
   cases own with
   |cons _ _=>rfl
   |nil=>
    have e:vals C E args=vals C E' args:=qL fun x hx=>by
     grind[Opd.val_congr]
    grind[Opd.val_congr]
end
section
variable {C:Ctx}{E:Nat->Option V}{L L':Nat->Option Obj}
theorem ZoP {oid:Nat}:∀(l:List W)(j:Nat),ownW oid [] j l=(l,[])
 |[],_=>rfl
 |x::r,j=>by
  simp only[ownW,ZoP r (j+1)];grind[get?]
theorem Zh6 {oid:Nat}:∀(l:List (Bool×V))(j:Nat),Zao oid [] j l=(l,[])
 |[],_=>rfl
 |(b,x)::r,j=>by
  simp only[Zao,Zh6 r (j+1)];grind[get?]
theorem Zfe {x:V}(h:∀k∈x.direct,L k=L' k):Zbn L x=Zbn L' x:=by
 cases x with
 |sc x=>cases x with
  |arr k n=>grind[Zbn,V.direct]
  |vw k N lo n=>simp only[Zbn,h k (by simp[V.direct])]
  |c y=>cases y<;>rfl
  |_=>rfl
 |_=>rfl
theorem lenV_L {x:V}(h:∀k∈x.direct,L k=L' k):lenV L x=lenV L' x:=by
 cases x with
 |sc x=>cases x with
  |arr k n=>grind[lenV,V.direct]
  |vw k N lo n=>simp only[lenV,h k (by simp[V.direct])]
  |c y=>cases y<;>rfl
  |_=>rfl
 |_=>rfl
theorem Zyt {k N i:Nat}(h:L k=L' k):elOk L k N i=elOk L' k N i:=by simp only[elOk,h]
theorem ZyP {x:V}{n:Nat}(h:∀k∈x.direct,L k=L' k):onBy L n x=onBy L' n x:=by
 cases x with
 |sc x=>cases x with
  |el k N i o=>grind[onBy,Zyt,V.direct]
  |c y=>cases y<;>rfl
  |_=>rfl
 |_=>rfl
theorem Zwy {s:Nat}{x:V}{lo hi m3:Option V}(h:∀k∈x.direct,L k=L' k):Zbx L s x lo hi m3=Zbx L' s x lo hi m3:=by
 cases x with
 |sc x=>cases x with
  |arr k n=>simp only[Zbx,h k (by simp[V.direct])]
  |vw k N lo n=>grind[Zbx,V.direct]
  |c y=>cases y<;>rfl
  |_=>rfl
 |_=>rfl
theorem ZiV {oid s bytes:Nat}{x y:V}(h0:L oid=L' oid)(hx:∀k∈x.direct,L k=L' k)(hy:∀k∈y.direct,L k=L' k):Zc4 L oid s bytes true x y=Zc4 L' oid s bytes true x y:=by
 unfold Zc4;rw[Zfe hy];cases Zbn L' y with
 |none=>rfl
 |some ys=>
  dsimp only;congr 1;cases x with
  |sc x=>cases x with
   |arr k n=>simp only[hx k (by simp[V.direct])]
   |nil=>simp only[h0]
   |full rows=>simp only[h0]
   |_=>rfl
  |_=>rfl
theorem ZsV {oid s bytes:Nat}{x y:V}(hx:∀k∈x.direct,L k=L' k)(hy:∀k∈y.direct,L k=L' k):Zc4 L oid s bytes false x y=Zc4 L' oid s bytes false x y:=by
 unfold Zc4;rw[Zfe hy];cases Zbn L' y with
 |none=>rfl
 |some ys=>
  dsimp only;congr 1;cases x with
  |sc x=>cases x with
   |arr k n=>simp only[hx k (by simp[V.direct])]
   |nil=>simp only;cases L oid<;>cases L' oid<;>rfl
   |full rows=>simp only;cases L oid<;>cases L' oid<;>rfl
   |_=>rfl
  |_=>rfl
theorem Zz3 {s:Nat}{x y:V}(hx:∀k∈x.direct,L k=L' k)(hy:∀k∈y.direct,L k=L' k):Zm0 L s x y=Zm0 L' s x y:=by
 unfold Zm0;rw[Zfe hy];cases Zbn L' y with
 |none=>rfl
 |some ys=>
  dsimp only;congr 1;cases x with
  |sc x=>cases x with
   |arr k n=>simp only[hx k (by simp[V.direct])]
   |_=>rfl
  |_=>rfl
theorem Zko:∀{ids:List Nat}{os:List Obj},ids.length=os.length->(Zdw ids os).map (·.1)=ids
 |[],os,_=>by rfl
 |k::ks,[],h=>by grind
 |k::ks,o::os,h=>by simp only[Zdw,qt,Zko (ids:=ks) (os:=os) (by grind)]
theorem Zsa (L:Nat->Option Obj):ZaM L []=[]:=rfl
theorem ZcZ {L:Nat->Option Obj}{ks:List Nat}:∀k∈ks,k∈ZbJ L ks:=fun k hk=>by
 grind[ZbJ,ZhV]
theorem Zjn {ks:List Nat}(h:∀k∈ks,L k=L' k):ZbJ L ks=ZbJ L' ks:=by
 unfold ZbJ;congr 2;rw[List.flatMap_def,List.flatMap_def];congr 1;exact qL fun k hk=>by rw[h k hk]
theorem Ztn {L:Nat->Option Obj}{ks:List Nat}:∀k∈ks,k∈ZaM L ks:=fun k hk=>by
 cases ks with
 |nil=>grind
 |cons x r=>exact ZcZ _ (ZcZ _ (ZcZ _ (ZcZ _ hk)))
theorem ZnV {ks:List Nat}(h:∀k∈ZaM L ks,L k=L' k):ZaM L ks=ZaM L' ks:=by
 cases ks<;>grind[ZaM,ZcZ,Zjn]
theorem Zoz:∀{l m:List Nat},l.Nodup->(∀k∈l,k∈m)->l.length<=m.length
 |[],_,_,_=>by simp
 |x::r,m,hn,hs=>by
  rw[qbe]at hn;have hx:x∈m:=hs x (by simp);have h:=Zoz (l:=r) (m:=m.erase x) hn.2 fun k hk=>by
   grind
  grind
theorem Ztz {l m:List Nat}(hn:l.Nodup)(hs:∀k∈l,k∈m)(he:m.length<=l.length):∀k∈m,k∈l:=by
 intro k hk;by_cases h:k∈l;omega
 .have:=Zoz (l:=k::l) (m:=m) (qbe.2 ⟨h,hn⟩) (by
   grind)
  grind
theorem ZdQ {α γ:Type}{f g:α->List γ}{l:List α}(h:∀x∈l,f x=g x):l.flatMap f=l.flatMap g:=by
 grind[qL]
theorem ZlC:∀(d:Nat)(x:W),(∀k∈W.ids L d x,L k=L' k)->W.toC L d x=W.toC L' d x/\W.ids L d x=W.ids L' d x:=by
 intro d
 induction d with
 |zero=>intro x _;cases x<;>simp[W.toC,W.ids]
 |succ d ih=>
  intro x h;have rowf:∀r:List W,(∀k∈r.flatMap (W.ids L d),L k=L' k)->Zae (W.toC L d) r=Zae (W.toC L' d) r/\r.flatMap (W.ids L d)=r.flatMap (W.ids L' d):=by
   grind[Zbr,ZdQ]
  have rowsf:∀rows:List (List W),(∀k∈rows.flatMap (·.flatMap (W.ids L d)),L k=L' k)->(∀r∈rows,Zae (W.toC L d) r=Zae (W.toC L' d) r)/\rows.flatMap (·.flatMap (W.ids L d))=rows.flatMap (·.flatMap (W.ids L' d)):=by
   grind[ZdQ]
  cases x<;>simp only[W.toC,W.ids]<;>first | exact⟨trivial,trivial⟩ | exact⟨rfl,rfl⟩ | skip
  grind[W.ids,Zbr];grind[W.ids,Zbr];grind[W.ids,Zbr];grind[W.ids]
theorem ZlM {v:V}(h:∀k∈v.cells.flatMap (W.ids L deep),L k=L' k):v.toD L=v.toD L'/\v.cells.flatMap (W.ids L deep)=v.cells.flatMap (W.ids L' deep):=by
 have hx:∀x∈v.cells,W.toC L deep x=W.toC L' deep x/\W.ids L deep x=W.ids L' deep x:=fun x hx=>ZlC deep x fun k hk=>h k (qbm.2 ⟨x,hx,hk⟩);refine⟨?_,ZdQ fun x h'=>(hx x h').2⟩;cases v<;>grind[V.toD,V.cells,Zbr]
theorem ZeZ {all:List Nat}(h:∀k∈all,L k=L' k):∀{ks:List Nat}{p:Upd},(∀k∈ks,k∈all)->ZbC L all ks=some p->ZbC L' all ks=some p
 |[],p,_,hp=>hp
 |k::ks,p,hs,hp=>by
  simp only[ZbC]at hp |-;rw[<-h k (hs k (by simp))];cases hL:L k with
  |none=>grind
  |some o=>cases o with
   |box _=>grind
   |arr s rows q=>
    simp only[hL]at hp |-;cases hc:Zae (Zae (W.toC L deep)) rows with
    |none=>grind
    |some cs=>
     simp only[hc]at hp;cases hb:(rows.all fun q=>q.all fun x=>(W.ids L deep x).all fun j=>all.contains j)with
     |false=>grind
     |true=>
      rw[hb]at hp;simp only[cond_true]at hp;have hin:∀r∈rows,∀x∈r,∀j∈W.ids L deep x,L j=L' j:=by
       intro r hr x hx j hj;have h3:=qy.1 hb r hr;grind
      have hl:∀r∈rows,∀x∈r,W.toC L deep x=W.toC L' deep x/\W.ids L deep x=W.ids L' deep x:=fun r hr x hx=>ZlC deep x fun j hj=>hin r hr x hx j hj;have e1:Zae (Zae (W.toC L' deep)) rows=some cs:=by
       grind[Zbr]
      have e2:(rows.all fun q=>q.all fun x=>(W.ids L' deep x).all fun j=>all.contains j)=true:=by
       grind
      rw[e1];simp only[e2,cond_true];obtain⟨p',hp',rfl⟩:=qq.1 hp;rw[ZeZ h (fun j hj=>hs j (by grind)) hp'];rfl
theorem Zy9 {ag:Bool}{n:Nat}{x:V}(h:∀k∈x.direct,L k=L' k):ZfR L ag n x=ZfR L' ag n x:=by
 cases x with
 |sc y=>cases y with
  |ptr k f=>simp only[ZfR,h k (by simp[V.direct])]
  |el k N i f=>simp only[ZfR,h k (by simp[V.direct])]
  |c y=>cases y<;>rfl
  |_=>rfl
 |_=>rfl
theorem Zit {all:List Nat}:∀{ks:List Nat}{p:Upd},ZbC L all ks=some p->p.map (·.1)=ks
 |[],p,h=>by grind[ZbC]
 |k::ks,p,h=>by
  simp only[ZbC]at h;cases hL:L k with
  |none=>grind
  |some o=>cases o with
   |box _=>grind
   |arr s rows q=>
    simp only[hL]at h;cases hc:Zae (Zae (W.toC L deep)) rows with
    |none=>grind
    |some cs=>
     simp only[hc]at h;cases hb:(rows.all fun q=>q.all fun x=>(W.ids L deep x).all fun j=>all.contains j)with
     |false=>grind
     |true=>
      rw[hb]at h;simp only[cond_true]at h;obtain⟨p',hp',rfl⟩:=qq.1 h;simp only[qt,Zit hp']
theorem Zfy {x d:V}{p:Upd}(h:ZeP L x=some (d,p))(hL:∀k∈p.map (·.1),L k=L' k):ZeP L' x=some (d,p):=by
 grind[ZeP,qq,Zit,ZlM,ZhV,ZeZ]
theorem Zde:∀{l:List (Bool×V)},(∀k∈Zcj L l,L k=L' k)->Zcj L l=Zcj L' l/\ZaT L l=ZaT L' l
 |[],_=>⟨rfl,rfl⟩
 |(true,v)::r,h=>by
  obtain⟨h1,h2⟩:=Zde (l:=r) h;exact⟨h1,by simp only[ZaT,h2]⟩
 |(false,v)::r,h=>by
  simp only[Zcj,qn]at h;obtain⟨h1,h2⟩:=Zde (l:=r) fun k hk=>h k (.inr hk);obtain⟨h3,h4⟩:=ZlM (v:=v) fun k hk=>h k (.inl hk);exact⟨by grind[Zcj],by simp only[ZaT,h2,h3,h4]⟩
theorem Zh1:∀{l:List (Bool×V)}{vs:List V}{ds rs:List Nat},ZaT L l=some (vs,ds,rs)->ds=Zcj L l
 |[],_,_,_,h=>by
  simp only[ZaT,qc,qj]at h;exact h.2.1.symm
 |(true,v)::r,vs,ds,rs,h=>by
  simp only[ZaT]at h;split at h;grind;grind
  .rename_i hq
   simp only[qc,qj]at h;rw[<-h.2.1];exact Zh1 (l:=r) hq
 |(false,v)::r,vs,ds,rs,h=>by
  simp only[ZaT]at h;split at h
  .rename_i hq
   simp only[qc,qj]at h;rw[<-h.2.1,Zh1 (l:=r) hq];rfl
  grind
theorem ZnA {call:Zab}{oid:Nat}{f:V}{args:List (Bool×V)}{g:FuncId}{caps:List (Bool×V)}(hc:Zb3 f=some (g,caps)){v:V}{u:Upd}(h:Zd9 call L oid f args=some (v,u))
 (hL:∀k∈Zcj L (args++caps)++u.map (·.1),L k=L' k):Zd9 call L' oid f args=some (v,u):=by
 unfold Zd9 at h |-;rw[hc]at h |-;simp only at h |-;simp only[qn]at hL;obtain⟨hd1,hd2⟩:=Zde (L:=L) (L':=L') (l:=args++caps) fun k hk=>hL k (.inl hk);rw[<-hd2];cases hq:ZaT L (args++caps)with
 |none=>grind
 |some q=>
  obtain⟨vs,ds,rs⟩:=q;rw[hq]at h;have hds:=Zh1 hq;have hdsL:∀k∈ds,L k=L' k:=fun k hk=>hL k (.inl (by grind));simp only at h |-;cases hos:Zae L (ZaM L rs)with
  |none=>grind
  |some os=>
   rw[hos]at h;simp only at h;cases hg:((ZaM L rs).all (fun k=>!ds.contains k)&&(ZaM L (ZaM L rs)).length==(ZaM L rs).length)with
   |false=>grind
   |true=>
    rw[hg]at h;simp only[cond_true]at h;cases hcall:call g (vs.map (V.ren (Zay (ZaM L rs)))) (os.map (Obj.ren (Zay (ZaM L rs))))with
    |none=>rw[hcall]at h;cases h
    |some q=>
     obtain⟨rv,os'⟩:=q;rw[hcall]at h;simp only at h;cases hb:(Nat.ble (ZaM L rs).length os'.length&&(os.zip os').all (fun x=>ZdB x.1 x.2)&&(Za4 oid 0 (os'.length-(ZaM L rs).length)).all (fun k=>(L k).isNone))with
     |false=>grind
     |true=>
      rw[hb]at h;simp only[cond_true]at h;have hb':=hb;simp only[qf]at hb';obtain⟨⟨hb1,hb2⟩,hb3⟩:=hb';have hble:=qm hb1;have hkeys:(Zdw (ZaM L rs++Za4 oid 0 (os'.length-(ZaM L rs).length)) (os'.map (Obj.ren fun i=>(ZaM L rs++Za4 oid 0 (os'.length-(ZaM L rs).length))[i]?))).map (·.1)=ZaM L rs++Za4 oid 0 (os'.length-(ZaM L rs).length):=by
       grind[Zko,ZfL]
      have fin:(∀k∈ZaM L rs++Za4 oid 0 (os'.length-(ZaM L rs).length),L k=L' k)->ZaM L rs=ZaM L' rs/\Zae L' (ZaM L rs)=some os/\(ZaM L (ZaM L rs)).length=(ZaM L' (ZaM L rs)).length/\(Za4 oid 0 (os'.length-(ZaM L rs).length)).all (fun k=>(L' k).isNone)=true:=by
       intro hall;have hids:∀k∈ZaM L rs,L k=L' k:=fun k hk=>hall k (List.mem_append_left _ hk);grind[Ztz,Zfx,Ztn,ZnV,Zbr]
      cases ds with
      |nil=>
       grind
      |cons d ds=>
       simp only at h;cases hf:(ZfE rv&&(ZaM L rs).isEmpty&&(Za4 oid 0 (os'.length-(ZaM L rs).length)).isEmpty)with
       |true=>
        grind
       |false=>
        rw[hf]at h;simp only[cond_false]at h;cases hp:ZbC L (d::ds) (d::ds)with
        |none=>grind
        |some p=>
         rw[hp]at h;simp only[qc,qj]at h;obtain⟨f1,f2,f3,f4⟩:=fin fun k hk=>hL k (.inr (by grind));rw[<-f1,f2];simp only;rw[<-f3,hg];simp only[cond_true];rw[hcall];simp only;rw[hb1,hb2,f4];simp only[Bool.and_self,cond_true,hf,cond_false];rw[ZeZ hdsL (fun _ h=>h) hp];grind
theorem ZiK {n oid:Nat}{own:List (Nat×Nat)}{v a r:V}{u:Upd}(h:(let y:=ownW oid own 0 v.cells
 bif v.cells.length==n&&v.cells.all ZaI&&y.2.all (fun u=>(L u.1).isNone) then match a with
 |.sc (.ptr k off)=>match L k with
  |some (.box cells)=>(splice cells off y.1).map fun cs=>(V.sc .un,y.2++[(k,some (.box cs))])
  |_=>none
 |.sc (.el k N i off)=>match L k with
  |some (.arr s rows p)=>bif rows.length==N&&Nat.ble p i then match rows[i]? with
   |some row=>(splice row off y.1).map fun cs=>(.sc .un,y.2++[(k,some (.arr s (setRow rows i cs) p))])
   |none=>none
   else none
  |_=>none
 |_=>none
 else none)=some (r,u)) (hL:∀k,k∈a.direct\/k∈u.map (fun x:Nat×Option Obj=>x.1)->L k=L' k):(let y:=ownW oid own 0 v.cells
 bif v.cells.length==n&&v.cells.all ZaI&&y.2.all (fun u=>(L' u.1).isNone) then match a with
 |.sc (.ptr k off)=>match L' k with
  |some (.box cells)=>(splice cells off y.1).map fun cs=>(V.sc .un,y.2++[(k,some (.box cs))])
  |_=>none
 |.sc (.el k N i off)=>match L' k with
  |some (.arr s rows p)=>bif rows.length==N&&Nat.ble p i then match rows[i]? with
   |some row=>(splice row off y.1).map fun cs=>(.sc .un,y.2++[(k,some (.arr s (setRow rows i cs) p))])
   |none=>none
   else none
  |_=>none
 |_=>none
 else none)=some (r,u):=by
 simp only at h |-;generalize ownW oid own 0 v.cells=y at h |-;cases hb:(v.cells.length==n&&v.cells.all ZaI&&y.2.all (fun u=>(L u.1).isNone))with
 |false=>grind
 |true=>
  rw[hb]at h;simp only[cond_true]at h;have hb':=hb;simp only[qf]at hb';have hall:(∀x∈y.2,x.1∈u.map (fun x:Nat×Option Obj=>x.1))->y.2.all (fun u=>(L' u.1).isNone)=true:=by
   grind
  have hcond:(∀x∈y.2,x.1∈u.map (fun x:Nat×Option Obj=>x.1))->(v.cells.length==n&&v.cells.all ZaI&&y.2.all (fun u=>(L' u.1).isNone))=true:=fun hk=>by
   grind
  cases a with
  |sc a=>cases a with
   |ptr k off=>
    grind[qq]
   |el k M i off=>
    simp only at h |-;rw[<-hL k (.inl (by simp[V.direct]))];cases hk:L k with
    |none=>grind
    |some o=>cases o with
     |box _=>grind
     |arr s rows p=>
      simp only[hk]at h |-;grind[qq]
   |_=>simp at h
  |_=>simp at h
theorem ZAz {o:VOper}(hown:o.own=[]){v:V}{u:Upd}(h:Zag C E L o.oid o.op=some (v,u))(ha:(recO C E L o u).1=false)(hL:∀k∈(recO C E L o u).2,L k=L' k):Zag C E L' o.oid o.op=some (v,u):=by
 unfold recO at ha hL;rw[hown]at ha hL;simp only at ha hL;cases hop:o.op<;>rw[hop]at h ha hL<;>simp only[ZfS,cond_true,cond_false,reduceCtorEq]at ha hL
 case load ag n x=>
  grind[Zag,V.direct]
 case fld n x=>grind[Zag,ZyP]
 case nn x=>
  grind[Zag,Zyt,V.direct]
 case store n a x own=>
  simp only[qn]at hL;simp only[Zag]at h |-;cases hx:x.val C E with
  |tu l=>rw[hx]at h;simp at h
  |sc y=>rw[hx]at h;exact ZiK h hL
  |ag y=>rw[hx]at h;exact ZiK h hL
 case cp s x y=>
  grind[Zag,Zz3]
 case appN s bytes y=>
  grind[Zag,Zfe,ZiV,V.direct]
 case appF s bytes x y=>
  grind[Zag,Zfe,ZiV,V.direct]
 case bldD zero ps=>
  grind[Zag,qaj,Zfy]
 case mvD x=>
  grind[Zag,Zfy]
 case ldD ag n x=>
  grind[Zag,qaj,Zy9,Zfy]
 case cvS x=>grind[Zag,Zfe]
 case slA s n x lo hi=>
  grind[Zag,V.direct]
 case clr s zero x=>
  grind[Zag,V.direct]
 case idxA s x i=>
  rw[<-h];simp only[Zag];generalize x.val C E=y at hL;cases y with
  |sc y=>cases y with
   |arr k n=>simp only[hL k (by simp[V.direct])]
   |vw k N lo n=>simp only[hL k (by simp[V.direct])]
   |c y=>cases y<;>rfl
   |_=>rfl
  |_=>rfl
 case idxAA s len x i=>grind[Zag,ZyP]
 case len str x=>grind[Zag,lenV_L]
 case sl s x lo hi m3=>grind[Zag,Zwy]
 case new cells own=>
  grind[Zag,ZoP]
 case box x=>rw[<-h];simp only[Zag,hL o.oid (by simp)]
 case mkSl s xs=>rw[<-h];simp only[Zag,hL o.oid (by simp)]
 case mkS s bytes zero n=>grind[Zag]
 case newA n zero=>grind[Zag]
 case app s bytes mk x y=>
  grind[Zag,ZsV,ZiV]
 case call f args own=>
  cases own with
  |cons _ _=>grind
  |nil=>
   simp only at ha hL;simp only[Zag,Zh6,List.all_nil,cond_true,updL]at h |-;grind[ZnA]
 all_goals first | exact h | (simp at ha;done)
theorem Zyw {o:VOper}{u:Upd}(_:(recO C E L o u).1=false)(hL:∀k∈(recO C E L o u).2,L k=L' k):recO C E L o u=recO C E L' o u:=by
 unfold recO at hL |-;split;rfl
 .rename_i hown
  rw[hown]at hL;simp only at hL;cases hop:o.op<;>rw[hop]at hL<;>try rfl
  grind;grind;grind[Zde]
theorem Zyz {o:VOper}{v:V}{u:Upd}(h:runO C o E L=some (v,u))(ha:(recO C E L o u).1=false)(hL:∀k∈(recO C E L o u).2,L k=L' k):runO C o E L'=some (v,u):=by
 have hown:o.own=[]:=by
  grind[recO]
 have key:∀q,Zag C E L o.oid o.op=some q->ownV o.oid o.own L q=some (v,u)->Zag C E L' o.oid o.op=some (v,u):=by
  grind[ownV,ZAz]
 have fin:∀{q:Option (V×Upd)},q=some (v,u)->(match q with | none=>none | some r=>ownV o.oid o.own L' r)=some (v,u):=by
  grind[ownV]
 unfold runO at h |-;cases hg:o.guard<;>grind
end
def ZsS (C:Ctx)(E:Nat->Option V)(L:Nat->Option Obj)(o:VOper)(u:Upd):Rec:=⟨(recO C E L o u).1,(recO C E L o u).2,u.map (·.1)⟩
def Runs (C:Ctx):List (VOper×Rec)->(Nat->Option V)->(Nat->Option Obj)->(Nat->Option V)->(Nat->Option Obj)->Prop
 |[],E,L,E',L'=>E=E'/\L=L'
 |x::os,E,L,E',L'=>∃v u,runO C x.1 E L=some (v,u)/\x.2=ZsS C E L x.1 u/\Runs C os (updD E x.1.dst v) (updL L u) E' L'
def ZlD (x y:VOper):Bool:=
 (match x.dst with | some d=>!(y.tmps.contains d) && !(y.dst==some d) | none=>true) &&
 (match y.dst with | some d=>!(x.tmps.contains d) | none=>true)
section
variable {C:Ctx}{E E':Nat->Option V}{L L':Nat->Option Obj}
theorem Zd8:∀{u:Upd}{L:Nat->Option Obj}{k:Nat},k∉u.map (·.1)->updL L u k=L k
 |[],_,_,_=>rfl
 |(j,x)::u,L,k,h=>by
  simp only[qt,qz,not_or]at h;simp only[updL];rw[Zd8 h.2,Zc5 h.1]
theorem Zvu:∀{u:Upd}{L M:Nat->Option Obj}{k:Nat},k∈u.map (·.1)->updL L u k=updL M u k
 |[],_,_,_,h=>by grind
 |(j,x)::u,L,M,k,h=>by
  simp only[updL];by_cases hk:k∈u.map (·.1)
  .exact Zvu hk
  grind[Zd8,Za0]
theorem Zvs {u u':Upd}(h:∀k∈u.map (·.1),k∉u'.map (·.1)):updL (updL L u) u'=updL (updL L u') u:=by
 grind[Zd8,Zvu]
theorem ZvV {d:Option Nat}{v:V}{t:Nat}(h:d≠some t):updD E d v t=E t:=by
 cases d with
 |none=>rfl
 |some d=>simp only[updD,updE];grind
theorem Zuf {d d':Option Nat}{v v':V}(h:∀t,d=some t->d'≠some t):updD (updD E d v) d' v'=updD (updD E d' v') d v:=by
 cases d with
 |none=>rfl
 |some d=>cases d' with
  |none=>rfl
  |some d'=>
   have hne:d'≠d:=fun e=>h d rfl (by rw[e]);funext t;simp only[updD,updE];grind
theorem Zna {x y:VOper}(h:ZlD x y=true):(∀t∈y.tmps,x.dst≠some t)/\(∀t∈x.tmps,y.dst≠some t)/\∀t,x.dst=some t->y.dst≠some t:=by
 grind[ZlD]
theorem Zrf {a b:List Nat}(h:apart a b=true):∀k∈a,k∉b:=by
 intro k hk;have:=qy.1 h k hk;grind
theorem ZqY {a b:Rec}(h:ZkC a b=true):(a.all=false/\a.reads=[]/\a.keys=[])\/(b.all=false/\b.reads=[]/\b.keys=[])\/
 (a.all=false/\b.all=false/\(∀k∈a.reads,k∉b.keys)/\(∀k∈b.reads,k∉a.keys)/\∀k∈a.keys,k∉b.keys):=by
 grind[ZkC,Rec.touch,Zrf]
theorem Runs.swap {x y:VOper×Rec}{r:List (VOper×Rec)}(hs:ZlD x.1 y.1=true)(hi:ZkC x.2 y.2=true)(h:Runs C (x::y::r) E L E' L'):Runs C (y::x::r) E L E' L':=by
 obtain⟨x,rx⟩:=x;obtain⟨y,ry⟩:=y;obtain⟨v1,u1,h1,h2,v2,u2,h3,h4,h5⟩:=h;simp only at hs hi h1 h2 h3 h4 h5;obtain⟨s1,s2,s3⟩:=Zna hs;have e1:∀t∈y.tmps,updD E x.dst v1 t=E t:=fun t ht=>ZvV (s1 t ht);have e2:∀t∈x.tmps,E t=updD E y.dst v2 t:=fun t ht=>(ZvV (s2 t ht)).symm;have q1:recO C (updD E x.dst v1) (updL L u1) y u2=recO C E (updL L u1) y u2:=Zyd e1
 have q2:recO C E (updL L u2) x u1=recO C (updD E y.dst v2) (updL L u2) x u1:=Zyd e2;rw[Zyp e1]at h3;unfold ZsS at h2 h4;rw[q1]at h4;have keysNil:∀{u:Upd},u.map (·.1)=[]->u=[]:=fun h=>List.map_eq_nil_iff.1 h;have d:=ZqY hi;rw[h2,h4]at d;simp only at d;have g1:runO C y E L=some (v2,u2)/\recO C E L y u2=recO C E (updL L u1) y u2:=by
  grind[updL,Zyz,Zyw,Zd8]
 have g2:runO C x E (updL L u2)=some (v1,u1)/\recO C E L x u1=recO C E (updL L u2) x u1:=by
  grind[updL,Zyz,Zyw,Zd8]
 have g3:updL (updL L u1) u2=updL (updL L u2) u1:=by
  grind[Zvs]
 refine⟨v2,u2,g1.1,?_,v1,u1,?_,?_,?_⟩<;>grind[ZsS,Zyp,Zuf]
theorem Runs.front:∀{pre:List (VOper×Rec)}{y:VOper×Rec}{post:List (VOper×Rec)}{E:Nat->Option V}{L:Nat->Option Obj},(∀x∈pre,ZlD x.1 y.1=true/\ZkC x.2 y.2=true)->
 Runs C (pre++y::post) E L E' L'->Runs C (y::(pre++post)) E L E' L'
 |[],_,_,_,_,_,h=>h
 |x::pre,y,post,E,L,hp,h=>by
  obtain⟨v,u,h1,h2,h3⟩:=h;have h4:Runs C (x::y::(pre++post)) E L E' L':=⟨v,u,h1,h2,Runs.front (fun z hz=>hp z (by grind)) h3⟩;grind[Runs.swap]
theorem Zvc {o:VOper}(hp:(ZfS o.op&&o.own.isEmpty)=true){v:V}{u:Upd}(h:runO C o E L=some (v,u)):(ZsS C E L o u).touch=false:=by
 simp only[qf,qa5]at hp;obtain⟨h1,h2⟩:=hp;have hu:u=[]:=by
  have key:∀q,Zag C E L o.oid o.op=some q->q.2=[]:=by
   intro q hq;cases hop:o.op<;>rw[hop]at h1 hq<;>simp only[ZfS,qH]at h1<;>simp only[Zag]at hq<;>grind[qq]
  grind[runO,ownV]
 grind[recO,ZfS,ZsS,Rec.touch]
end
def Zjm (P:Program)(N:Nat)(ops:Array Oper):List Oper->List VOper->Bool
 |[],[]=>true
 |o::os,x::xs=>ZqN P N ops o x&&Zjm P N ops os xs
 |_,_=>false
def ZlX (o:Oper):List Nat:=(o.after.toList.filter (Region.binds .any)).map (·.on)
def ZiD:List Oper->List (List Nat)->List (List Nat)
 |[],acc=>acc
 |o::r,acc=>ZiD r (acc++[nubs ((ZlX o).flatMap fun e=>e::(acc[e]?).getD [])])
def ZgG (o:VOper):Bool:=ZfS o.op&&o.own.isEmpty
def ZuO (ops:Array Oper):Bool:=(List.range ops.size).all fun i=>match ops[i]? with | some o=>(ZlX o).all fun e=>Nat.blt e i | none=>true
def Zyh (vops:List VOper)(anc:List (List Nat))(chk:List (Nat×Nat))(i j:Nat):Bool:=
 ((anc[j]?).getD []).contains i || (match vops[i]?,vops[j]? with
   |some x,some y=>ZlD x y&&(ZgG x||ZgG y||chk.contains (i,j))
   |_,_=>false)
def ZkO (ops:Array Oper)(vops:List VOper)(chk:List (Nat×Nat)):Bool:=
 let anc:=ZiD ops.toList []
 ZuO ops&&(List.range vops.length).all fun j=>(List.range j).all fun i=>Zyh vops anc chk i j
def Znt (P:Program)(N:Nat)(ops:Array Oper)(vops:List VOper)(chk:List (Nat×Nat))(draw:Bool):Bool:=
 Zjm P N ops ops.toList vops&&(!draw||ZkO ops vops chk)
def ZeB (C:Ctx)(vops:List VOper)(chk:List (Nat×Nat))(s:St):Option St:=
 match chk with
 |[]=>Zi0 C vops s
 |_=>match Zeu C vops s with
  |none=>none
  |some (rs,s')=>bif ZgR rs chk then some s' else none
section
variable {P:Program}{C:Ctx}{N:Nat}{w0:World}{ω0:Nat->Nat}{S:Fr}{E E':Nat->Option V}{L L':Nat->Option Obj}{a:Act}{w:World}{ω:Nat->Nat}{β:Nat->Option Nat}
variable {ops:Array Oper}
theorem Zi8:∀{os:List Oper}{xs:List VOper},Zjm P N ops os xs=true->os.length=xs.length/\∀(i:Nat)(x:VOper),xs[i]?=some x->∃o,os[i]?=some o/\ZqN P N ops o x=true
 |[],[],_=>⟨rfl,fun i x h=>by grind⟩
 |[],_::_,h=>by simp[Zjm]at h
 |_::_,[],h=>by simp[Zjm]at h
 |o::os,y::xs,h=>by
  simp only[Zjm,qf]at h;obtain⟨h1,h2⟩:=Zi8 h.2;grind
theorem Zj1:∀{vops:List VOper}{s s':St}{rs:List Rec},Zeu C vops s=some (rs,s')->rs.length=vops.length/\Runs C (vops.zip rs) (get? s.env) (look s.objs) (get? s'.env) (look s'.objs)
 |[],s,s',rs,h=>by
  simp only[Zeu,qc,qj]at h;obtain⟨rfl,rfl⟩:=h;exact⟨rfl,rfl,rfl⟩
 |o::r,s,s',rs,h=>by
  simp only[Zeu]at h;split at h;grind
  .rename_i v u hv
   split at h;grind
   .rename_i rs' s2 hr
    simp only[qc,qj]at h;obtain⟨rfl,rfl⟩:=h;obtain⟨h1,h2⟩:=Zj1 hr;refine⟨by grind,v,u,hv,rfl,?_⟩;cases hd:o.dst with
    |none=>rw[hd]at h2;simp only[ZiY]at h2;exact h2
    |some d=>rw[hd]at h2;simp only[ZiY,Zml]at h2;exact h2
theorem Zi2:∀{vops:List VOper}{s s':St},Zi0 C vops s=some s'->∃rs,Zeu C vops s=some (rs,s')
 |[],s,s',h=>by
  simp only[Zi0,qc]at h;subst h;exact⟨[],rfl⟩
 |o::r,s,s',h=>by
  simp only[Zi0,Zy6]at h;cases hr:runO C o (get? s.env) (look s.objs)with
  |none=>grind
  |some q=>
   obtain⟨v,u⟩:=q;rw[hr]at h;obtain⟨rs,h1⟩:=Zi2 h;grind[Zeu]
theorem ZrZ (hC:ZcR P C){Q:Exit->Act->World->Prop}:∀{os:List Oper}{vops:List VOper}{rs:List Rec}{E:Nat->Option V}{L:Nat->Option Obj}{a:Act}{w:World}{ω:Nat->Nat}{β:Nat->Option Nat},
 Rel C.gl N w0 ω0 S E L a w ω β->Zjm P N ops os vops=true->rs.length=vops.length->Runs C (vops.zip rs) E L E' L'->
 (∀a w ω β,Rel C.gl N w0 ω0 S E' L' a w ω β->Q .normal a w)->wpList P ops Q os a w
 |[],[],rs,E,L,a,w,ω,β,r,_,_,h,hQ=>by
  simp only[List.zip_nil_left,Runs]at h;obtain⟨rfl,rfl⟩:=h;exact hQ a w ω β r
 |[],_::_,_,_,_,_,_,_,_,_,h,_,_,_=>by simp[Zjm]at h
 |_::_,[],_,_,_,_,_,_,_,_,h,_,_,_=>by simp[Zjm]at h
 |o::os,x::xs,[],_,_,_,_,_,_,_,_,h,_,_=>by grind
 |o::os,x::xs,y::rs,E,L,a,w,ω,β,r,hm,hl,h,hQ=>by
  simp only[Zjm,qf]at hm;obtain⟨v,u,h1,_,h3⟩:=h;exact ZsJ hC r hm.1 h1 fun a' w' ω' β' r'=>ZrZ hC r' hm.2 (by grind) h3 hQ
theorem ZlE {os:List Oper}(lst:Nat->Bool)(hc:∀(j:Nat)(o:Oper),os[j]?=some o->lst j=true->∀e∈ZlX o,lst e=true):
 ∀(r:List Oper) (acc:List (List Nat)),os.drop acc.length=r->acc.length<=os.length->
 (∀(j:Nat) (l:List Nat) (o:Oper),acc[j]?=some l->os[j]?=some o->(∀e∈ZlX o,lst e=true)->∀i∈l,lst i=true)->
 ∀(j:Nat) (l:List Nat) (o:Oper),(ZiD r acc)[j]?=some l->os[j]?=some o->(∀e∈ZlX o,lst e=true)->∀i∈l,lst i=true
 |[],acc,_,_,h=>by grind[ZiD]
 |o::r,acc,hd,hlen,h=>by
  simp only[ZiD];have ho:os[acc.length]?=some o:=by
   have:=congrArg (·[0]?) hd;grind
  have hlt:acc.length<os.length:=(qd.1 ho).1;refine ZlE lst hc r _ ?_ (by grind) ?_
  .rw [qC,List.length_singleton,<-List.drop_drop,hd]
   rfl
  .intro j l oj hj hoj hp i hi
   by_cases hjl:j<acc.length;grind
   .rw [qP (by omega)] at hj
    have hz:j-acc.length=0:=by
     grind
    have:j=acc.length:=(by omega);subst this;rw[hz]at hj;simp only[qN,qc]at hj;subst hj;rw[ho]at hoj;cases hoj;rw[ZhV,qbm]at hi;grind
def Zfm (n:Nat)(listed:Array Bool):List Nat:=(List.range n).filter fun i=>!listed.getD i true
theorem Zic:∀{pre post:List Nat}{i:Nat},(pre++i::post).Nodup->(pre++i::post).filter (· != i)=pre++post:=by
 grind[List.filter_eq_self]
theorem Zu4 {n i:Nat}{listed:Array Bool}(hi:i<listed.size):Zfm n (listed.setIfInBounds i true)=(Zfm n listed).filter (· != i):=by
 unfold Zfm;rw[List.filter_filter];congr 1;funext j;by_cases h:j=i;simp_all
 .rw [show (listed.setIfInBounds i true).getD j true=listed.getD j true by simp [qaL (Ne.symm h)]]
  grind
theorem Zfo (n:Nat)(listed:Array Bool):(Zfm n listed).Pairwise (· < ·):=List.Pairwise.filter _ List.pairwise_lt_range
theorem any_ok (hC:ZcR P C){Q:Exit->Act->World->Prop}{vops:List VOper}{rs:List Rec}{chk:List (Nat×Nat)}(hm:Zjm P N ops ops.toList vops=true)(ho:ZkO ops vops chk=true)
 (hl:rs.length=vops.length) (hk:ZgR rs chk=true) (hpl:∀(i:Nat) (x:VOper) (y:Rec),vops[i]?=some x->rs[i]?=some y->ZgG x=true->y.touch=false)
 (hQ:∀a w ω β,Rel C.gl N w0 ω0 S E' L' a w ω β->Q .normal a w):
 ∀(fuel:Nat) {listed:Array Bool} {E:Nat->Option V} {L:Nat->Option Obj} {a:Act} {w:World} {ω:Nat->Nat} {β:Nat->Option Nat},listed.size=ops.size->
 (∀(j:Nat) (o:Oper),ops.toList[j]?=some o->listed.getD j false=true->∀e∈ZlX o,listed.getD e false=true)->
 (Zfm ops.size listed).length<=fuel->Rel C.gl N w0 ω0 S E L a w ω β->
 Runs C ((Zfm ops.size listed).map fun i=>((vops[i]?).getD default,(rs[i]?).getD default)) E L E' L'->wpAny P .any ops Q fuel listed a w:=by
 obtain⟨hlen,hget⟩:=Zi8 hm;rw[qaw]at hlen;unfold ZkO at ho;simp only[qf]at ho;obtain⟨hback,hpairs⟩:=ho;have ready_of:∀(listed:Array Bool),listed.size=ops.size->Region.ready .any ops listed=[]->Zfm ops.size listed=[]:=by
  intro listed hsz hr;cases hrem:Zfm ops.size listed with
  |nil=>rfl
  |cons i rest=>
   exfalso;have hi:i∈Zfm ops.size listed:=(by grind);have hi':=qaJ.1 hi;have hilt:i<ops.size:=qay.1 hi'.1;have hpw:=Zfo ops.size listed;rw[hrem,List.pairwise_cons]at hpw;have:i∈Region.ready .any ops listed:=by
    rw[mem_ready];refine⟨by grind,ops[i],by simp,fun e he hb=>?_⟩;have hp:e.on∈ZlX ops[i]:=qF.2 ⟨e,qaJ.2 ⟨by grind,hb⟩,rfl⟩;have hlt:e.on<i:=by
     have:=qy.1 hback i (qay.2 hilt);simp_all
    cases hle:listed.getD e.on false with
    |true=>rfl
    |false=>
     exfalso;have hmem:e.on∈Zfm ops.size listed:=by
      refine qaJ.2 ⟨qay.2 (by omega),?_⟩;grind
     grind
   grind
 intro fuel
 induction fuel with
 |zero=>
  intro listed E L a w ω β hsz hcl hf r hruns;have hrem:Zfm ops.size listed=[]:=List.eq_nil_of_length_eq_zero (by omega);refine⟨?_,?_⟩
  .rw [List.eq_nil_iff_forall_not_mem]
   intro j hj;obtain⟨h1,o,h2,_⟩:=mem_ready.1 hj;have:j∈Zfm ops.size listed:=qaJ.2 ⟨qay.2 (qas.1 h2).1,by grind⟩;grind
  .rw [hrem] at hruns
   obtain⟨rfl,rfl⟩:=hruns;grind
 |succ fuel ih=>
  intro listed E L a w ω β hsz hcl hf r hruns;refine⟨fun hr=>?_,fun i hi=>?_⟩
  .have hrem:=ready_of listed hsz hr
   rw[hrem]at hruns;obtain⟨rfl,rfl⟩:=hruns;grind
  .obtain ⟨h1,o,h2,h3⟩:=mem_ready.1 hi
   have hilt:i<ops.size:=(qas.1 h2).1;have hmem:i∈Zfm ops.size listed:=qaJ.2 ⟨qay.2 hilt,by grind⟩;obtain⟨pre,post,hsplit⟩:=List.append_of_mem hmem;have hpw:=Zfo ops.size listed;have hnd:(pre++i::post).Nodup:=by
    rw[hsplit]at hpw;exact hpw.imp (fun h=>by omega)
   have hx:vops[i]?=some vops[i]:=qk (by omega);obtain⟨o',ho1,ho2⟩:=hget i _ hx;have hoo:o'=o:=by
    grind
   subst hoo;have hpi:∀e∈ZlX o',listed.getD e false=true:=by
    intro e he;obtain⟨e',he',rfl⟩:=qF.1 he;grind
   have hanc:=ZlE (os:=ops.toList) (fun j=>listed.getD j false) hcl ops.toList [] rfl (by simp) (by simp);rw[hsplit,qam,qt]at hruns;have hfront:=Runs.front ?_ hruns
   .rw [<-qam,hx] at hfront
    obtain⟨v,u,g1,_,g3⟩:=hfront;simp only[qbn]at g1 g3;simp only[wpOp,h2];refine ZsJ hC r ho2 g1 fun a' w' ω' β' r'=>?_;have hset:Zfm ops.size (listed.setIfInBounds i true)=pre++post:=by
     grind[Zu4,Zic]
    refine ih (by grind) ?_ ?_ r' ?_
    .intro j oj hj hlj e he
     have hmono:∀j,listed.getD j false=true->(listed.setIfInBounds i true).getD j false=true:=by
      intro j hj;by_cases hji:j=i;grind
      .rw[show(listed.setIfInBounds i true).getD j false=listed.getD j false by simp[qaL (Ne.symm hji)]];omega
     refine hmono e ?_;by_cases hji:j=i;grind
     .rw [show (listed.setIfInBounds i true).getD j false=listed.getD j false by simp [qaL (Ne.symm hji)]] at hlj
      grind
    grind;grind
   .intro p hp
    obtain⟨j,hj,rfl⟩:=qF.1 hp;have hjm:j∈Zfm ops.size listed:=(by grind);have hjlt:j<i:=by
     grind
    have hjn:listed.getD j true=false:=(by simpa using(qaJ.1 hjm).2);have hq:=qy.1 (qy.1 hpairs i (qay.2 (by omega))) j (qay.2 hjlt);have hxj:vops[j]?=some vops[j]:=qk (by omega);have hrj:rs[j]?=some rs[j]:=qk (by omega);have hri:rs[i]?=some rs[i]:=qk (by omega);unfold Zyh at hq;simp only[hx,hxj,qaz,qf]at hq;simp only[hx,hxj,hri,hrj,qbn];rcases hq with hq|⟨hq1,hq2⟩
    .exfalso
     cases hai:(ZiD ops.toList [])[i]? with
     |none=>grind
     |some l=>
      rw[hai]at hq;have:=hanc i l o' hai (by omega) hpi j (by grind);grind
    .refine ⟨hq1,?_⟩
     rcases hq2 with (hq2|hq2)|hq2
     grind[ZkC];grind[ZkC]
     .have:=qy.1 hk (j,i) (by grind)
      grind
end
end Go.Vs
namespace Go.Vs
open Go Go.RowKit
section
variable {P:Program}{ops:Array Oper}{Q:Exit->Act->World->Prop}{a:Act}{w:World}{o:Oper}
end
section
variable {P:Program}{GL:Nat->List Cell}{N:Nat}{w0:World}{ω0:Nat->Nat}{S:Fr}{E:Nat->Option V}{L:Nat->Option Obj}{a:Act}{w:World}{ω:Nat->Nat}{β:Nat->Option Nat}
theorem Zix {w:World}{b i:Nat}{v:Value}(h:at? w b i=some v):∃cs t fr,w.heap[b]?=some (.cells cs t fr):=by
 grind[at?,World.cell?]
theorem Rel.cellsOf (h:Rel GL N w0 ω0 S E L a w ω β){k b:Nat}(hk:L k≠none)(hb:β k=some b):∃cs t fr,w.heap[b]?=some (.cells cs t fr):=by
 cases hL:L k with
 |none=>grind
 |some o=>
  have ho:=h.obj k o hL;cases o with
  |box cells=>
   obtain⟨b',cs,t,h1,h2,_⟩:=ho;grind
  |arr s rows p=>
   obtain⟨_,_,_,h4⟩:=ho;grind
theorem Rel.grown (h:Rel GL N w0 ω0 S E L a w ω β){w':World}{row:Option Nat}(hg:w.grownBy w' row)(hrow:∀b,row=some b->w0.heap.size<=b/\∃o,w.heap[b]?=some o/\o.isCells=false)(hm:Marks S.lo w' a.defers):
 Rel GL N w0 ω0 S E L a w' ω β:=by
 have hcell:∀(b:Nat) (cs:Array Value) (t:TypeId) (fr:Nat×Nat),w.heap[b]?=some (.cells cs t fr)->w'.heap[b]?=some (.cells cs t fr):=by
  intro b cs t fr hb;refine(hg.block b (qas.1 hb).1 fun e=>?_).trans hb;obtain⟨_,o,ho,hc⟩:=hrow b e.symm;rw[hb]at ho;cases ho;cases hc
 have g:Grows w ω w' ω:=⟨fun b i hi v hv=>by
  obtain⟨cs,t,fr,hb⟩:=Zix hv;refine⟨?_,hi⟩;rw[Zbl (hcell b cs t fr hb),<-Zbl hb];omega⟩
 have tr:∀k,Tr w β w' β L L k:=by
  grind[Tr]
 refine⟨h.size,hm,fun t v ht=>⟨(h.env t v ht).1,(h.env t v ht).2.step g tr⟩,fun k o hk=>(h.obj k o hk).step g tr rfl fun b hb=>?_,h.inj,?_,h.mine,fun b=>(h.gl b).grow g,S.closed _ _ _ _ _ _ h.inv fun k _=>tr k⟩
 .obtain ⟨cs,t,fr,hc⟩:=h.cellsOf (by grind) hb
  grind
 .refine h.keeps.step g hg.size (fun b hb hs => ?_) hg.os hg.tape hg.output
  refine⟨hg.block b (qar hb h.keeps.size) fun e=>?_,rfl⟩;grind
def roundFr (w:World)(β:Nat->Option Nat)(L:Nat->Option Obj)(kept:Nat->Prop)(lo:Nat):Fr where
 lo:=lo
 S:=fun b=>∃k,L k≠none/\β k=some b
 kept:=fun k=>kept k\/L k≠none
 J:=fun w' β' L'=>∀k,L k≠none\/kept k->Tr w β w' β' L L' k
 closed:=fun _ _ _ _ _ _ h h' k hk=>(h k hk).trans (h' k (hk.elim .inr .inl))
end
end Go.Vs
