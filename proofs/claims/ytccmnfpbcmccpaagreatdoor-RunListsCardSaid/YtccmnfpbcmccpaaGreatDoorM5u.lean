/- The value semantics, 36: without fuel: what the evaluator says for some fuel, and code by what holds behind it. -/
import Derived.Test.YtccmnfpbcmccpaaGreatDoorM4u
set_option linter.unusedSimpArgs false
set_option linter.unusedVariables false
set_option linter.deprecated false
namespace Go.Vs
open Go
def nilW:W->W
 |.nil=>.c (.sl [])
 |w=>w
def nilC:V->V
 |.ag cs=>.ag (cs.map nilW)
 |v=>v
def nilV:V->V
 |.sc w=>.sc w
 |.ag cs=>.ag (cs.map nilW)
 |.tu l=>.tu (l.map nilC)
def B4 (keep:Bool)(r:V×List Obj):V×List Obj:=bif keep then r else (nilV r.1,r.2)
def BA (T:FuncId->Option VFun)(X:Ab)(gl:Nat->List Cell):Nat->Ab
 |0,_,_,_=>none
 |n+1,f,args,objs=>match T f with
  |none=>X f args objs
  |some vf=>bif args.length==vf.nparams&&Nat.ble objs.length 64 then
   match run ⟨BA T X gl n,gl⟩ n vf.body ⟨A2 0 args,A2 0 (objs.map some)⟩with
   |some (.exit _,_)=>none
   |some (_,s)=>(BS vf.keep objs.length vf.results s).map (B4 vf.keep)
   |none=>none
   else none
section
variable {P:Program}{gl:Nat->List Cell}{w:World}{ω:Nat->Nat}{β:Nat->Option Nat}{L:Nat->Option Obj}
theorem WD {x:W}{v:Value}(h:RW w ω β L x v):RW w ω β L (nilW x) v:=by
 cases x<;>grind[RW,nilW,RD]
theorem PF:∀{cs:List W}{vs:List Value},RWlist w ω β L cs vs->RWlist w ω β L (cs.map nilW) vs
 |[],[],_=>trivial
 |[],_::_,h=>h.elim
 |_::_,[],h=>h.elim
 |x::cs,v::vs,h=>⟨WD h.1,PF h.2⟩
theorem Ra {x:V}{v:Value}(h:RV1 w ω β L x v):RV1 w ω β L (nilC x) v:=by
 cases x with
 |ag cs=>
  obtain⟨a,h1,h2⟩:=h;exact⟨a,h1,PF h2⟩
 |_=>exact h
theorem P9:∀{xs:List V}{vs:List Value},RVs w ω β L xs vs->RVs w ω β L (xs.map nilC) vs
 |[],[],_=>trivial
 |[],_::_,h=>h.elim
 |_::_,[],h=>h.elim
 |x::xs,v::vs,h=>⟨Ra h.1,P9 h.2⟩
theorem ZX {x:V}{v:Value}(h:RV w ω β L x v):RV w ω β L (nilV x) v:=by
 cases x with
 |sc x=>exact h
 |ag cs=>exact Ra (x:=.ag cs) h
 |tu l=>
  obtain⟨a,h1,h2⟩:=h;exact⟨a,h1,P9 h2⟩
theorem FnOk.norm {f:FuncId}{args:List V}{objs objs':List Obj}{rv:V}(h:FnOk P gl f args objs rv objs')(keep:Bool):FnOk P gl f args objs (B4 keep (rv,objs')).1 (B4 keep (rv,objs')).2:=by
 cases keep with
 |true=>exact h
 |false=>
  refine⟨h.1,fun w ω β cargs h1 h2 h3 h4=>(h.2 w ω β cargs h1 h2 h3 h4).mono ?_⟩;rintro e w' ⟨vv,ω',β',q1,q2,q3⟩;exact⟨vv,ω',β',q1,ZX q2,q3⟩
theorem PK {o0:Ab}(hP:P.follows .mixedOrders=true)(hOr:Dk P ⟨o0,gl⟩){n:Nat}{f:FuncId}{vf:VFun}(hm:mFun P f vf=true){args:List V}{objs:List Obj}{rv:V}{objs':List Obj}
 (hc:args.length=vf.nparams/\Nat.ble objs.length 64=true)
 (h:(match run ⟨o0,gl⟩ n vf.body ⟨A2 0 args,A2 0 (objs.map some)⟩with
   |some (.exit _,_)=>none
   |some (_,s)=>BS vf.keep objs.length vf.results s
   |none=>none)=some (rv,objs')):FnOk P gl f args objs rv objs':=by
 have hlen:objs.length<=64:=qi hc.2;unfold mFun at hm;split at hm
 .rename_i fn hfn
  simp only[qe,qaA]at hm;obtain⟨hname,hm⟩:=hm;split at hm
  .rename_i c hbody
   simp only[qe]at hm;obtain⟨⟨m1,m2⟩,m3⟩:=hm;refine⟨⟨fn,hfn,by grind,hname⟩,?_⟩;intro w ω β cargs hgl hargs hobj hinj;obtain⟨al,ag⟩:=JM hargs;have al':args.length=cargs.size:=(by omega);have hnp:cargs.size<=fn.ntmps:=(by simp_all);have r0:Rel gl fn.ntmps w ω (Er objs w β) (get? (A2 0 args)) (look (A2 0 (objs.map some))) { tmps:=cargs++Array.replicate (fn.ntmps-cargs.size) undef,defers:=[] } w ω β:=by
    rw[Ql];refine⟨by grind,trivial,?_,hobj,hinj,Keeps.refl _ _ _,fun k b hk hb=>.inl ⟨k,hk,hb⟩,hgl,fun k _=>Tr.refl k⟩;intro t x ht;rw[MT]at ht;obtain⟨v,hv1,hv2⟩:=ag t x ht;have hlt:t<cargs.size:=by
     grind
    refine⟨by omega,?_⟩;have:(cargs++Array.replicate (fn.ntmps-cargs.size) undef).getD t undef=v:=by
     rw[Array.getD_eq_getD_getElem?,Array.getElem?_append_left hlt,<-qah,hv1];rfl
    grind[Iw]
   have post:∀{s:St},BS vf.keep objs.length vf.results s=some (rv,objs')->∀(a:Act) (w':World) (ω':Nat->Nat) (β':Nat->Option Nat),Rel gl fn.ntmps w ω (Er objs w β) (get? s.env) (look s.objs) a w' ω' β'->
    LeavesInM Fence.wide 0 P fn a.tmps (fun e w'=>∃vv ω2 β2,e=.returned vv/\RV w' ω2 β2 (Lof objs') rv vv/\
    (∀k o,Lof objs' k=some o->ObjOk w' ω2 β2 (Lof objs') k o)/\
    (∀j k b,Lof objs' j≠none->Lof objs' k≠none->β2 j=some b->β2 k=some b->j=k)/\
    Keeps w ω (fun b=>∃k,Lof objs k≠none/\β k=some b) w' ω2/\
    (∀k b,Lof objs' k≠none->β2 k=some b->(∃j,Lof objs j≠none/\β j=some b)\/w.heap.size<=b)/\
    (∀k,Tr w β w' β2 (Lof objs) (Lof objs') k)) a.defers .returning w':=by
    intro s hs a w' ω' β' r;refine Mq (S:=Er objs w β) (qg _) (fun w' ω' β' r=>?_) r;obtain⟨v,ω2,β2,q1,q2⟩:=Pz (P:=P) (C:=⟨o0,gl⟩) r hlen m2 hs;grind
   refine(callsIn_wide (n:=0)).1 (callsIn_of_wp_marks hfn hbody trivial ((wpIn_wide (n:=0)).2 ?_));split at h;grind
   .rename_i ex s hne hrun
    refine SM (C:=⟨o0,gl⟩) hOr hP (S:=Er objs w β) (fun k hk=>qab hk hlen) (qg _) m1 hrun r0 fun a w' ω' β' r=>?_;cases ex with
    |normal=>exact post h a w' ω' β' r
    |exit id=>grind
    |ret=>exact post h a w' ω' β' r
   grind
  grind
 grind
theorem Ro {T:FuncId->Option VFun}{X:Ab}(hP:P.follows .mixedOrders=true)(hT:∀f vf,T f=some vf->mFun P f vf=true)
 (hX:∀f args objs rv objs',X f args objs=some (rv,objs')->FnOk P gl f args objs rv objs'):
 ∀(n:Nat) {f:FuncId} {args:List V} {objs:List Obj} {rv:V} {objs':List Obj},BA T X gl n f args objs=some (rv,objs')->FnOk P gl f args objs rv objs':=by
 intro n
 induction n with
 |zero=>grind[BA]
 |succ n ih=>
  intro f args objs rv objs' h;simp only[BA]at h;split at h;grind
  .rename_i vf hvf
   cases hc:(args.length==vf.nparams&&Nat.ble objs.length 64)with
   |false=>grind
   |true=>
    rw[hc]at h;simp only[cond_true]at h;simp only[qe,beq_iff_eq]at hc;have key:∀{rv:V} {objs':List Obj},(match run ⟨BA T X gl n,gl⟩ n vf.body ⟨A2 0 args,A2 0 (objs.map some)⟩with
     |some (.exit _,_)=>none
     |some (_,s)=>BS vf.keep objs.length vf.results s
     |none=>none)=some (rv,objs')->FnOk P gl f args objs rv objs':=fun h=>PK hP (fun f args objs rv objs' h=>ih h) (hT f vf hvf) hc h
    cases hr:run ⟨BA T X gl n,gl⟩ n vf.body ⟨A2 0 args,A2 0 (objs.map some)⟩with
    |none=>grind
    |some x=>
     obtain⟨e,s⟩:=x;rw[hr]at h key;have fin:(BS vf.keep objs.length vf.results s).map (B4 vf.keep)=some (rv,objs')->(∀{rv:V} {objs':List Obj},BS vf.keep objs.length vf.results s=some (rv,objs')->FnOk P gl f args objs rv objs')->FnOk P gl f args objs rv objs':=by
      intro h1 h2;obtain⟨y,h3,h4⟩:=qo.1 h1;have:=(h2 h3).norm vf.keep;grind
     grind
end
def Le (c c':Ab):Prop:=∀f a o r,c f a o=some r->c' f a o=some r
theorem Le.refl (c:Ab):Le c c:=fun _ _ _ _ h=>h
theorem Le.trans {c c' c'':Ab}(h:Le c c')(h':Le c' c''):Le c c'':=fun f a o r e=>h' f a o r (h f a o r e)
structure Fam where
 A:Nat->Ab
 mono:∀{m n:Nat},m<=n->Le (A m) (A n)
def Fam.Lim (F:Fam)(l:Ab):Prop:=∀f a o r,l f a o=some r->∃m,F.A m f a o=some r
def Cont {α:Type}(F:Fam)(l:Ab)(G:Ab->Option α):Prop:=∀r,G l=some r->∃m,∀c',Le (F.A m) c'->G c'=some r
section
variable {F:Fam}{l:Ab}
theorem Cont.const {α:Type}{G:Ab->Option α}(h:∀c,G c=G l):Cont F l G:=fun r e=>⟨0,fun c' _=>(h c').trans e⟩
theorem Cont.bind {α γ:Type}{G:Ab->Option α}{H:α->Ab->Option γ}{K:Ab->Option γ}(hK:∀c,K c=(G c).bind fun x=>H x c)(hG:Cont F l G)(hH:∀x,Cont F l (H x)):Cont F l K:=by
 intro r e;rw[hK]at e;obtain⟨x,h1,h2⟩:=qam.1 e;obtain⟨m,hm⟩:=hG x h1;obtain⟨m',hm'⟩:=hH x r h2;refine⟨max m m',fun c' hc=>?_⟩;rw[hK,hm c' ((F.mono (qaK ..)).trans hc),qay];exact hm' c' ((F.mono (qaQ ..)).trans hc)
theorem ZcR (hl:F.Lim l){L:Nat->Option Obj}{oid:Nat}{f:V}{args:List (Bool×V)}:Cont F l fun c=>BI c L oid f args:=by
 intro r e;unfold BI at e |-;cases hf:Dc f with
 |none=>rw[hf]at e;cases e
 |some gc=>
  obtain⟨g,caps⟩:=gc;rw[hf]at e;dsimp only at e |-;cases ha:AQ L (args++caps)with
  |none=>grind
  |some q=>
   obtain⟨vs,ds,rs⟩:=q;rw[ha]at e;dsimp only at e |-;cases hL:Ad L (An L rs)with
   |none=>grind
   |some os=>
    rw[hL]at e;dsimp only at e |-;cases hb:((An L rs).all fun k=>!ds.contains k)&&(An L (An L rs)).length==(An L rs).length with
    |false=>grind
    |true=>
     rw[hb]at e;simp only[cond_true]at e |-;cases hc:l g (vs.map (V.ren (AN (An L rs)))) (os.map (Obj.ren (AN (An L rs))))with
     |none=>grind
     |some x=>
      obtain⟨m,hm⟩:=hl _ _ _ _ hc;rw[hc]at e;refine⟨m,fun c' hcc=>?_⟩;rw[hcc _ _ _ _ hm];exact e
theorem Yo (hl:F.Lim l){gl:Nat->List Cell}{E:Nat->Option V}{L:Nat->Option Obj}{oid:Nat}{op:VOp}:Cont F l fun c=>Ae ⟨c,gl⟩ E L oid op:=by
 cases op with
 |call f args own=>
  intro r e;have hv:∀c,Ae ⟨c,gl⟩ E L oid (.call f args own)=(bif (Au oid own 0 (vals ⟨l,gl⟩ E args)).2.all (fun u=>(L u.1).isNone) then match BI c (updL L (Au oid own 0 (vals ⟨l,gl⟩ E args)).2) (oid+32) (f.val ⟨l,gl⟩ E) (Au oid own 0 (vals ⟨l,gl⟩ E args)).1 with
   |none=>none
   |some (v,u)=>some (v,(Au oid own 0 (vals ⟨l,gl⟩ E args)).2++u)
   else none):=by
   intro c;rfl
  try dsimp only at e |-
  rw[hv]at e;simp only[hv];cases hb:(Au oid own 0 (vals ⟨l,gl⟩ E args)).2.all (fun u=>(L u.1).isNone)with
  |false=>grind
  |true=>
   rw[hb]at e;simp only[cond_true]at e |-;cases hc:BI l (updL L (Au oid own 0 (vals ⟨l,gl⟩ E args)).2) (oid+32) (f.val ⟨l,gl⟩ E) (Au oid own 0 (vals ⟨l,gl⟩ E args)).1 with
   |none=>grind
   |some x=>
    obtain⟨m,hm⟩:=ZcR hl _ hc;rw[hc]at e;refine⟨m,fun c' hcc=>?_⟩;grind
 |_=>exact fun r e=>⟨0,fun c' _=>e⟩
theorem Ru (hl:F.Lim l){gl:Nat->List Cell}{o:VOper}{E:Nat->Option V}{L:Nat->Option Obj}:Cont F l fun c=>runO ⟨c,gl⟩ o E L:=by
 have base:∀r,(match Ae ⟨l,gl⟩ E L o.oid o.op with
  |none=>none
  |some r=>ownV o.oid o.own L r)=some r->∃m,∀c',Le (F.A m) c'->(match Ae ⟨c',gl⟩ E L o.oid o.op with
  |none=>none
  |some r=>ownV o.oid o.own L r)=some r:=by
  intro r e;cases hc:Ae ⟨l,gl⟩ E L o.oid o.op with
  |none=>rw[hc]at e;cases e
  |some x=>
   obtain⟨m,hm⟩:=Yo hl _ hc;rw[hc]at e;refine⟨m,fun c' hcc=>?_⟩;grind
 unfold runO;cases o.guard with
 |none=>exact base
 |some q=>
  obtain⟨t,want⟩:=q;dsimp only;cases E t with
  |none=>exact .const fun _=>rfl
  |some v=>cases v with
   |sc w=>cases w with
    |c x=>cases x with
     |bool b=>
      dsimp only;cases b==want with
      |true=>exact base
      |false=>exact .const fun _=>rfl
     |_=>exact .const fun _=>rfl
    |_=>exact .const fun _=>rfl
   |_=>exact .const fun _=>rfl
def St.next (s:St)(d:Option Nat)(v:V)(u:Upd):St:=⟨match d with | some d=>put s.env d v | none=>s.env,Cm s.objs u⟩
theorem PS {C:Ctx}{o:VOper}{r:List VOper}{s:St}:DU C (o::r) s=(runO C o (get? s.env) (look s.objs)).bind fun x=>DU C r (s.next o.dst x.1 x.2):=by
 simp only[DU,LC,St.next];cases runO C o (get? s.env) (look s.objs)with
 |none=>rfl
 |some x=>cases o.dst<;>rfl
theorem S0 {C:Ctx}{o:VOper}{r:List VOper}{s:St}:BJ C (o::r) s=(runO C o (get? s.env) (look s.objs)).bind fun x=>(BJ C r (s.next o.dst x.1 x.2)).bind fun y=>
 some (⟨(recO C (get? s.env) (look s.objs) o x.2).1,(recO C (get? s.env) (look s.objs) o x.2).2,x.2.map (·.1)⟩::y.1,y.2):=by
 simp only[BJ,St.next];cases runO C o (get? s.env) (look s.objs)with
 |none=>rfl
 |some x=>
  simp only[qay];cases o.dst with
  |none=>simp only;cases BJ C r ⟨s.env,Cm s.objs x.2⟩<;>rfl
  |some d=>simp only;cases BJ C r ⟨put s.env d x.1,Cm s.objs x.2⟩<;>rfl
theorem TE (hl:F.Lim l){gl:Nat->List Cell}:∀(ops:List VOper)(s:St),Cont F l fun c=>DU ⟨c,gl⟩ ops s
 |[],s=>fun r e=>⟨0,fun c' _=>e⟩
 |o::r,s=>Cont.bind (G:=fun c=>runO ⟨c,gl⟩ o (get? s.env) (look s.objs)) (H:=fun x c=>DU ⟨c,gl⟩ r (s.next o.dst x.1 x.2)) (fun c=>PS) (Ru hl) fun x=>TE hl r _
theorem Te (hl:F.Lim l){gl:Nat->List Cell}:∀(ops:List VOper)(s:St),Cont F l fun c=>BJ ⟨c,gl⟩ ops s
 |[],s=>fun r e=>⟨0,fun c' _=>e⟩
 |o::r,s=>by
  have h1:∀(c:Ab) (u:Upd),recO ⟨c,gl⟩ (get? s.env) (look s.objs) o u=recO ⟨l,gl⟩ (get? s.env) (look s.objs) o u:=by
   intro c u;rfl
  refine Cont.bind (G:=fun c=>runO ⟨c,gl⟩ o (get? s.env) (look s.objs)) (H:=fun x c=>(BJ ⟨c,gl⟩ r (s.next o.dst x.1 x.2)).bind fun y=>
   some (⟨(recO ⟨l,gl⟩ (get? s.env) (look s.objs) o x.2).1,(recO ⟨l,gl⟩ (get? s.env) (look s.objs) o x.2).2,x.2.map (·.1)⟩::y.1,y.2)) (fun c=>?_) (Ru hl) fun x=>?_
  grind[S0]
  .exact Cont.bind (G:=fun c=>BJ ⟨c,gl⟩ r (s.next o.dst x.1 x.2)) (H:=fun y _=>some (⟨(recO ⟨l,gl⟩ (get? s.env) (look s.objs) o x.2).1,(recO ⟨l,gl⟩ (get? s.env) (look s.objs) o x.2).2,x.2.map (·.1)⟩::y.1,y.2)) (fun c=>rfl) (Te hl r _) fun y=>.const fun _=>rfl
theorem ZZ (hl:F.Lim l){gl:Nat->List Cell}{ops:List VOper}{chk:List (Nat×Nat)}{s:St}:Cont F l fun c=>CZ ⟨c,gl⟩ ops chk s:=by
 intro r e;unfold CZ at e |-;cases chk with
 |nil=>exact TE hl ops s r e
 |cons x y=>
  dsimp only at e |-;cases hc:BJ ⟨l,gl⟩ ops s with
  |none=>grind
  |some q=>
   rw[hc]at e;obtain⟨m,hm⟩:=Te hl ops s _ hc;refine⟨m,fun c' hcc=>?_⟩;grind
end
def ContN {α:Type}(F:Fam)(l:Ab)(n:Nat)(G:Ab->Nat->Option α):Prop:=∀r,G l n=some r->∃m,∀c',Le (F.A m) c'->∀n',n<=n'->G c' n'=some r
section
variable {F:Fam}{l:Ab}{n:Nat}
theorem ContN.of {α:Type}{G:Ab->Option α}(h:Cont F l G):ContN F l n fun c _=>G c:=fun r e=>by
 obtain⟨m,hm⟩:=h r e;exact⟨m,fun c' hc _ _=>hm c' hc⟩
theorem ContN.const {α:Type}{G:Ab->Nat->Option α}(h:∀c k,G c k=G l n):ContN F l n G:=fun r e=>⟨0,fun c' _ n' _=>(h c' n').trans e⟩
theorem ContN.bind {α γ:Type}{G:Ab->Nat->Option α}{H:α->Ab->Nat->Option γ}{K:Ab->Nat->Option γ}(hK:∀c k,K c k=(G c k).bind fun x=>H x c k)(hG:ContN F l n G)(hH:∀x,ContN F l n (H x)):ContN F l n K:=by
 intro r e;rw[hK]at e;obtain⟨x,h1,h2⟩:=qam.1 e;obtain⟨m,hm⟩:=hG x h1;obtain⟨m',hm'⟩:=hH x r h2;refine⟨max m m',fun c' hc n' hn=>?_⟩;rw[hK,hm c' ((F.mono (qaK ..)).trans hc) n' hn,qay];exact hm' c' ((F.mono (qaQ ..)).trans hc) n' hn
theorem ZN {f:Ab->Nat->St->Option (Ex×St)}(hf:∀s,ContN F l n fun c k=>f c k s):∀(j:Nat)(s:St)(r:Ex×St),iter (f l n) j s=some r->∃m,∀c',Le (F.A m) c'->∀n',n<=n'->∀j',j<=j'->iter (f c' n') j' s=some r:=by
 intro j
 induction j with
 |zero=>intro s r h;cases h
 |succ j ih=>
  intro s r h;simp only[iter]at h;cases hs:f l n s with
  |none=>grind
  |some q=>
   obtain⟨e,s1⟩:=q;obtain⟨m,hm⟩:=hf s _ hs;have stop:e≠.normal->(r=(e,s1))->∃m,∀c',Le (F.A m) c'->∀n',n<=n'->∀j',j+1<=j'->iter (f c' n') j' s=some r:=by
    intro he hr;refine⟨m,fun c' hc n' hn j' hj=>?_⟩;obtain⟨j',rfl⟩:∃i,j'=i+1:=⟨j'-1,by omega⟩;grind[iter]
   rw[hs]at h;cases e with
   |normal=>
    simp only at h;obtain⟨m2,hm2⟩:=ih s1 r h;refine⟨max m m2,fun c' hc n' hn j' hj=>?_⟩;obtain⟨j',rfl⟩:∃i,j'=i+1:=⟨j'-1,by omega⟩;simp only[iter,hm c' ((F.mono (qaK ..)).trans hc) n' hn];exact hm2 c' ((F.mono (qaQ ..)).trans hc) n' hn j' (by omega)
   |exit i=>simp_all
   |ret=>simp_all
theorem ZaY {fA fB:Ab->Nat->St->Option (Ex×St)}(hA:∀s,ContN F l n fun c k=>fA c k s)(hB:∀s,ContN F l n fun c k=>fB c k s){drops dB:List Nat}{s p q:Nat}{ag:Bool}{rows:List (List Cell)}:
 ∀(i:Nat) (st:St),ContN F l n fun c k=>Dq (fA c k) (fB c k) drops dB s ag p q rows i st:=by
 intro i
 induction i with
 |zero=>intro st;exact .const fun _ _=>rfl
 |succ i ih=>
  intro st;simp only[Dq];cases rows[i]? with
  |none=>exact .const fun _ _=>rfl
  |some row=>
   simp only;cases (row.length==s)with
   |false=>exact .const fun _ _=>rfl
   |true=>
    simp only[cond_true];cases asV ag (row.map W.c)with
    |none=>exact .const fun _ _=>rfl
    |some v=>
     simp only;refine ContN.bind (G:=fun c k=>fA c k ⟨put (put (st.scrub drops).env p (.sc (.c (.int .i64 i)))) q v,(st.scrub drops).objs⟩) (H:=fun x c k=>match x with
      |(.normal,s1)=>bif dB.all (fun k=>(look s1.objs k).isNone) then match fB c k s1 with
       |some (.normal,s2)=>Dq (fA c k) (fB c k) drops dB s ag p q rows i ⟨(st.scrub drops).env,s2.objs⟩
       |some (.exit id,s2)=>some (.exit id,⟨(st.scrub drops).env,s2.objs⟩)
       |some (.ret,s2)=>some (.ret,⟨(st.scrub drops).env,s2.objs⟩)
       |none=>none
       else none
      |_=>none) (fun c k=>?_) (hA ⟨put (put (st.scrub drops).env p (.sc (.c (.int .i64 i)))) q v,(st.scrub drops).objs⟩) fun x=>?_
     .cases fA c k ⟨put (put (st.scrub drops).env p (.sc (.c (.int .i64 i)))) q v,(st.scrub drops).objs⟩ with
      |none=>rfl
      |some x=>obtain⟨e,s1⟩:=x;cases e<;>rfl
     .obtain ⟨e,s1⟩:=x
      cases e with
      |exit _=>exact .const fun _ _=>rfl
      |ret=>exact .const fun _ _=>rfl
      |normal=>
       simp only;cases dB.all (fun k=>(look s1.objs k).isNone)with
       |false=>exact .const fun _ _=>rfl
       |true=>
        simp only[cond_true];refine ContN.bind (G:=fun c k=>fB c k s1) (H:=fun x c k=>match x with
         |(.normal,s2)=>Dq (fA c k) (fB c k) drops dB s ag p q rows i ⟨(st.scrub drops).env,s2.objs⟩
         |(.exit id,s2)=>some (Ex.exit id,⟨(st.scrub drops).env,s2.objs⟩)
         |(.ret,s2)=>some (Ex.ret,⟨(st.scrub drops).env,s2.objs⟩)) (fun c k=>?_) (hB s1) fun x=>?_
        .cases fB c k s1 with
         |none=>rfl
         |some x=>obtain⟨e,s2⟩:=x;cases e<;>rfl
        .obtain ⟨e,s2⟩:=x
         cases e with
         |normal=>exact ih _
         |exit _=>exact .const fun _ _=>rfl
         |ret=>exact .const fun _ _=>rfl
theorem QZ (hl:F.Lim l){gl:Nat->List Cell}:∀(c:VCode)(s:St),ContN F l n fun o k=>run ⟨o,gl⟩ k c s:=by
 intro c
 induction c with
 |skip=>intro s;exact .const fun _ _=>rfl
 |exit i=>intro s;exact .const fun _ _=>rfl
 |ret=>intro s;exact .const fun _ _=>rfl
 |bad=>intro s;exact .const fun _ _=>rfl
 |melt k b ih=>intro s;exact ih (s.melt k)
 |region drop ops chk live=>
  intro s;refine ContN.bind (G:=fun o _=>CZ ⟨o,gl⟩ ops chk (match drop with | []=>s | _=>s.scrub drop)) (H:=fun s' _ _=>some (Ex.normal,s'.live live)) (fun o k=>?_) (.of (ZZ hl)) fun x=>.const fun _ _=>rfl;simp only[run];cases CZ ⟨o,gl⟩ ops chk (match drop with | []=>s | _=>s.scrub drop)with
  |none=>rfl
  |some s'=>rfl
 |seq a b iha ihb=>
  intro s;refine ContN.bind (G:=fun o k=>run ⟨o,gl⟩ k a s) (H:=fun x o k=>match x with | (.normal,s')=>run ⟨o,gl⟩ k b s' | r=>some r) (fun o k=>?_) (iha s) fun x=>?_
  .simp only [run]
   cases run ⟨o,gl⟩ k a s<;>grind
  .obtain ⟨e,s'⟩:=x
   cases e with
   |normal=>simp_all
   |exit _=>exact .const fun _ _=>rfl
   |ret=>exact .const fun _ _=>rfl
 |cond c x y ihx ihy=>
  intro s;simp only[run];have hv:∀o,c.val ⟨o,gl⟩ (get? s.env)=c.val ⟨l,gl⟩ (get? s.env):=fun o=>by rfl
  simp only[hv];split
  .rename_i t _
   cases t<;>simp_all
  .exact .const fun _ _=>rfl
 |block id b ih=>
  intro s;refine ContN.bind (G:=fun o k=>run ⟨o,gl⟩ k b s) (H:=fun x _ _=>match x with | (.exit id',s')=>bif id'==id then some (.normal,s') else some (.exit id',s') | r=>some r) (fun o k=>?_) (ih s) fun x=>.const fun _ _=>rfl;simp only[run];cases run ⟨o,gl⟩ k b s<;>grind
 |loop b ih=>
  intro s r h;simp only[run]at h;obtain⟨m,hm⟩:=ZN (f:=fun o k=>run ⟨o,gl⟩ k b) ih n s r h;exact⟨m,fun c' hc n' hn=>hm c' hc n' hn n' hn⟩
 |rangeB x f s ag p q asg body iha ihb=>
  intro st;simp only[run];have hv:∀o,x.val ⟨o,gl⟩ (get? st.env)=x.val ⟨l,gl⟩ (get? st.env):=fun o=>by rfl
  simp only[hv];split
  .rename_i f' k _
   cases (f'==f&&Nat.ble 64 k)with
   |false=>exact .const fun _ _=>rfl
   |true=>
    simp only[cond_true];split
    .rename_i rows _
     cases Nat.ble rows.length HE with
     |false=>exact .const fun _ _=>rfl
     |true=>
      simp only[cond_true];exact ZaY iha ihb _ _
    .exact .const fun _ _=>rfl
  .exact .const fun _ _=>rfl
end
def Fam.one (c:Ab):Fam:=⟨fun _=>c,fun _=>Le.refl c⟩
theorem Da {gl:Nat->List Cell}{c c':Ab}(h:Le c c'){n n':Nat}(hn:n<=n'){code:VCode}{s:St}{r:Ex×St}(e:run ⟨c,gl⟩ n code s=some r):run ⟨c',gl⟩ n' code s=some r:=by
 obtain⟨m,hm⟩:=QZ (F:=.one c) (l:=c) (gl:=gl) (fun f a o r h=>⟨0,h⟩) code s r e;exact hm c' h n' hn
section
variable {T:FuncId->Option VFun}{X:Ab}{gl:Nat->List Cell}
theorem Kl:∀{n n':Nat},n<=n'->Le (BA T X gl n) (BA T X gl n'):=by
 intro n
 induction n with
 |zero=>intro n' _ f a o r h;cases h
 |succ n ih=>
  intro n' hn f a o r h;obtain⟨n',rfl⟩:∃k,n'=k+1:=⟨n'-1,by omega⟩;grind[BA,Da]
noncomputable def lim (T:FuncId->Option VFun)(X:Ab)(gl:Nat->List Cell):Ab:=fun f a o=>
 open Classical in if h : ∃r n, BA T X gl n f a o = some r then some (Classical.choose h) else none
def fam (T:FuncId->Option VFun)(X:Ab)(gl:Nat->List Cell):Fam:=⟨BA T X gl,Kl⟩
theorem RI:(fam T X gl).Lim (lim T X gl):=by
 intro f a o r h;unfold lim at h;split at h
 .rename_i hx
  cases h;exact Classical.choose_spec hx
 grind
theorem A8 {n:Nat}{f:FuncId}{a:List V}{o:List Obj}{r:V×List Obj}(h:BA T X gl n f a o=some r):lim T X gl f a o=some r:=by
 have hx:∃r n,BA T X gl n f a o=some r:=⟨r,n,h⟩;unfold lim;rw[dif_pos hx];obtain⟨n',h'⟩:=Classical.choose_spec hx;rcases Nat.le_total n n' with hn|hn
 .have:=Kl hn f a o r h
  grind
 .have:=Kl hn f a o _ h'
  grind
theorem Mw {f:FuncId}{a:List V}{o:List Obj}{r:V×List Obj}(h:lim T X gl f a o=some r):∃n,BA T X gl n f a o=some r:=RI f a o r h
def wp (C:Ctx)(c:VCode)(Q:Ex->St->Prop)(s:St):Prop:=∃n e s',run C n c s=some (e,s')/\Q e s'
def D5 (keep:Bool)(m:Nat)(rs:List VRes)(r:V×List Obj):Ex->St->Prop:=fun e s=>(∀id,e≠.exit id)/\(BS keep m rs s).map (B4 keep)=some r
theorem Yn {n f:Nat}{vf:VFun}{args:List V}{objs:List Obj}{r:V×List Obj}(hT:T f=some vf)(hn:args.length=vf.nparams)(ho:objs.length<=64)
 (h:∃e s',run ⟨BA T X gl n,gl⟩ n vf.body ⟨A2 0 args,A2 0 (objs.map some)⟩=some (e,s')/\D5 vf.keep objs.length vf.results r e s'):BA T X gl (n+1) f args objs=some r:=by
 obtain⟨e,s',h,he,hb⟩:=h;grind[qO,BA]
theorem Nu {f:FuncId}{vf:VFun}{args:List V}{objs:List Obj}{r:V×List Obj}(hT:T f=some vf)(hn:args.length=vf.nparams)(ho:objs.length<=64)
 (h:wp ⟨lim T X gl,gl⟩ vf.body (D5 vf.keep objs.length vf.results r) ⟨A2 0 args,A2 0 (objs.map some)⟩):lim T X gl f args objs=some r:=by
 obtain⟨n,e,s',h1,h2,h3⟩:=h;obtain⟨m,hm⟩:=QZ (F:=fam T X gl) RI vf.body _ _ h1;refine A8 (n:=max m n+1) (Yn hT hn ho ⟨e,s',?_,h2,h3⟩);exact hm _ (Kl (qaK ..)) _ (qaQ ..)
theorem I5 {f:FuncId}{args:List V}{objs:List Obj}{r:V×List Obj}(hT:T f=none)(h:X f args objs=some r):lim T X gl f args objs=some r:=by
 refine A8 (n:=1) ?_;grind[BA]
end
section
variable {C:Ctx}
theorem wp_mono {c:VCode}{Q R:Ex->St->Prop}{s:St}(h:wp C c Q s)(hq:∀e s,Q e s->R e s):wp C c R s:=by
 obtain⟨n,e,s',h1,h2⟩:=h;exact⟨n,e,s',h1,hq _ _ h2⟩
def FL (C:Ctx)(b:VCode)(Q:Ex->St->Prop):Ex->St->Prop
 |.normal,s=>wp C b Q s
 |.exit i,s=>Q (.exit i) s
 |.ret,s=>Q .ret s
@[simp] theorem thenQ_normal {b:VCode} {Q:Ex->St->Prop} {E:Env} {O:Objs}:FL C b Q .normal ⟨E,O⟩=wp C b Q ⟨E,O⟩:=rfl
@[simp] theorem thenQ_exit {b:VCode} {Q:Ex->St->Prop} {s:St} {i:Nat}:FL C b Q (.exit i) s=Q (.exit i) s:=rfl
@[simp] theorem thenQ_ret {b:VCode} {Q:Ex->St->Prop} {s:St}:FL C b Q .ret s=Q .ret s:=rfl
def DA (id:Nat)(Q:Ex->St->Prop):Ex->St->Prop
 |.normal,s=>Q .normal s
 |.exit i,s=>bif i==id then Q .normal s else Q (.exit i) s
 |.ret,s=>Q .ret s
@[simp] theorem blockQ_normal {id:Nat} {Q:Ex->St->Prop} {E:Env} {O:Objs}:DA id Q .normal ⟨E,O⟩=Q .normal ⟨E,O⟩:=rfl
@[simp] theorem blockQ_exit {id:Nat} {Q:Ex->St->Prop} {s:St} {i:Nat}:DA id Q (.exit i) s=bif i==id then Q .normal s else Q (.exit i) s:=rfl
@[simp] theorem blockQ_ret {id:Nat} {Q:Ex->St->Prop} {s:St}:DA id Q .ret s=Q .ret s:=rfl
@[simp] theorem wp_skip {Q:Ex->St->Prop} {s:St}:wp C .skip Q s=Q .normal s:=propext ⟨by rintro⟨n,e,s',h1,h2⟩;cases h1;exact h2,fun h=>⟨0,_,_,rfl,h⟩⟩
@[simp] theorem wp_ret {Q:Ex->St->Prop} {s:St}:wp C .ret Q s=Q .ret s:=propext ⟨by rintro⟨n,e,s',h1,h2⟩;cases h1;exact h2,fun h=>⟨0,_,_,rfl,h⟩⟩
@[simp] theorem wp_exit {Q:Ex->St->Prop} {s:St} {i:Nat}:wp C (.exit i) Q s=Q (.exit i) s:=propext ⟨by rintro⟨n,e,s',h1,h2⟩;cases h1;exact h2,fun h=>⟨0,_,_,rfl,h⟩⟩
@[simp] theorem wp_seq {a b:VCode} {Q:Ex->St->Prop} {s:St}:wp C (.seq a b) Q s=wp C a (FL C b Q) s:=by
 apply propext;constructor
 .rintro ⟨n,e,s',h1,h2⟩
  simp only[run]at h1;cases ha:run C n a s with
  |none=>rw[ha]at h1;cases h1
  |some x=>
   obtain⟨e1,s1⟩:=x;rw[ha]at h1;refine⟨n,e1,s1,ha,?_⟩;cases e1 with
   |normal=>exact⟨n,e,s',h1,h2⟩
   |exit i=>cases h1;exact h2
   |ret=>cases h1;exact h2
 .rintro ⟨n,e1,s1,h1,h2⟩
  cases e1 with
  |normal=>
   obtain⟨n2,e,s',h3,h4⟩:=h2;refine⟨max n n2,e,s',?_,h4⟩;simp only[run];have:=Da (gl:=C.gl) (c:=C.call) (Le.refl _) (qaK n n2) h1;rw[show run C (max n n2) a s=_ from this];exact Da (gl:=C.gl) (c:=C.call) (Le.refl _) (qaQ n n2) h3
  |exit i=>exact⟨n,_,s1,by simp only[run,h1],h2⟩
  |ret=>exact⟨n,_,s1,by simp only[run,h1],h2⟩
@[simp] theorem wp_block {a:VCode} {id:Nat} {Q:Ex->St->Prop} {s:St}:wp C (.block id a) Q s=wp C a (DA id Q) s:=by
 apply propext;constructor
 .rintro ⟨n,e,s',h1,h2⟩
  simp only[run]at h1;cases ha:run C n a s with
  |none=>rw[ha]at h1;cases h1
  |some x=>
   obtain⟨e1,s1⟩:=x;rw[ha]at h1;refine⟨n,e1,s1,ha,?_⟩;cases e1 with
   |normal=>cases h1;exact h2
   |exit i=>
    simp only at h1;simp only[DA];cases hi:(i==id)with
    |true=>rw[hi]at h1;cases h1;exact h2
    |false=>rw[hi]at h1;cases h1;exact h2
   |ret=>cases h1;exact h2
 .rintro ⟨n,e1,s1,h1,h2⟩
  cases e1 with
  |normal=>exact⟨n,_,s1,by simp only[run,h1],h2⟩
  |exit i=>
   simp only[DA]at h2;cases hi:(i==id)with
   |true=>rw[hi]at h2;exact⟨n,_,s1,by simp only[run,h1,hi,cond_true],h2⟩
   |false=>rw[hi]at h2;exact⟨n,_,s1,by simp only[run,h1,hi,cond_false],h2⟩
  |ret=>exact⟨n,_,s1,by simp only[run,h1],h2⟩
def KP (v:V)(p q:St->Prop)(s:St):Prop:=match v with
 |.sc (.c (.bool t))=>bif t then p s else q s
 |_=>False
@[simp] theorem condK_true {p q:St->Prop} {s:St}:KP (.sc (.c (.bool true))) p q s=p s:=rfl
@[simp] theorem condK_false {p q:St->Prop} {s:St}:KP (.sc (.c (.bool false))) p q s=q s:=rfl
@[simp] theorem wp_cond {c:Opd} {x y:VCode} {Q:Ex->St->Prop} {s:St}:wp C (.cond c x y) Q s=KP (c.val C (get? s.env)) (wp C x Q) (wp C y Q) s:=by
 apply propext;unfold wp;simp only[run];generalize c.val C (get? s.env)=v;constructor
 .rintro ⟨n,e,s',h1,h2⟩
  split at h1
  .rename_i t
   cases t with
   |true=>exact⟨n,e,s',h1,h2⟩
   |false=>exact⟨n,e,s',h1,h2⟩
  .cases h1
 .intro h
  unfold KP at h;split at h
  .rename_i t
   cases t with
   |true=>exact h
   |false=>exact h
  .exact h.elim
def EX (x:Option (V×Upd))(k:V->Upd->Prop):Prop:=match x with
 |none=>False
 |some (v,u)=>k v u
@[simp] theorem stepK_some {v:V} {u:Upd} {k:V->Upd->Prop}:EX (some (v,u)) k=k v u:=rfl
def dput (E:Env)(d:Option Nat)(v:V):Env:=match d with
 |none=>E
 |some d=>put E d v
@[simp] theorem dput_none {E:Env} {v:V}:dput E none v=E:=rfl
@[simp] theorem dput_some {E:Env} {v:V} {d:Nat}:dput E (some d) v=put E d v:=rfl
def DE (E:Env)(O:Objs)(d:Option Nat)(v:V)(u:Upd):St:=⟨dput E d v,Cm O u⟩
@[simp] theorem nextV_sc {E:Env} {O:Objs} {d:Option Nat} {w:W} {u:Upd}:DE E O d (.sc w) u=⟨dput E d (.sc w),Cm O u⟩:=rfl
@[simp] theorem nextV_ag {E:Env} {O:Objs} {d:Option Nat} {cs:List W} {u:Upd}:DE E O d (.ag cs) u=⟨dput E d (.ag cs),Cm O u⟩:=rfl
@[simp] theorem nextV_tu {E:Env} {O:Objs} {d:Option Nat} {l:List V} {u:Upd}:DE E O d (.tu l) u=⟨dput E d (.tu l),Cm O u⟩:=rfl
def wpL (C:Ctx)(ops:List VOper)(s:St)(K:St->Prop):Prop:=∃s',DU C ops s=some s'/\K s'
@[simp] theorem wpL_nil {K:St->Prop} {s:St}:wpL C [] s K=K s:=propext ⟨by rintro⟨s',h1,h2⟩;cases h1;exact h2,fun h=>⟨_,rfl,h⟩⟩
theorem O3 {s:St}{d:Option Nat}{v:V}{u:Upd}:s.next d v u=DE s.env s.objs d v u:=by cases d<;>rfl
theorem NH {K:St->Prop}{E:Env}{O:Objs}{o:VOper}{r:List VOper}:wpL C (o::r) ⟨E,O⟩ K=EX (runO C o (get? E) (look O)) fun v u=>wpL C r (DE E O o.dst v u) K:=by
 unfold wpL;simp only[PS,O3];apply propext;cases runO C o (get? E) (look O)with
 |none=>exact⟨fun⟨s',h1,_⟩=>(nomatch h1),False.elim⟩
 |some x=>exact Iff.rfl
@[simp] theorem wpL_cons {K:St->Prop} {E:Env} {O:Objs} {d:Option Nat} {op:VOp} {oid:Nat} {r:List VOper}:
 wpL C (⟨d,op,none,oid,[]⟩::r) ⟨E,O⟩ K=EX (Ae C (get? E) (look O) oid op) fun v u=>wpL C r (DE E O d v u) K:=by
 rw[NH];unfold runO;simp only;cases Ae C (get? E) (look O) oid op with
 |none=>rfl
 |some x=>rfl
@[simp] theorem wpL_own {K:St->Prop} {E:Env} {O:Objs} {d:Option Nat} {op:VOp} {oid:Nat} {x:Nat×Nat} {xs:List (Nat×Nat)} {r:List VOper}:
 wpL C (⟨d,op,none,oid,x::xs⟩::r) ⟨E,O⟩ K=EX ((Ae C (get? E) (look O) oid op).bind (ownV oid (x::xs) (look O))) fun v u=>wpL C r (DE E O d v u) K:=by
 rw[NH];unfold runO;simp only;cases Ae C (get? E) (look O) oid op with
 |none=>rfl
 |some x=>rfl
def EW (v:Option V)(want:Bool)(x:Option (V×Upd)):Option (V×Upd):=match v with
 |some (.sc (.c (.bool b)))=>bif b==want then x else some (.sc .sk,[])
 |some (.sc .sk)=>some (.sc .sk,[])
 |_=>none
@[simp] theorem guardK_sk {want:Bool} {x:Option (V×Upd)}:EW (some (.sc .sk)) want x=some (.sc .sk,[]):=rfl
@[simp] theorem guardK_tt {x:Option (V×Upd)}:EW (some (.sc (.c (.bool true)))) true x=x:=rfl
@[simp] theorem guardK_ff {x:Option (V×Upd)}:EW (some (.sc (.c (.bool false)))) false x=x:=rfl
@[simp] theorem guardK_tf {x:Option (V×Upd)}:EW (some (.sc (.c (.bool true)))) false x=some (.sc .sk,[]):=rfl
@[simp] theorem guardK_ft {x:Option (V×Upd)}:EW (some (.sc (.c (.bool false)))) true x=some (.sc .sk,[]):=rfl
theorem QQ {E:Nat->Option V}{L:Nat->Option Obj}{d:Option Nat}{op:VOp}{oid t:Nat}{want:Bool}{own:List (Nat×Nat)}:
 runO C ⟨d,op,some (t,want),oid,own⟩ E L=EW (E t) want ((Ae C E L oid op).bind (ownV oid own L)):=by
 unfold runO EW;dsimp only;cases E t with
 |none=>rfl
 |some v=>cases v with
  |sc w=>cases w with
   |c x=>cases x with
    |bool b=>dsimp only;cases Ae C E L oid op<;>rfl
    |_=>rfl
   |_=>rfl
  |_=>rfl
@[simp] theorem wpL_guard {K:St->Prop} {E:Env} {O:Objs} {d:Option Nat} {op:VOp} {oid t:Nat} {want:Bool} {own:List (Nat×Nat)} {r:List VOper}:
 wpL C (⟨d,op,some (t,want),oid,own⟩::r) ⟨E,O⟩ K=EX (EW (get? E t) want ((Ae C (get? E) (look O) oid op).bind (ownV oid own (look O)))) fun v u=>wpL C r (DE E O d v u) K:=by
 rw[NH,QQ]
@[simp] theorem ownV_nil {oid:Nat} {L:Nat->Option Obj} {r:V×Upd}:ownV oid [] L r=some r:=rfl
def wpR (C:Ctx)(ops:List VOper)(s:St)(acc:List Rec)(K:List Rec->St->Prop):Prop:=∃rs s',BJ C ops s=some (rs,s')/\K (acc++rs) s'
@[simp] theorem wpR_nil {K:List Rec->St->Prop} {s:St} {acc:List Rec}:wpR C [] s acc K=K acc s:=propext ⟨by rintro⟨rs,s',h1,h2⟩;cases h1;simpa using h2,fun h=>⟨[],_,rfl,by simpa using h⟩⟩
def FR (q:Bool×List Nat)(u:Upd):Rec:=⟨q.1,q.2,u.map (·.1)⟩
theorem L4 {K:List Rec->St->Prop}{E:Env}{O:Objs}{acc:List Rec}{o:VOper}{r:List VOper}:
 wpR C (o::r) ⟨E,O⟩ acc K=EX (runO C o (get? E) (look O)) fun v u=>wpR C r (DE E O o.dst v u) (acc++[FR (recO C (get? E) (look O) o u) u]) K:=by
 unfold wpR;simp only[S0,O3];apply propext;cases runO C o (get? E) (look O)with
 |none=>exact⟨fun⟨rs,s',h1,_⟩=>(nomatch h1),False.elim⟩
 |some x=>
  obtain⟨v,u⟩:=x;simp only[stepK_some,qay];constructor
  .rintro ⟨rs,s',h1,h2⟩
   obtain⟨y,h3,h4⟩:=qam.1 h1;cases h4;exact⟨y.1,y.2,h3,by simpa[FR]using h2⟩
  .rintro ⟨rs,s',h1,h2⟩
   rw[h1];exact⟨_,_,rfl,by simpa[FR]using h2⟩
@[simp] theorem wpR_cons {K:List Rec->St->Prop} {E:Env} {O:Objs} {acc:List Rec} {d:Option Nat} {op:VOp} {oid:Nat} {r:List VOper}:
 wpR C (⟨d,op,none,oid,[]⟩::r) ⟨E,O⟩ acc K=EX (Ae C (get? E) (look O) oid op) fun v u=>wpR C r (DE E O d v u) (acc++[FR (recO C (get? E) (look O) ⟨d,op,none,oid,[]⟩ u) u]) K:=by
 rw[L4];unfold runO;simp only;cases Ae C (get? E) (look O) oid op with
 |none=>rfl
 |some x=>rfl
@[simp] theorem wpR_own {K:List Rec->St->Prop} {E:Env} {O:Objs} {acc:List Rec} {d:Option Nat} {op:VOp} {oid:Nat} {x:Nat×Nat} {xs:List (Nat×Nat)} {r:List VOper}:
 wpR C (⟨d,op,none,oid,x::xs⟩::r) ⟨E,O⟩ acc K=EX ((Ae C (get? E) (look O) oid op).bind (ownV oid (x::xs) (look O))) fun v u=>wpR C r (DE E O d v u) (acc++[FR (true,[]) u]) K:=by
 rw[L4];unfold runO;simp only;cases Ae C (get? E) (look O) oid op with
 |none=>rfl
 |some x=>rfl
@[simp] theorem wpR_guard {K:List Rec->St->Prop} {E:Env} {O:Objs} {acc:List Rec} {d:Option Nat} {op:VOp} {oid t:Nat} {want:Bool} {own:List (Nat×Nat)} {r:List VOper}:
 wpR C (⟨d,op,some (t,want),oid,own⟩::r) ⟨E,O⟩ acc K=EX (EW (get? E t) want ((Ae C (get? E) (look O) oid op).bind (ownV oid own (look O)))) fun v u=>wpR C r (DE E O d v u) (acc++[FR (recO C (get? E) (look O) ⟨d,op,some (t,want),oid,own⟩ u) u]) K:=by
 rw[L4,QQ]
def Cs (drop:List Nat)(s:St):St:=match drop with | []=>s | _=>s.scrub drop
@[simp] theorem scrubD_nil {s:St}:Cs [] s=s:=rfl
def memN:List Nat->Nat->Bool
 |[],_=>false
 |a::l,k=>bif a==k then true else memN l k
@[simp] theorem memN_nil {k:Nat}:memN [] k=false:=rfl
@[simp] theorem memN_cons {a k:Nat} {l:List Nat}:memN (a::l) k=bif a==k then true else memN l k:=rfl
theorem GD:∀(l:List Nat)(k:Nat),l.contains k=memN l k
 |[],k=>rfl
 |a::l,k=>by
  rw[memN_cons,List.contains_cons,GD l k,Bool.beq_comm];cases a==k<;>rfl
def Fi (ts:List Nat):Env->Env
 |[]=>[]
 |(t,v)::r=>bif memN ts t then (t,v)::Fi ts r else Fi ts r
@[simp] theorem keepE_nil {ts:List Nat}:Fi ts []=[]:=rfl
@[simp] theorem keepE_cons {ts:List Nat} {t:Nat} {v:V} {r:Env}:Fi ts ((t,v)::r)=bif memN ts t then (t,v)::Fi ts r else Fi ts r:=rfl
theorem QA (ts:List Nat):∀E:Env,(E.filter fun x=>ts.contains x.1)=Fi ts E
 |[]=>rfl
 |(t,v)::r=>by
  rw[keepE_cons,List.filter_cons,GD,QA ts r];cases memN ts t<;>rfl
def renE (ks:List Nat):Env->Env
 |[]=>[]
 |(t,v)::r=>(t,v.ren (Bx ks))::renE ks r
@[simp] theorem renE_nil {ts:List Nat}:renE ts []=[]:=rfl
@[simp] theorem renE_cons {ts:List Nat} {t:Nat} {v:V} {r:Env}:renE ts ((t,v)::r)=(t,v.ren (Bx ts))::renE ts r:=rfl
def anyO (ks:List Nat):Objs->Bool
 |[]=>false
 |(_,none)::r=>anyO ks r
 |(k,some _)::r=>bif memN ks k then true else anyO ks r
@[simp] theorem anyO_nil {ks:List Nat}:anyO ks []=false:=rfl
@[simp] theorem anyO_none {ks:List Nat} {k:Nat} {r:Objs}:anyO ks ((k,none)::r)=anyO ks r:=rfl
@[simp] theorem anyO_some {ks:List Nat} {k:Nat} {o:Obj} {r:Objs}:anyO ks ((k,some o)::r)=bif memN ks k then true else anyO ks r:=rfl
def FJ (ks:List Nat):Objs->Objs
 |[]=>[]
 |(k,o)::r=>bif memN ks k then FJ ks r else (k,o.map (Obj.ren (Bx ks)))::FJ ks r
@[simp] theorem dropO_nil {ks:List Nat}:FJ ks []=[]:=rfl
@[simp] theorem dropO_cons {ks:List Nat} {k:Nat} {o:Option Obj} {r:Objs}:FJ ks ((k,o)::r)=bif memN ks k then FJ ks r else (k,o.map (Obj.ren (Bx ks)))::FJ ks r:=rfl
theorem LD (ks:List Nat):∀O:Objs,(O.any fun x=>x.2.isSome&&ks.contains x.1)=anyO ks O
 |[]=>rfl
 |(k,none)::r=>by rw[anyO_none,List.any_cons,LD ks r];rfl
 |(k,some o)::r=>by
  rw[anyO_some,List.any_cons,LD ks r,GD];cases memN ks k<;>rfl
theorem SS (ks:List Nat):∀O:Objs,((O.filter fun x=>!ks.contains x.1).map fun x=>(x.1,x.2.map (Obj.ren (Bx ks))))=FJ ks O
 |[]=>rfl
 |(k,o)::r=>by
  rw[dropO_cons,List.filter_cons,GD,<-SS ks r];cases memN ks k<;>rfl
theorem Tw (ks:List Nat):∀E:Env,(E.map fun x=>(x.1,x.2.ren (Bx ks)))=renE ks E
 |[]=>rfl
 |(t,v)::r=>by rw[renE_cons,qv,Tw ks r]
@[simp] theorem scrubD_cons {k:Nat} {ks:List Nat} {E:Env} {O:Objs}:Cs (k::ks) ⟨E,O⟩=bif anyO (k::ks) O then ⟨renE (k::ks) E,FJ (k::ks) O⟩ else ⟨E,O⟩:=by
 rw[<-LD,<-Tw,<-SS];rfl
@[simp] theorem live_nil {s:St}:St.live [] s=s:=rfl
@[simp] theorem live_cons {k:Nat} {ks:List Nat} {E:Env} {O:Objs}:St.live (k::ks) ⟨E,O⟩=⟨Fi (k::ks) E,O⟩:=by
 rw[<-QA];rfl
def nthR:List Rec->Nat->Rec
 |[],_=>⟨true,[0],[0]⟩
 |a::_,0=>a
 |_::l,k+1=>nthR l k
@[simp] theorem nthR_zero {a:Rec} {l:List Rec}:nthR (a::l) 0=a:=rfl
@[simp] theorem nthR_succ {a:Rec} {l:List Rec} {k:Nat}:nthR (a::l) (k+1)=nthR l k:=rfl
def DX:List Nat->List Nat->Prop
 |[],_=>True
 |a::l,m=>memN m a=false/\DX l m
@[simp] theorem apartN_nil {m:List Nat}:DX [] m=True:=rfl
@[simp] theorem apartN_cons {a:Nat} {l m:List Nat}:DX (a::l) m=(memN m a=false/\DX l m):=rfl
theorem OQ:∀{l m:List Nat},apart l m=true↔DX l m
 |[],m=>by simp[apart]
 |a::l,m=>by
  have:=@OQ l m;unfold apart at this |-;rw[qa0,qe,this,GD,qaA];rfl
def Fj (a b:Rec):Prop:=a.touch=false\/b.touch=false\/(a.all=false/\b.all=false/\DX a.reads b.keys/\DX b.reads a.keys/\DX a.keys b.keys)
theorem VV {a b:Rec}:EO a b=true↔Fj a b:=by
 unfold EO Fj;simp only[qar,qe,qaA,OQ];constructor
 .rintro ((h|h)|h)
  .exact .inl h
  .exact .inr (.inl h)
  .exact .inr (.inr ⟨h.1.1.1.1,h.1.1.1.2,h.1.1.2,h.1.2,h.2⟩)
 .rintro (h|h|⟨h1,h2,h3,h4,h5⟩)
  .exact .inl (.inl h)
  .exact .inl (.inr h)
  .exact .inr ⟨⟨⟨⟨h1,h2⟩,h3⟩,h4⟩,h5⟩
@[simp] theorem indepP_left {b:Rec}:Fj ⟨false,[],[]⟩ b=True:=eq_true (.inl rfl)
@[simp] theorem indepP_right {a:Rec}:Fj a ⟨false,[],[]⟩=True:=eq_true (.inr (.inl rfl))
theorem VA {r1 k1 r2 k2:List Nat}:Fj ⟨false,r1,k1⟩ ⟨false,r2,k2⟩=((r1=[]/\k1=[])\/(r2=[]/\k2=[])\/(DX r1 k2/\DX r2 k1/\DX k1 k2)):=by
 simp only[Fj,Rec.touch,Bool.false_or,Bool.or_eq_false_iff,Bool.not_eq_false',qa5,true_and]
attribute [simp] VA
def chkP (rs:List Rec):List (Nat×Nat)->Prop
 |[]=>True
 |(i,j)::r=>Fj (nthR rs i) (nthR rs j)/\chkP rs r
@[simp] theorem chkP_nil {rs:List Rec}:chkP rs []=True:=rfl
@[simp] theorem chkP_cons {rs:List Rec} {i j:Nat} {r:List (Nat×Nat)}:chkP rs ((i,j)::r)=(Fj (nthR rs i) (nthR rs j)/\chkP rs r):=rfl
theorem M4:∀{rs:List Rec}{i:Nat},i<rs.length->rs[i]?=some (nthR rs i)
 |[],i,h=>by simp at h
 |a::l,0,_=>rfl
 |a::l,k+1,h=>by simpa using M4 (rs:=l) (i:=k) (by simpa using h)
def Ep (n:Nat):List (Nat×Nat)->Bool
 |[]=>true
 |(i,j)::r=>Nat.blt i n&&Nat.blt j n&&Ep n r
theorem NN {rs:List Rec}:∀{chk:List (Nat×Nat)},Ep rs.length chk=true->(CN rs chk=true↔chkP rs chk)
 |[],_=>by simp[CN]
 |(i,j)::r,h=>by
  simp only[Ep,qe]at h;have hi:i<rs.length:=qi h.1.1;have hj:j<rs.length:=qi h.1.2;have:=@NN rs r h.2;unfold CN at this |-;rw[qa0,qe,this,chkP_cons,<-VV];simp only[M4 hi,M4 hj]
theorem OA {n:Nat}{drop:List Nat}{ops:List VOper}{chk:List (Nat×Nat)}{live:List Nat}{s:St}:run C n (.region drop ops chk live) s=(CZ C ops chk (Cs drop s)).bind fun s'=>some (.normal,s'.live live):=by
 have hd:(match drop with | []=>s | _=>s.scrub drop)=Cs drop s:=rfl;cases drop with
 |nil=>simp only[run,Cs];cases CZ C ops chk s<;>rfl
 |cons k ks=>simp only[run,Cs];cases CZ C ops chk (s.scrub (k::ks))<;>rfl
@[simp] theorem wp_region {drop:List Nat} {ops:List VOper} {live:List Nat} {Q:Ex->St->Prop} {s:St}:wp C (.region drop ops [] live) Q s=wpL C ops (Cs drop s) fun s'=>Q .normal (s'.live live):=by
 apply propext;unfold wp wpL;simp only[OA,CZ];constructor
 .rintro ⟨n,e,s',h1,h2⟩
  obtain⟨y,h3,h4⟩:=qam.1 h1;cases h4;exact⟨y,h3,h2⟩
 .rintro ⟨s',h1,h2⟩
  rw[h1];exact⟨0,_,_,rfl,h2⟩
@[simp] theorem wp_regionR {drop:List Nat} {ops:List VOper} {p:Nat×Nat} {chk:List (Nat×Nat)} {live:List Nat} {Q:Ex->St->Prop} {s:St}:
 wp C (.region drop ops (p::chk) live) Q s=wpR C ops (Cs drop s) [] fun rs s'=>CN rs (p::chk)=true/\Q .normal (s'.live live):=by
 apply propext;unfold wp wpR;simp only[OA,CZ];cases BJ C ops (Cs drop s)with
 |none=>exact⟨fun⟨n,e,s',h1,_⟩=>(nomatch h1),fun⟨rs,s',h1,_⟩=>(nomatch h1)⟩
 |some q=>
  obtain⟨rs,s2⟩:=q;simp only[qae];constructor
  .rintro ⟨n,e,s',h1,h2⟩
   cases hc:CN rs (p::chk)with
   |false=>rw[hc]at h1;cases h1
   |true=>rw[hc]at h1;cases h1;exact⟨rs,_,rfl,hc,h2⟩
  .rintro ⟨rs',s',h1,h2,h3⟩
   cases h1;rw[h2];exact⟨0,_,_,rfl,h3⟩
@[simp] theorem chkOk_nil {rs:List Rec}:CN rs []=true:=rfl
@[simp] theorem chkOk_cons {a:Rec} {rs:List Rec} {p:Nat×Nat} {chk:List (Nat×Nat)}:(CN (a::rs) (p::chk)=true)=(Ep (rs.length+1) (p::chk)=true/\chkP (a::rs) (p::chk)):=by
 apply propext;constructor
 .intro h
  have:Ep (rs.length+1) (p::chk)=true:=by
   have key:∀(rs:List Rec) (chk:List (Nat×Nat)),CN rs chk=true->Ep rs.length chk=true:=by
    intro rs chk
    induction chk with
    |nil=>intro _;rfl
    |cons q r ih=>
     obtain⟨i,j⟩:=q;intro h;unfold CN at h;rw[qa0,qe]at h;have h2:=ih h.2;simp only[Ep,h2,Bool.and_true,qe];have h1:=h.1;simp only at h1;split at h1
     .rename_i a b ha hb
      exact⟨qO (qf.1 ha).1,qO (qf.1 hb).1⟩
     .cases h1
   exact key (a::rs) (p::chk) h
  exact⟨this,(NN (rs:=a::rs) this).1 h⟩
 .exact fun h=>(NN (rs:=a::rs) h.1).2 h.2
@[simp] theorem chkIn_nil {n:Nat}:Ep n []=true:=rfl
@[simp] theorem chkIn_cons {n i j:Nat} {r:List (Nat×Nat)}:Ep n ((i,j)::r)=(Nat.blt i n&&Nat.blt j n&&Ep n r):=rfl
theorem Aq {b:VCode}{Q:Ex->St->Prop}{s:St}(S:Nat->St)(m:Nat)(h0:s=S 0)(round:∀i,i<m->wp C b (fun e s=>e=.normal/\s=S (i+1)) (S i))(stop:wp C b (fun e s=>e≠.normal/\Q e s) (S m)):wp C (.loop b) Q s:=by
 subst h0;obtain⟨n0,e,s',h1,h2,h3⟩:=stop;have key:∀k,k<=m->∃n,∀n',n<=n'->∀j,k+1<=j->iter (run C n' b) j (S (m-k))=some (e,s'):=by
  intro k
  induction k with
  |zero=>
   intro _;refine⟨n0,fun n' hn j hj=>?_⟩;obtain⟨j,rfl⟩:∃i,j=i+1:=⟨j-1,by omega⟩;have h:=Da (gl:=C.gl) (c:=C.call) (Le.refl _) hn h1;simp only[Nat.sub_zero,iter,show run C n' b (S m)=_ from h];cases e with
   |normal=>exact absurd rfl h2
   |exit _=>rfl
   |ret=>rfl
  |succ k ih=>
   intro hk;obtain⟨n,hn⟩:=ih (by omega);obtain⟨n2,e2,s2,h4,rfl,rfl⟩:=round (m-(k+1)) (by omega);refine⟨max n n2,fun n' hn' j hj=>?_⟩;obtain⟨j,rfl⟩:∃i,j=i+1:=⟨j-1,by omega⟩;have h:=Da (gl:=C.gl) (c:=C.call) (Le.refl _) (qr (qaQ n n2) hn') h4;simp only[iter,show run C n' b (S (m-(k+1)))=_ from h];rw[show m-(k+1)+1=m-k by omega];exact hn n' (qr (qaK ..) hn') j (by omega)
 obtain⟨n,hn⟩:=key m (qg _);refine⟨max n (m+1),e,s',?_,h3⟩;simp only[run];have:=hn (max n (m+1)) (qaK ..) (max n (m+1)) (qaQ ..);rw[qaN]at this;exact this
@[simp] theorem doneQ_ret {keep:Bool} {m:Nat} {rs:List VRes} {r:V×List Obj} {s:St}:D5 keep m rs r .ret s=((BS keep m rs s).map (B4 keep)=some r):=by simp[D5]
@[simp] theorem doneQ_normal {keep:Bool} {m:Nat} {rs:List VRes} {r:V×List Obj} {s:St}:D5 keep m rs r .normal s=((BS keep m rs s).map (B4 keep)=some r):=by simp[D5]
end
section
variable {C:Ctx}{E:Nat->Option V}{L:Nat->Option Obj}{oid:Nat}
@[simp] theorem get?_nil {α:Type} {k:Nat}:get? ([]:List (Nat×α)) k=none:=rfl
@[simp] theorem get?_cons {α:Type} {j k:Nat} {a:α} {r:List (Nat×α)}:get? ((j,a)::r) k=bif j==k then some a else get? r k:=rfl
@[simp] theorem put_nil {α:Type} {k:Nat} {a:α}:put ([]:List (Nat×α)) k a=[(k,a)]:=rfl
@[simp] theorem put_cons {α:Type} {j k:Nat} {a b:α} {r:List (Nat×α)}:put ((j,b)::r) k a=bif j==k then (j,a)::r else (j,b)::put r k a:=rfl
@[simp] theorem look_eq {O:Objs} {k:Nat}:look O k=(get? O k).join:=rfl
@[simp] theorem putAll_nil {O:Objs}:Cm O []=O:=rfl
@[simp] theorem putAll_cons {O:Objs} {k:Nat} {x:Option Obj} {r:Upd}:Cm O ((k,x)::r)=Cm (put O k x) r:=rfl
@[simp] theorem updL_nil:updL L []=L:=rfl
@[simp] theorem updL_cons {k:Nat} {x:Option Obj} {r:Upd}:updL L ((k,x)::r)=updL (updO L k x) r:=rfl
@[simp] theorem updO_eq {k j:Nat} {x:Option Obj}:updO L k x j=bif j==k then x else L j:=rfl
@[simp] theorem enumF_nil {α:Type} {i:Nat}:A2 i ([]:List α)=[]:=rfl
@[simp] theorem enumF_cons {α:Type} {i:Nat} {x:α} {r:List α}:A2 i (x::r)=(i,x)::A2 (i+1) r:=rfl
@[simp] theorem val_t {n:Nat}:Opd.val C E (.t n)=(E n).getD (.sc .un):=rfl
@[simp] theorem val_k {v:V}:Opd.val C E (.k v)=v:=rfl
@[simp] theorem val_g {n:Nat}:Opd.val C E (.g n)=.sc (.c (.ro (C.gl n) 0)):=rfl
@[simp] theorem listM_nil {α β:Type} {f:α->Option β}:Ad f []=some []:=rfl
def I4 {β:Type}(x:Option β)(l:Option (List β)):Option (List β):=match x with
 |none=>none
 |some b=>match l with
  |none=>none
  |some l=>some (b::l)
@[simp] theorem consM_some {β:Type} {b:β} {l:List β}:I4 (some b) (some l)=some (b::l):=rfl
@[simp] theorem listM_cons {α β:Type} {f:α->Option β} {a:α} {r:List α}:Ad f (a::r)=I4 (f a) (Ad f r):=by
 rfl
attribute [simp] RZ Iy K4 Rs
def wc (row:List Cell):List W:=row.map W.c
def wr (rows:List (List Cell)):List (List W):=rows.map wc
@[simp] theorem wc_nil:wc []=[]:=rfl
@[simp] theorem wc_cons (x:Cell) (r:List Cell):wc (x::r)=.c x::wc r:=rfl
@[simp] theorem wc_len (r:List Cell):(wc r).length=r.length:=by simp[wc]
@[simp] theorem wc_notUn (r:List Cell):(wc r).all Am=true:=Zci r
@[simp] theorem wc_toC (L:Nat->Option Obj) (d:Nat) (r:List Cell):Ad (W.toC L d) (wc r)=some r:=Mi L d r
@[simp] theorem wc_ids (L:Nat->Option Obj) (d:Nat) (r:List Cell):(wc r).flatMap (W.ids L d)=[]:=UN r L d
@[simp] theorem wc_refs (d:Nat) (r:List Cell):(wc r).flatMap (W.refs d)=[]:=Zq r d
@[simp] theorem wc_ren (ρ:Nat->Option Nat) (d:Nat) (r:List Cell):(wc r).map (W.ren ρ d)=wc r:=YX r ρ d
@[simp] theorem wr_len (rows:List (List Cell)):(wr rows).length=rows.length:=by simp[wr]
@[simp] theorem wr_nil:wr []=[]:=rfl
@[simp] theorem wr_cons (r:List Cell) (rows:List (List Cell)):wr (r::rows)=wc r::wr rows:=rfl
@[simp] theorem wr_get (rows:List (List Cell)) (i:Nat):(wr rows)[i]?=(rows[i]?).map wc:=by simp[wr]
@[simp] theorem wr_toC (L:Nat->Option Obj) (d:Nat) (rows:List (List Cell)):Ad (Ad (W.toC L d)) (wr rows)=some rows:=Tl L d rows
@[simp] theorem wr_ids (L:Nat->Option Obj) (d:Nat) (rows:List (List Cell)):(wr rows).flatMap (fun r=>r.flatMap (W.ids L d))=[]:=VR L d rows
@[simp] theorem toC_nil {d:Nat}:W.toC L d .nil=some (.sl []):=by cases d<;>rfl
@[simp] theorem toC_full {d:Nat} {rows:List (List Cell)}:W.toC L d (.full rows)=some (.sl rows):=by cases d<;>rfl
@[simp] theorem toC_e0 {d:Nat} {b:Bool}:W.toC L d (.e0 b)=some (.sl []):=by cases d<;>rfl
@[simp] theorem ids_nil {d:Nat}:W.ids L d .nil=[]:=by cases d<;>rfl
@[simp] theorem ids_full {d:Nat} {rows:List (List Cell)}:W.ids L d (.full rows)=[]:=by cases d<;>rfl
@[simp] theorem ids_e0 {d:Nat} {b:Bool}:W.ids L d (.e0 b)=[]:=by cases d<;>rfl
@[simp] theorem ren_nil {ρ:Nat->Option Nat} {d:Nat}:W.ren ρ d .nil=.nil:=by cases d<;>rfl
@[simp] theorem ren_full {ρ:Nat->Option Nat} {d:Nat} {rows:List (List Cell)}:W.ren ρ d (.full rows)=.full rows:=by cases d<;>rfl
@[simp] theorem ren_e0 {ρ:Nat->Option Nat} {d:Nat} {b:Bool}:W.ren ρ d (.e0 b)=.e0 b:=by cases d<;>rfl
@[simp] theorem ren_sk {ρ:Nat->Option Nat} {d:Nat}:W.ren ρ d .sk=.sk:=by cases d<;>rfl
@[simp] theorem ren_un {ρ:Nat->Option Nat} {d:Nat}:W.ren ρ d .un=.un:=by cases d<;>rfl
def reN (x:Option Nat)(f:Nat->W):W:=match x with | some j=>f j | none=>.un
@[simp] theorem reN_some {j:Nat} {f:Nat->W}:reN (some j) f=f j:=rfl
@[simp] theorem reN_none {f:Nat->W}:reN none f=.un:=rfl
@[simp] theorem ren_arr {ρ:Nat->Option Nat} {d k n:Nat}:W.ren ρ d (.arr k n)=reN (ρ k) fun j=>.arr j n:=by cases d<;>rfl
@[simp] theorem ren_vw {ρ:Nat->Option Nat} {d k N lo n:Nat}:W.ren ρ d (.vw k N lo n)=reN (ρ k) fun j=>.vw j N lo n:=by cases d<;>rfl
@[simp] theorem ren_ptr {ρ:Nat->Option Nat} {d k o:Nat}:W.ren ρ d (.ptr k o)=reN (ρ k) fun j=>.ptr j o:=by cases d<;>rfl
@[simp] theorem ren_el {ρ:Nat->Option Nat} {d k N i o:Nat}:W.ren ρ d (.el k N i o)=reN (ρ k) fun j=>.el j N i o:=by cases d<;>rfl
@[simp] theorem dropR_eq {ks:List Nat} {k:Nat}:Bx ks k=bif memN ks k then none else some k:=by rw[<-GD];rfl
@[simp] theorem indexIn_nil {k:Nat}:AN [] k=none:=rfl
@[simp] theorem indexIn_cons {j k:Nat} {r:List Nat}:AN (j::r) k=bif j==k then some 0 else (AN r k).map (· + 1):=rfl
@[simp] theorem refs_arr {d k n:Nat}:W.refs d (.arr k n)=[k]:=by cases d<;>rfl
@[simp] theorem refs_vw {d k N lo n:Nat}:W.refs d (.vw k N lo n)=[k]:=by cases d<;>rfl
@[simp] theorem refs_ptr {d k o:Nat}:W.refs d (.ptr k o)=[k]:=by cases d<;>rfl
@[simp] theorem refs_el {d k N i o:Nat}:W.refs d (.el k N i o)=[k]:=by cases d<;>rfl
@[simp] theorem refs_nil {d:Nat}:W.refs d .nil=[]:=by cases d<;>rfl
@[simp] theorem refs_full {d:Nat} {rows:List (List Cell)}:W.refs d (.full rows)=[]:=by cases d<;>rfl
@[simp] theorem refs_e0 {d:Nat} {b:Bool}:W.refs d (.e0 b)=[]:=by cases d<;>rfl
def arrK {α:Type}(x:Option Obj)(k:Nat->List (List W)->Nat->Option α):Option α:=match x with
 |some (.arr s rows p)=>k s rows p
 |_=>none
@[simp] theorem arrK_some {α:Type} {s p:Nat} {rows:List (List W)} {k:Nat->List (List W)->Nat->Option α}:arrK (some (.arr s rows p)) k=k s rows p:=rfl
def boxK {α:Type}(x:Option Obj)(k:List W->Option α):Option α:=match x with
 |some (.box cells)=>k cells
 |_=>none
@[simp] theorem boxK_some {α:Type} {cells:List W} {k:List W->Option α}:boxK (some (.box cells)) k=k cells:=rfl
def AS {α γ:Type}(x:Option α)(k:α->Option γ):Option γ:=match x with
 |some a=>k a
 |none=>none
@[simp] theorem bindK_some {α γ:Type} {a:α} {k:α->Option γ}:AS (some a) k=k a:=rfl
@[simp] theorem toC_arr {d k n:Nat}:W.toC L (d+1) (.arr k n)=arrK (L k) fun _ rows _=>bif rows.length==n then (Ad (Ad (W.toC L d)) rows).map .sl else none:=by
 rfl
@[simp] theorem deep_eq:deep=4:=rfl
end
section
variable {C:Ctx}{E:Nat->Option V}{L:Nat->Option Obj}{oid:Nat}
@[simp] theorem x_mv {x:Opd}:Ae C E L oid (.mv x)=some (x.val C E,[]):=rfl
def Uk (c a b:V):Option (V×Upd):=match c with
 |.sc (.c (.bool t))=>some (bif t then a else b,[])
 |_=>none
@[simp] theorem pickK_bool {t:Bool} {a b:V}:Uk (.sc (.c (.bool t))) a b=some (bif t then a else b,[]):=rfl
@[simp] theorem x_pick {c a b:Opd}:Ae C E L oid (.pick c a b)=Uk (c.val C E) (a.val C E) (b.val C E):=by
 rfl
def binV (op:BinOp)(tag:Nat)(x y:V):Option (V×Upd):=match x,y with
 |.sc a,.sc b=>(binW op tag a b).map fun r=>(.sc (.c r),[])
 |_,_=>none
@[simp] theorem x_bin {op:BinOp} {tag:Nat} {x y:Opd}:Ae C E L oid (.bin op tag x y)=binV op tag (x.val C E) (y.val C E):=by
 rfl
@[simp] theorem b_add {k:IntKind} {a b:Int}:binV .add 0 (.sc (.c (.int k a))) (.sc (.c (.int k b)))=some (.sc (.c (.int k (k.wrap (a+b)))),[]):=by simp[binV,binW,Bq,B7,Cr]
@[simp] theorem b_sub {k:IntKind} {a b:Int}:binV .sub 0 (.sc (.c (.int k a))) (.sc (.c (.int k b)))=some (.sc (.c (.int k (k.wrap (a-b)))),[]):=by simp[binV,binW,Bq,B7,Cr]
@[simp] theorem b_mul {k:IntKind} {a b:Int}:binV .mul 0 (.sc (.c (.int k a))) (.sc (.c (.int k b)))=some (.sc (.c (.int k (k.wrap (a*b)))),[]):=by simp[binV,binW,Bq,B7,Cr]
@[simp] theorem b_eql {k:IntKind} {a b:Int}:binV .eql 0 (.sc (.c (.int k a))) (.sc (.c (.int k b)))=some (.sc (.c (.bool (decide (a=b)))),[]):=by simp[binV,binW,Bq,B7];rw[qaE];simp
@[simp] theorem b_neq {k:IntKind} {a b:Int}:binV .neq 0 (.sc (.c (.int k a))) (.sc (.c (.int k b)))=some (.sc (.c (.bool !decide (a=b))),[]):=by simp[binV,binW,Bq,B7];rw[qaE];simp
@[simp] theorem b_lss {k:IntKind} {a b:Int}:binV .lss 0 (.sc (.c (.int k a))) (.sc (.c (.int k b)))=some (.sc (.c (.bool (decide (a<b)))),[]):=by simp[binV,binW,Bq,B7]
@[simp] theorem b_leq {k:IntKind} {a b:Int}:binV .leq 0 (.sc (.c (.int k a))) (.sc (.c (.int k b)))=some (.sc (.c (.bool (decide (a<=b)))),[]):=by simp[binV,binW,Bq,B7]
@[simp] theorem b_gtr {k:IntKind} {a b:Int}:binV .gtr 0 (.sc (.c (.int k a))) (.sc (.c (.int k b)))=some (.sc (.c (.bool (decide (b<a)))),[]):=by simp[binV,binW,Bq,B7]
@[simp] theorem b_geq {k:IntKind} {a b:Int}:binV .geq 0 (.sc (.c (.int k a))) (.sc (.c (.int k b)))=some (.sc (.c (.bool (decide (b<=a)))),[]):=by simp[binV,binW,Bq,B7]
@[simp] theorem b_seql {a b:List UInt8}:binV .eql 0 (.sc (.c (.str a))) (.sc (.c (.str b)))=some (.sc (.c (.bool (decide (a=b)))),[]):=by simp[binV,binW,FN];rw[qaE];simp
@[simp] theorem b_sneq {a b:List UInt8}:binV .neq 0 (.sc (.c (.str a))) (.sc (.c (.str b)))=some (.sc (.c (.bool !decide (a=b))),[]):=by simp[binV,binW,FN];rw[qaE];simp
@[simp] theorem b_sadd {a b:List UInt8} (h:a.length+b.length<=9223372036854775807):binV .add 0 (.sc (.c (.str a))) (.sc (.c (.str b)))=some (.sc (.c (.str (a++b))),[]):=by simp[binV,binW,FN,h]
@[simp] theorem b_beql {a b:Bool}:binV .eql 1 (.sc (.c (.bool a))) (.sc (.c (.bool b)))=some (.sc (.c (.bool (a==b))),[]):=rfl
@[simp] theorem b_bneq {a b:Bool}:binV .neq 1 (.sc (.c (.bool a))) (.sc (.c (.bool b)))=some (.sc (.c (.bool !(a==b))),[]):=rfl
def unV (op:UnOp)(x:V):Option (V×Upd):=match x with
 |.sc a=>(unW op a).map fun r=>(.sc (.c r),[])
 |_=>none
@[simp] theorem x_un {op:UnOp} {x:Opd}:Ae C E L oid (.un op x)=unV op (x.val C E):=by
 rfl
@[simp] theorem unV_not {b:Bool}:unV .not (.sc (.c (.bool b)))=some (.sc (.c (.bool !b)),[]):=rfl
@[simp] theorem unV_neg {k:IntKind} {a:Int}:unV .neg (.sc (.c (.int k a)))=some (.sc (.c (.int k (k.wrap (0-a)))),[]):=rfl
def newK (x:Option Obj)(r:Option (V×Upd)):Option (V×Upd):=match x with
 |some _=>none
 |none=>r
@[simp] theorem newK_none {r:Option (V×Upd)}:newK none r=r:=rfl
@[simp] theorem ownW_cells_nil {own:List (Nat×Nat)} {j:Nat}:ownW oid own j []=([],[]):=rfl
theorem NT:∀(cells:List W)(j:Nat),ownW oid [] j cells=(cells,[]):=by
 intro cells
 induction cells with
 |nil=>simp
 |cons w r ih=>
  intro j;simp only[ownW,ih,get?]
attribute [simp] NT
@[simp] theorem x_new {cells:List W}:Ae C E L oid (.new cells [])=newK (L oid) (some (.sc (.ptr oid 0),[(oid,some (.box cells))])):=by
 simp only[Ae,NT,newK];cases L oid<;>rfl
def boxV (L:Nat->Option Obj)(oid:Nat)(x:V):Option (V×Upd):=match x with
 |.sc w=>newK (L oid) (bif Am w then some (.sc (.ptr oid 0),[(oid,some (.box [w]))]) else none)
 |.ag cs=>newK (L oid) (bif cs.all Am then some (.sc (.ptr oid 0),[(oid,some (.box cs))]) else none)
 |.tu _=>none
@[simp] theorem x_box {x:Opd}:Ae C E L oid (.box x)=boxV L oid (x.val C E):=by
 simp only[Ae,boxV,newK];cases x.val C E<;>cases L oid<;>rfl
@[simp] theorem boxV_sc {w:W}:boxV L oid (.sc w)=newK (L oid) (bif Am w then some (.sc (.ptr oid 0),[(oid,some (.box [w]))]) else none):=rfl
@[simp] theorem boxV_ag {cs:List W}:boxV L oid (.ag cs)=newK (L oid) (bif cs.all Am then some (.sc (.ptr oid 0),[(oid,some (.box cs))]) else none):=rfl
@[simp] theorem notUn_c {x:Cell}:Am (.c x)=true:=rfl
@[simp] theorem notUn_nil:Am .nil=true:=rfl
@[simp] theorem notUn_arr {k n:Nat}:Am (.arr k n)=true:=rfl
@[simp] theorem notUn_ptr {k n:Nat}:Am (.ptr k n)=true:=rfl
@[simp] theorem notUn_full {rows:List (List Cell)}:Am (.full rows)=true:=rfl
@[simp] theorem notUn_e0 {b:Bool}:Am (.e0 b)=true:=rfl
def Cz (n:Nat)(v:V):Option (List W):=match v with
 |.tu _=>none
 |.sc w=>bif n==1&&Am w then some [w] else none
 |.ag cs=>bif cs.length==n&&cs.all Am then some cs else none
@[simp] theorem pieceOf_sc {n:Nat} {w:W}:Cz n (.sc w)=bif n==1&&Am w then some [w] else none:=rfl
@[simp] theorem pieceOf_ag {n:Nat} {cs:List W}:Cz n (.ag cs)=bif cs.length==n&&cs.all Am then some cs else none:=rfl
theorem IT (n:Nat)(v:V):(match v with
 |.tu _=>none
 |v=>bif v.cells.length==n&&v.cells.all Am then some v.cells else none)=Cz n v:=by
 cases v<;>grind[V.cells,Cz]
theorem Lb {α β:Type}{f g:α->Option β}{l:List α}(h:∀x,f x=g x):Ad f l=Ad g l:=by rw[funext h]
def NB (zero:List W)(ps:Option (List (Nat×List W))):Option (V×Upd):=match ps with
 |none=>none
 |some ps=>(BR zero ps).map fun cs=>(.ag cs,[])
@[simp] theorem fillK_some {zero:List W} {ps:List (Nat×List W)}:NB zero (some ps)=(BR zero ps).map fun cs=>(.ag cs,[]):=rfl
@[simp] theorem x_build {zero:List W} {parts:List (Nat×Nat×Opd)}:Ae C E L oid (.build zero parts)=NB zero (Ad (fun(x:Nat×Nat×Opd)=>(Cz x.2.1 (x.2.2.val C E)).map fun cs=>(x.1,cs)) parts):=by
 simp only[Ae,NB];rw[Lb (g:=fun(x:Nat×Nat×Opd)=>(Cz x.2.1 (x.2.2.val C E)).map fun cs=>(x.1,cs)) fun x=>?_]
 .generalize Ad (fun (x:Nat × Nat × Opd)=>(Cz x.2.1 (x.2.2.val C E)).map fun cs=>(x.1,cs)) parts=y
  cases y<;>rfl
 .rw [<-IT]
  cases x.2.2.val C E with
  |tu l=>rfl
  |ag cs=>simp only;cases (V.ag cs).cells.length==x.2.1&&(V.ag cs).cells.all Am<;>rfl
  |sc w=>simp only;cases (V.sc w).cells.length==x.2.1&&(V.sc w).cells.all Am<;>rfl
@[simp] theorem fillW_nil {cells:List W}:BR cells []=some cells:=rfl
@[simp] theorem fillW_cons {cells xs:List W} {off:Nat} {r:List (Nat×List W)}:BR cells ((off,xs)::r)=AS (splice cells off xs) fun c=>BR c r:=by
 simp only[BR,AS];split<;>rename_i h<;>simp only[h]
@[simp] theorem ble_eq (a b:Nat):Nat.ble a b=decide (a<=b):=TM a b
@[simp] theorem blt_eq (a b:Nat):Nat.blt a b=decide (a<b):=BY a b
def N0 (oid:Nat)(s:Nat)(rows:Option (List (List W))):Option (V×Upd):=match rows with
 |none=>none
 |some rows=>some (.sc (.arr oid rows.length),[(oid,some (.arr s rows 0))])
@[simp] theorem mkSlK_some {s:Nat} {rows:List (List W)}:N0 oid s (some rows)=some (.sc (.arr oid rows.length),[(oid,some (.arr s rows 0))]):=rfl
@[simp] theorem x_mkSl {s:Nat} {parts:List Opd}:Ae C E L oid (.mkSl s parts)=newK (L oid) (N0 oid s (Ad (fun x=>Cz s (x.val C E)) parts)):=by
 simp only[Ae,newK,N0];rw[Lb (g:=fun(x:Opd)=>Cz s (x.val C E)) fun x=>?_]
 .generalize Ad (fun (x:Opd)=>Cz s (x.val C E)) parts=y
  cases L oid with
  |some _=>rfl
  |none=>cases y<;>rfl
 .rw [<-IT]
  cases x.val C E<;>rfl
@[simp] theorem cut_skip {α:Type} {a:α} {l:List α} {k n:Nat}:cut (a::l) (k+1) n=cut l k n:=by
 simp only[cut,qF,qaL,ble_eq];rw[show decide (k+1+n<=l.length+1)=decide (k+n<=l.length)from by congr 1;apply propext;omega]
@[simp] theorem cut_take {α:Type} {a:α} {l:List α} {n:Nat}:cut (a::l) 0 (n+1)=(cut l 0 n).map (a::·):=by
 simp only[cut,qF,List.drop_zero,qaM,ble_eq];rw[show decide (0+(n+1)<=l.length+1)=decide (0+n<=l.length)from by congr 1;apply propext;omega];cases decide (0+n<=l.length)<;>rfl
@[simp] theorem cut_none {α:Type} {l:List α}:cut l 0 0=some []:=by rfl
@[simp] theorem splice_skip {α:Type} {a:α} {l xs:List α} {k:Nat}:splice (a::l) (k+1) xs=(splice l k xs).map (a::·):=by
 simp only[splice,qF,qaM,ble_eq];rw[show decide (k+1+xs.length<=l.length+1)=decide (k+xs.length<=l.length)from by congr 1;apply propext;omega];rw[show k+1+xs.length=(k+xs.length)+1 by omega,qaL];cases decide (k+xs.length<=l.length)<;>simp
@[simp] theorem splice_put {α:Type} {a x:α} {l xs:List α}:splice (a::l) 0 (x::xs)=(splice l 0 xs).map (x::·):=by
 simp only[splice,qF,List.take_zero,ble_eq];rw[show decide (0+(xs.length+1)<=l.length+1)=decide (0+xs.length<=l.length)from by congr 1;apply propext;omega];rw[show 0+(xs.length+1)=(0+xs.length)+1 by omega,qaL];cases decide (0+xs.length<=l.length)<;>simp
@[simp] theorem splice_full {α:Type} {l xs:List α} (h:l.length=xs.length):splice l 0 xs=some xs:=by simp[splice,h]
@[simp] theorem splice_none {α:Type} {l:List α}:splice l 0 []=some l:=by rfl
@[simp] theorem asV_true {cs:List W}:asV true cs=some (.ag cs):=rfl
@[simp] theorem asV_false {w:W}:asV false [w]=some (.sc w):=rfl
def FC (L:Nat->Option Obj)(ag:Bool)(n:Nat)(v:V):Option (V×Upd):=(Cv L ag n v).map fun v=>(v,[])
@[simp] theorem x_load {ag:Bool} {n:Nat} {a:Opd}:Ae C E L oid (.load ag n a)=FC L ag n (a.val C E):=by
 simp only[Ae,FC];generalize a.val C E=v;cases v with
 |sc w=>cases w with
  |ptr k off=>
   simp only[Cv];cases L k with
   |none=>rfl
   |some o=>cases o with
    |box cells=>simp only;cases cut cells off n<;>rfl
    |arr=>rfl
  |el k N i off=>
   simp only[Cv];cases L k with
   |none=>rfl
   |some o=>cases o with
    |box cells=>rfl
    |arr s rows p=>
     simp only;cases rows.length==N with
     |false=>rfl
     |true=>
      simp only[cond_true];cases rows[i]? with
      |none=>rfl
      |some row=>simp only[qay];cases cut row off n<;>rfl
  |c x=>cases x with
   |ro row off=>simp only[Cv];cases cut row off n<;>rfl
   |_=>rfl
  |_=>rfl
 |_=>rfl
@[simp] theorem loadV_ptr {ag:Bool} {n k off:Nat}:FC L ag n (.sc (.ptr k off))=boxK (L k) fun cells=>((cut cells off n).bind (asV ag)).map fun v=>(v,[]):=by
 simp only[FC,Cv,boxK];split<;>rename_i h
 .simp only[h]
 .split<;>rename_i h'<;>first | rfl | exact absurd h' (h _)
@[simp] theorem loadV_el {ag:Bool} {n k N i off:Nat}:FC L ag n (.sc (.el k N i off))=arrK (L k) fun _ rows _=>bif rows.length==N then AS rows[i]? fun row=>((cut row off n).bind (asV ag)).map fun v=>(v,[]) else none:=by
 simp only[FC,Cv,arrK];cases L k with
 |none=>rfl
 |some o=>cases o with
  |box cells=>rfl
  |arr s rows p=>
   simp only;cases rows.length==N with
   |false=>rfl
   |true=>simp only[cond_true];cases rows[i]?<;>rfl
@[simp] theorem loadV_ro {ag:Bool} {n off:Nat} {row:List Cell}:FC L ag n (.sc (.c (.ro row off)))=((cut row off n).bind fun cs=>asV ag (wc cs)).map fun v=>(v,[]):=rfl
@[simp] theorem x_fld {off:Nat} {a:Opd}:Ae C E L oid (.fld off a)=onBy L off (a.val C E):=rfl
@[simp] theorem onBy_ptr {n k o:Nat}:onBy L n (.sc (.ptr k o))=some (.sc (.ptr k (o+n)),[]):=rfl
@[simp] theorem onBy_ro {n o:Nat} {row:List Cell}:onBy L n (.sc (.c (.ro row o)))=some (.sc (.c (.ro row (o+n))),[]):=rfl
@[simp] theorem onBy_el {n k N i o:Nat}:onBy L n (.sc (.el k N i o))=bif elOk L k N i then some (.sc (.el k N i (o+n)),[]) else none:=rfl
def Fa (L:Nat->Option Obj)(a:V)(cs:List W):Option (V×Upd):=match a with
 |.sc (.ptr k off)=>boxK (L k) fun cells=>(splice cells off cs).map fun cs=>(.sc .un,[(k,some (.box cs))])
 |.sc (.el k N i off)=>arrK (L k) fun s rows p=>bif rows.length==N&&Nat.ble p i then AS rows[i]? fun row=>(splice row off cs).map fun cs=>(.sc .un,[(k,some (.arr s (setRow rows i cs) p))]) else none
 |_=>none
@[simp] theorem storeK_ptr {k off:Nat} {cs:List W}:Fa L (.sc (.ptr k off)) cs=boxK (L k) fun cells=>(splice cells off cs).map fun cs=>(.sc .un,[(k,some (.box cs))]):=rfl
@[simp] theorem storeK_el {k N i off:Nat} {cs:List W}:Fa L (.sc (.el k N i off)) cs=arrK (L k) fun s rows p=>bif rows.length==N&&Nat.ble p i then AS rows[i]? fun row=>(splice row off cs).map fun cs=>(.sc .un,[(k,some (.arr s (setRow rows i cs) p))]) else none:=rfl
@[simp] theorem x_store {n:Nat} {a x:Opd}:Ae C E L oid (.store n a x [])=AS (Cz n (x.val C E)) (Fa L (a.val C E)):=by
 rw[<-IT];simp only[Ae];generalize x.val C E=v;generalize a.val C E=w;have key:∀v:V,(bif v.cells.length==n&&v.cells.all Am&&(ownW oid [] 0 v.cells).2.all (fun u=>(L u.1).isNone) then (match w with
  |.sc (.ptr k off)=>match L k with
   |some (.box cells)=>(splice cells off (ownW oid [] 0 v.cells).1).map fun cs=>(V.sc .un,(ownW oid [] 0 v.cells).2++[(k,some (Obj.box cs))])
   |_=>none
  |.sc (.el k N i off)=>match L k with
   |some (.arr s rows p)=>bif rows.length==N&&Nat.ble p i then match rows[i]? with
    |some row=>(splice row off (ownW oid [] 0 v.cells).1).map fun cs=>(V.sc .un,(ownW oid [] 0 v.cells).2++[(k,some (Obj.arr s (setRow rows i cs) p))])
    |none=>none
    else none
   |_=>none
  |_=>none)
  else none)=AS (bif v.cells.length==n&&v.cells.all Am then some v.cells else none) (Fa L w):=by
  grind[NT,Fa,boxK,arrK,AS]
 cases v with
 |tu l=>rfl
 |sc w'=>grind
 |ag cs=>grind
def Lw (ag:Bool)(off n:Nat)(v:V):Option (V×Upd):=match v with
 |.ag cs=>((cut cs off n).bind (asV ag)).map fun v=>(v,[])
 |_=>none
@[simp] theorem partK_ag {ag:Bool} {off n:Nat} {cs:List W}:Lw ag off n (.ag cs)=((cut cs off n).bind (asV ag)).map fun v=>(v,[]):=rfl
@[simp] theorem x_part {ag:Bool} {off n:Nat} {x:Opd}:Ae C E L oid (.part ag off n x)=Lw ag off n (x.val C E):=by
 simp only[Ae,Lw];generalize x.val C E=v;cases v with
 |ag cs=>simp only;cases cut cs off n<;>rfl
 |_=>rfl
def idxK (L:Nat->Option Obj)(s:Nat)(x i:V):Option (V×Upd):=match x with
 |.sc (.c (.sl rows))=>AS (AE i rows.length) fun j=>AS rows[j]? fun row=>bif row.length==s then some (.sc (.c (.ro row 0)),[]) else none
 |.sc (.full rows)=>AS (AE i rows.length) fun j=>AS rows[j]? fun row=>bif row.length==s then some (.sc (.c (.ro row 0)),[]) else none
 |.sc (.arr k n)=>arrK (L k) fun s' rows _=>bif rows.length==n&&s'==s then (AE i n).map fun j=>(.sc (.el k n j 0),[]) else none
 |.sc (.vw k N lo n)=>arrK (L k) fun s' rows _=>bif rows.length==N&&Nat.ble (lo+n) N&&s'==s then (AE i n).map fun j=>(.sc (.el k N (lo+j) 0),[]) else none
 |_=>none
@[simp] theorem idxK_sl {s:Nat} {rows:List (List Cell)} {i:V}:idxK L s (.sc (.c (.sl rows))) i=AS (AE i rows.length) fun j=>AS rows[j]? fun row=>bif row.length==s then some (.sc (.c (.ro row 0)),[]) else none:=rfl
@[simp] theorem idxK_full {s:Nat} {rows:List (List Cell)} {i:V}:idxK L s (.sc (.full rows)) i=AS (AE i rows.length) fun j=>AS rows[j]? fun row=>bif row.length==s then some (.sc (.c (.ro row 0)),[]) else none:=rfl
@[simp] theorem idxK_arr {s k n:Nat} {i:V}:idxK L s (.sc (.arr k n)) i=arrK (L k) fun s' rows _=>bif rows.length==n&&s'==s then (AE i n).map fun j=>(.sc (.el k n j 0),[]) else none:=rfl
@[simp] theorem idxK_vw {s k N lo n:Nat} {i:V}:idxK L s (.sc (.vw k N lo n)) i=arrK (L k) fun s' rows _=>bif rows.length==N&&Nat.ble (lo+n) N&&s'==s then (AE i n).map fun j=>(.sc (.el k N (lo+j) 0),[]) else none:=rfl
@[simp] theorem x_idxA {s:Nat} {x i:Opd}:Ae C E L oid (.idxA s x i)=idxK L s (x.val C E) (i.val C E):=by
 simp only[Ae,idxK];generalize x.val C E=v;generalize i.val C E=j;cases v with
 |sc w=>cases w with
  |c x=>cases x with
   |sl rows=>
    simp only[AS];cases AE j rows.length with
    |none=>rfl
    |some m=>simp only;cases rows[m]?<;>rfl
   |_=>rfl
  |full rows=>
   simp only[AS];cases AE j rows.length with
   |none=>rfl
   |some m=>simp only;cases rows[m]?<;>rfl
  |arr k n=>simp only[arrK];cases L k with
   |none=>rfl
   |some o=>cases o<;>rfl
  |vw k N lo n=>simp only[arrK];cases L k with
   |none=>rfl
   |some o=>cases o<;>rfl
  |_=>rfl
 |_=>rfl
@[simp] theorem natBelow_cast {k:IntKind} {n b:Nat} (h:n<b):AE (.sc (.c (.int k (n:Int)))) b=some n:=by
 simp[Hg,h]
@[simp] theorem natBelow_zero {k:IntKind} {b:Nat} (h:0<b):AE (.sc (.c (.int k 0))) b=some 0:=natBelow_cast (n:=0) h
@[simp] theorem natBelow_one {k:IntKind} {b:Nat} (h:1<b):AE (.sc (.c (.int k 1))) b=some 1:=natBelow_cast (n:=1) h
theorem Zg {k:IntKind}{x:Int}{b:Nat}(h0:0<=x)(h:x<b):AE (.sc (.c (.int k x))) b=some x.toNat:=by
 grind[natBelow_cast]
def Nn (x i:V):Option (V×Upd):=match x with
 |.sc (.c (.str s))=>AS (AE i s.length) fun j=>(s[j]?).map fun b=>(.sc (.c (.int .u8 b.toNat)),[])
 |_=>none
@[simp] theorem idxSK_str {s:List UInt8} {i:V}:Nn (.sc (.c (.str s))) i=AS (AE i s.length) fun j=>(s[j]?).map fun b=>(.sc (.c (.int .u8 b.toNat)),[]):=rfl
@[simp] theorem x_idxS {x i:Opd}:Ae C E L oid (.idxS x i)=Nn (x.val C E) (i.val C E):=by
 simp only[Ae,Nn];generalize x.val C E=v;generalize i.val C E=j;cases v with
 |sc w=>cases w with
  |c x=>cases x with
   |str s=>simp only[AS];cases AE j s.length<;>rfl
   |_=>rfl
  |_=>rfl
 |_=>rfl
@[simp] theorem x_len {str:Bool} {x:Opd}:Ae C E L oid (.len str x)=bif C1 (x.val C E)==str then (lenV L (x.val C E)).map fun(n:Nat)=>(V.sc (.c (.int .i64 (n:Int))),[]) else none:=by
 simp only[Ae];cases C1 (x.val C E)==str<;>cases lenV L (x.val C E)<;>rfl
@[simp] theorem isStr_str {s:List UInt8}:C1 (.sc (.c (.str s)))=true:=rfl
@[simp] theorem isStr_sl {rows:List (List Cell)}:C1 (.sc (.c (.sl rows)))=false:=rfl
@[simp] theorem isStr_arr {k n:Nat}:C1 (.sc (.arr k n))=false:=rfl
@[simp] theorem isStr_vw {k N lo n:Nat}:C1 (.sc (.vw k N lo n))=false:=rfl
@[simp] theorem isStr_nil:C1 (.sc .nil)=false:=rfl
@[simp] theorem isStr_full {rows:List (List Cell)}:C1 (.sc (.full rows))=false:=rfl
@[simp] theorem isStr_e0 {b:Bool}:C1 (.sc (.e0 b))=false:=rfl
@[simp] theorem lenV_str {s:List UInt8}:lenV L (.sc (.c (.str s)))=some s.length:=rfl
@[simp] theorem lenV_sl {rows:List (List Cell)}:lenV L (.sc (.c (.sl rows)))=some rows.length:=rfl
@[simp] theorem lenV_full {rows:List (List Cell)}:lenV L (.sc (.full rows))=some rows.length:=rfl
@[simp] theorem lenV_nil:lenV L (.sc .nil)=some 0:=rfl
@[simp] theorem lenV_e0 {b:Bool}:lenV L (.sc (.e0 b))=some 0:=rfl
@[simp] theorem lenV_arr {k n:Nat}:lenV L (.sc (.arr k n))=arrK (L k) fun _ rows _=>bif rows.length==n then some n else none:=by
 rfl
@[simp] theorem lenV_vw {k N lo n:Nat}:lenV L (.sc (.vw k N lo n))=arrK (L k) fun _ rows _=>bif rows.length==N then (cut rows lo n).map (fun _=>n) else none:=by
 rfl
@[simp] theorem rowsOf_sl {rows:List (List Cell)}:Bd L (.sc (.c (.sl rows)))=some (wr rows):=rfl
@[simp] theorem rowsOf_full {rows:List (List Cell)}:Bd L (.sc (.full rows))=some (wr rows):=rfl
@[simp] theorem rowsOf_nil:Bd L (.sc .nil)=some []:=rfl
@[simp] theorem rowsOf_e0 {b:Bool}:Bd L (.sc (.e0 b))=some []:=rfl
@[simp] theorem rowsOf_arr {k n:Nat}:Bd L (.sc (.arr k n))=arrK (L k) fun _ rows _=>bif rows.length==n then some rows else none:=by
 rfl
@[simp] theorem rowsOf_vw {k N lo n:Nat}:Bd L (.sc (.vw k N lo n))=arrK (L k) fun _ rows _=>bif rows.length==N then cut rows lo n else none:=by
 rfl
def AP (s:Nat)(ys:List (List W)):Bool:=ys.all fun r=>r.length==s&&r.all Am
@[simp] theorem okRows_nil {s:Nat}:AP s []=true:=rfl
@[simp] theorem okRows_cons {s:Nat} {r:List W} {ys:List (List W)}:AP s (r::ys)=(r.length==s&&r.all Am&&AP s ys):=rfl
@[simp] theorem okRows_append {s:Nat} {xs ys:List (List W)}:AP s (xs++ys)=(AP s xs&&AP s ys):=by simp[AP]
theorem Wy {s:Nat}{rows:List (List Cell)}(h:∀r∈rows,r.length=s):AP s (wr rows)=true:=Y8 s rows h
def appK (L:Nat->Option Obj)(oid s bytes:Nat)(mk:Bool)(x:V)(ys:List (List W)):Option (V×Upd):=
 match x with
 |.sc (.arr k n)=>arrK (L k) fun s' rows p=>bif rows.length==n&&s'==s && !mk&&Nat.ble (n+ys.length) A5&&Nat.ble ((n+ys.length)*bytes) CT then
  some (.sc (.arr k (n+ys.length)),[(k,some (.arr s (rows++ys) p))]) else none
 |.sc .nil=>newK (L oid) (bif mk&&Nat.ble ys.length A5&&Nat.ble (ys.length*bytes) CT then some (.sc (.arr oid ys.length),[(oid,some (.arr s ys 0))]) else none)
 |.sc (.full rows)=>newK (L oid) (bif mk&&(rows.isEmpty || !ys.isEmpty)&&rows.all (fun r=>r.length==s)&&Nat.ble (rows.length+ys.length) A5&&Nat.ble ((rows.length+ys.length)*bytes) CT then
  some (.sc (.arr oid (rows.length+ys.length)),[(oid,some (.arr s (wr rows++ys) 0))]) else none)
 |_=>none
theorem Ih {s bytes:Nat}{mk:Bool}{x y:V}:Dz L oid s bytes mk x y=AS (Bd L y) fun ys=>bif AP s ys then appK L oid s bytes mk x ys else none:=by
 unfold Dz;simp only[AS];cases Bd L y with
 |none=>rfl
 |some ys=>
  simp only[AP];cases ys.all (fun r=>r.length==s&&r.all Am)with
  |false=>rfl
  |true=>
   simp only[cond_true,appK,arrK,newK];cases x with
   |sc w=>cases w with
    |arr k n=>rfl
    |nil=>grind
    |full rows=>rfl
    |_=>rfl
   |_=>rfl
@[simp] theorem x_app {s bytes:Nat} {mk:Bool} {x y:Opd}:Ae C E L oid (.app s bytes mk x y)=AS (Bd L (y.val C E)) fun ys=>bif AP s ys then appK L oid s bytes mk (x.val C E) ys else none:=Ih
theorem G1 {n bytes:Nat}(h:n*bytes<=140737488355328)(hb:1<=bytes):Nat.ble n A5=true/\Nat.ble (n*bytes) CT=true:=by
 have:=Nat.le_mul_of_pos_right n hb;exact⟨qO (by unfold A5;omega),qO h⟩
@[simp] theorem appK_arr {s bytes k n:Nat} {ys:List (List W)} (h:(n+ys.length)*bytes<=140737488355328) (hb:1<=bytes):appK L oid s bytes false (.sc (.arr k n)) ys=arrK (L k) fun s' rows p=>bif rows.length==n&&s'==s then
 some (.sc (.arr k (n+ys.length)),[(k,some (.arr s (rows++ys) p))]) else none:=by
 simp only[appK,arrK];rw[(G1 h hb).1,(G1 h hb).2];simp only[Bool.not_false,Bool.and_true]
@[simp] theorem appK_nil {s bytes:Nat} {ys:List (List W)} (h:ys.length*bytes<=140737488355328) (hb:1<=bytes):appK L oid s bytes true (.sc .nil) ys=newK (L oid) (some (.sc (.arr oid ys.length),[(oid,some (.arr s ys 0))])):=by
 simp only[appK];rw[(G1 h hb).1,(G1 h hb).2];rfl
@[simp] theorem appK_full {s bytes:Nat} {rows:List (List Cell)} {ys:List (List W)} (h:(rows.length+ys.length)*bytes<=140737488355328) (hb:1<=bytes):appK L oid s bytes true (.sc (.full rows)) ys=newK (L oid) (bif (rows.isEmpty || !ys.isEmpty)&&rows.all (fun r=>r.length==s) then
 some (.sc (.arr oid (rows.length+ys.length)),[(oid,some (.arr s (wr rows++ys) 0))]) else none):=by
 simp only[appK];rw[(G1 h hb).1,(G1 h hb).2];simp only[Bool.true_and,Bool.and_true]
end
section
variable {C:Ctx}{E:Nat->Option V}{L:Nat->Option Obj}{oid:Nat}
@[simp] theorem cells_sc {w:W}:(V.sc w).cells=[w]:=rfl
@[simp] theorem cells_ag {cs:List W}:(V.ag cs).cells=cs:=rfl
@[simp] theorem vren_sc {ρ:Nat->Option Nat} {w:W}:(V.sc w).ren ρ=.sc (w.ren ρ deep):=rfl
@[simp] theorem vren_ag {ρ:Nat->Option Nat} {cs:List W}:(V.ag cs).ren ρ=.ag (cs.map (W.ren ρ deep)):=rfl
@[simp] theorem vrefs_sc {w:W}:(V.sc w).refs=w.refs deep:=by simp[V.refs]
@[simp] theorem vrefs_ag {cs:List W}:(V.ag cs).refs=cs.flatMap (W.refs deep):=rfl
@[simp] theorem oren_box {ρ:Nat->Option Nat} {cs:List W}:(Obj.box cs).ren ρ=.box (cs.map (W.ren ρ deep)):=rfl
@[simp] theorem oren_arr {ρ:Nat->Option Nat} {s p:Nat} {rows:List (List W)}:(Obj.arr s rows p).ren ρ=.arr s (rows.map (·.map (W.ren ρ deep))) p:=rfl
@[simp] theorem orefs_box {cs:List W}:(Obj.box cs).refs=cs.flatMap (W.refs deep):=rfl
@[simp] theorem orefs_arr {s p:Nat} {rows:List (List W)}:(Obj.arr s rows p).refs=rows.flatMap (·.flatMap (W.refs deep)):=rfl
@[simp] theorem toD_sc {w:W}:(V.sc w).toD L=(w.toC L deep).map fun x=>.sc (.c x):=rfl
@[simp] theorem toD_ag {cs:List W}:(V.ag cs).toD L=(Ad (W.toC L deep) cs).map fun l=>.ag (wc l):=rfl
@[simp] theorem toR_full {rows:List (List Cell)}:(V.sc (.full rows)).toR L=some (.sc (.full rows)):=rfl
@[simp] theorem toR_c {x:Cell}:(V.sc (.c x)).toR L=some (.sc (.c x)):=rfl
@[simp] theorem toR_nil:(V.sc .nil).toR L=some (.sc (.c (.sl []))):=rfl
@[simp] theorem toR_arr {k n:Nat}:(V.sc (.arr k n)).toR L=((W.arr k n).toC L deep).map fun x=>.sc (.c x):=rfl
@[simp] theorem toR_ag {cs:List W}:(V.ag cs).toR L=(Ad (W.toR L) cs).map .ag:=rfl
@[simp] theorem wtoR_nil:W.toR L .nil=some .nil:=rfl
@[simp] theorem wtoR_c {x:Cell}:W.toR L (.c x)=some (.c x):=rfl
@[simp] theorem wtoR_full {rows:List (List Cell)}:W.toR L (.full rows)=some (.c (.sl rows)):=rfl
@[simp] theorem wtoR_arr {k n:Nat}:W.toR L (.arr k n)=((W.arr k n).toC L deep).map W.c:=rfl
@[simp] theorem listM_toR (cs:List Cell):Ad (W.toR L) (wc cs)=some (wc cs):=by
 induction cs with
 |nil=>rfl
 |cons x r ih=>rw[wc_cons,listM_cons,ih];rfl
@[simp] theorem refs_cc (d:Nat) (rows:List (List Cell)):(wr rows).flatMap (fun r=>r.flatMap (W.refs d))=[]:=by
 simp[wr,wc,qZ,K4]
@[simp] theorem ren_cc (ρ:Nat->Option Nat) (d:Nat) (rows:List (List Cell)):(wr rows).map (fun r=>r.map (W.ren ρ d))=wr rows:=by
 unfold wr;rw[qan];exact qM fun x _=>wc_ren ρ d x
@[simp] theorem vals_nil:vals C E []=[]:=rfl
@[simp] theorem vals_cons {b:Bool} {x:Opd} {r:List (Bool×Opd)}:vals C E ((b,x)::r)=(b,x.val C E)::vals C E r:=rfl
@[simp] theorem argsOf_nil:AQ L []=some ([],[],[]):=rfl
def argD (d:Option V)(is:List Nat)(q:Option (List V×List Nat×List Nat)):Option (List V×List Nat×List Nat):=match d,q with
 |some d,some (vs,ds,rs)=>some (d::vs,is++ds,rs)
 |_,_=>none
@[simp] theorem argD_some {d:V} {is ds rs:List Nat} {vs:List V}:argD (some d) is (some (vs,ds,rs))=some (d::vs,is++ds,rs):=rfl
@[simp] theorem argsOf_data {v:V} {r:List (Bool×V)}:AQ L ((false,v)::r)=argD (v.toD L) (v.cells.flatMap (W.ids L deep)) (AQ L r):=by
 simp only[AQ,argD];cases v.toD L<;>cases AQ L r<;>rfl
def argR (v:V)(is:List Nat)(q:Option (List V×List Nat×List Nat)):Option (List V×List Nat×List Nat):=match q with
 |some (vs,ds,rs)=>some (v::vs,ds,is++rs)
 |none=>none
@[simp] theorem argR_some {v:V} {is ds rs:List Nat} {vs:List V}:argR v is (some (vs,ds,rs))=some (v::vs,ds,is++rs):=rfl
@[simp] theorem argsOf_sc {w:W} {r:List (Bool×V)}:AQ L ((true,.sc w)::r)=argR (.sc w) (V.sc w).refs (AQ L r):=by
 simp only[AQ,argR];cases AQ L r<;>rfl
@[simp] theorem argsOf_ag {cs:List W} {r:List (Bool×V)}:AQ L ((true,.ag cs)::r)=argR (.ag cs) (V.ag cs).refs (AQ L r):=by
 simp only[AQ,argR];cases AQ L r<;>rfl
def G6 (L:Nat->Option Obj)(oid:Nat)(ids:List Nat)(os:List Obj)(ds:List Nat)(r:Option (V×List Obj)):Option (V×Upd):=match r with
 |none=>none
 |some (rv,os')=>
  bif Nat.ble ids.length os'.length&&(os.zip os').all (fun x=>Fh x.1 x.2)&&(AY oid 0 (os'.length-ids.length)).all (fun k=>(L k).isNone) then
   match ds with
   |[]=>some (rv.ren fun i=>(ids++AY oid 0 (os'.length-ids.length))[i]?,BC (ids++AY oid 0 (os'.length-ids.length)) (os'.map (Obj.ren fun i=>(ids++AY oid 0 (os'.length-ids.length))[i]?)))
   |_=>bif CQ rv&&ids.isEmpty&&(AY oid 0 (os'.length-ids.length)).isEmpty then some (rv,[]) else
    (Bg L ds ds).map fun p=>(rv.ren fun i=>(ids++AY oid 0 (os'.length-ids.length))[i]?,p++BC (ids++AY oid 0 (os'.length-ids.length)) (os'.map (Obj.ren fun i=>(ids++AY oid 0 (os'.length-ids.length))[i]?)))
  else none
def H7 (call:Ab)(L:Nat->Option Obj)(oid:Nat)(g:FuncId)(ids:List Nat)(os:Option (List Obj))(vs:List V)(ds:List Nat):Option (V×Upd):=match os with
 |none=>none
 |some os=>bif ids.all (fun k=>!ds.contains k)&&(An L ids).length==ids.length then G6 L oid ids os ds (call g (vs.map (V.ren (AN ids))) (os.map (Obj.ren (AN ids)))) else none
def EV (call:Ab)(L:Nat->Option Obj)(oid:Nat)(g:FuncId)(q:Option (List V×List Nat×List Nat)):Option (V×Upd):=match q with
 |none=>none
 |some (vs,ds,rs)=>H7 call L oid g (An L rs) (Ad L (An L rs)) vs ds
theorem KO {call:Ab}{f:V}{args:List (Bool×V)}:BI call L oid f args=match Dc f with
 |none=>none
 |some (g,caps)=>EV call L oid g (AQ L (args++caps)):=by
 unfold BI;cases Dc f with
 |none=>rfl
 |some gc=>
  obtain⟨g,caps⟩:=gc;simp only[EV];cases AQ L (args++caps)with
  |none=>rfl
  |some q=>
   obtain⟨vs,ds,rs⟩:=q;simp only[H7];cases Ad L (An L rs)with
   |none=>rfl
   |some os=>
    simp only;cases ((An L rs).all fun k=>!ds.contains k)&&(An L (An L rs)).length==(An L rs).length with
    |false=>rfl
    |true=>
     simp only[cond_true,G6];cases call g (vs.map (V.ren (AN (An L rs)))) (os.map (Obj.ren (AN (An L rs))))with
     |none=>rfl
     |some r=>
      obtain⟨rv,os'⟩:=r;simp only;cases ((An L rs).length.ble os'.length&&(os.zip os').all (fun x=>Fh x.1 x.2)&&(AY oid 0 (os'.length-(An L rs).length)).all fun k=>(L k).isNone)with
      |false=>rfl
      |true=>
       cases ds with
       |nil=>rfl
       |cons d ds=>
        simp only[cond_true];cases Bg L (d::ds) (d::ds)<;>rfl
@[simp] theorem call1_fn {call:Ab} {g:FuncId} {args:List (Bool×V)}:BI call L oid (.sc (.c (.fn g [] []))) args=EV call L oid g (AQ L args):=by
 rw[KO];simp[Dc]
theorem Wn:∀(l:List (Bool×V))(j:Nat),Au oid [] j l=(l,[]):=by
 intro l
 induction l with
 |nil=>intro j;rfl
 |cons x r ih=>
  obtain⟨b,v⟩:=x;intro j;simp only[Au,ih,get?]
@[simp] theorem x_call {f:Opd} {args:List (Bool×Opd)}:Ae C E L oid (.call f args [])=BI C.call L (oid+32) (f.val C E) (vals C E args):=by
 simp only[Ae,Wn,List.all_nil,cond_true,updL_nil,qae];cases BI C.call L (oid+32) (f.val C E) (vals C E args)<;>rfl
@[simp] theorem x_callOwn {f:Opd} {args:List (Bool×Opd)} {x:Nat×Nat} {own:List (Nat×Nat)}:Ae C E L oid (.call f args (x::own))=
 bif (Au oid (x::own) 0 (vals C E args)).2.all (fun u=>(L u.1).isNone) then (BI C.call (updL L (Au oid (x::own) 0 (vals C E args)).2) (oid+32) (f.val C E) (Au oid (x::own) 0 (vals C E args)).1).map fun q=>(q.1,(Au oid (x::own) 0 (vals C E args)).2++q.2) else none:=by
 simp only[Ae];cases (Au oid (x::own) 0 (vals C E args)).2.all (fun u=>(L u.1).isNone)with
 |false=>rfl
 |true=>
  simp only[cond_true];cases BI C.call (updL L (Au oid (x::own) 0 (vals C E args)).2) (oid+32) (f.val C E) (Au oid (x::own) 0 (vals C E args)).1<;>rfl
@[simp] theorem ownArgs_none {own:List (Nat×Nat)} {j:Nat}:Au oid own j []=([],[]):=rfl
def Jo (oid j:Nat)(b:Bool)(x:Option Nat)(q:List (Bool×V)×Upd):List (Bool×V)×Upd:=match x with
 |some s=>((true,.sc (.arr (oid+1+j) 0))::q.1,(oid+1+j,some (.arr s [] 0))::q.2)
 |none=>((b,.sc .nil)::q.1,q.2)
@[simp] theorem ownAK_some {j s:Nat} {b:Bool} {q:List (Bool×V)×Upd}:Jo oid j b (some s) q=((true,.sc (.arr (oid+1+j) 0))::q.1,(oid+1+j,some (.arr s [] 0))::q.2):=rfl
@[simp] theorem ownAK_none {j:Nat} {b:Bool} {q:List (Bool×V)×Upd}:Jo oid j b none q=((b,.sc .nil)::q.1,q.2):=rfl
@[simp] theorem ownArgs_snil {own:List (Nat×Nat)} {j:Nat} {b:Bool} {r:List (Bool×V)}:Au oid own j ((b,.sc .nil)::r)=Jo oid j b (get? own j) (Au oid own (j+1) r):=by
 simp only[Au,Jo];cases get? own j<;>rfl
@[simp] theorem ownArgs_ag {own:List (Nat×Nat)} {j:Nat} {b:Bool} {cs:List W} {r:List (Bool×V)}:Au oid own j ((b,.ag cs)::r)=((b,.ag cs)::(Au oid own (j+1) r).1,(Au oid own (j+1) r).2):=by
 simp only[Au]
@[simp] theorem ownArgs_c {own:List (Nat×Nat)} {j:Nat} {b:Bool} {x:Cell} {r:List (Bool×V)}:Au oid own j ((b,.sc (.c x))::r)=((b,.sc (.c x))::(Au oid own (j+1) r).1,(Au oid own (j+1) r).2):=by
 simp only[Au]
@[simp] theorem ownArgs_arr {own:List (Nat×Nat)} {j k n:Nat} {b:Bool} {r:List (Bool×V)}:Au oid own j ((b,.sc (.arr k n))::r)=((b,.sc (.arr k n))::(Au oid own (j+1) r).1,(Au oid own (j+1) r).2):=by
 simp only[Au]
@[simp] theorem ownArgs_ptr {own:List (Nat×Nat)} {j k n:Nat} {b:Bool} {r:List (Bool×V)}:Au oid own j ((b,.sc (.ptr k n))::r)=((b,.sc (.ptr k n))::(Au oid own (j+1) r).1,(Au oid own (j+1) r).2):=by
 simp only[Au]
@[simp] theorem callA_plain {call:Ab} {g:FuncId} {vs:List V} {ds:List Nat}:EV call L oid g (some (vs,ds,[]))=G6 L oid [] [] ds (call g (vs.map (V.ren fun _=>none)) []):=by
 simp[EV,H7,An,show AN []=fun _=>none from rfl]
@[simp] theorem callA_refs {call:Ab} {g:FuncId} {vs:List V} {ds rs:List Nat} {k:Nat}:EV call L oid g (some (vs,ds,k::rs))=H7 call L oid g (An L (k::rs)) (Ad L (An L (k::rs))) vs ds:=rfl
@[simp] theorem callC_some {call:Ab} {g:FuncId} {ids:List Nat} {os:List Obj} {vs:List V} {ds:List Nat}:H7 call L oid g ids (some os) vs ds=
 bif ids.all (fun k=>!ds.contains k)&&(An L ids).length==ids.length then G6 L oid ids os ds (call g (vs.map (V.ren (AN ids))) (os.map (Obj.ren (AN ids)))) else none:=rfl
@[simp] theorem callT_plain {rv:V}:G6 L oid [] [] [] (some (rv,[]))=some (rv.ren fun _=>none,[]):=rfl
def nthN:List Nat->Nat->Option Nat
 |[],_=>none
 |a::_,0=>some a
 |_::l,k+1=>nthN l k
@[simp] theorem nthN_nil {k:Nat}:nthN [] k=none:=rfl
@[simp] theorem nthN_zero {a:Nat} {l:List Nat}:nthN (a::l) 0=some a:=rfl
@[simp] theorem nthN_succ {a k:Nat} {l:List Nat}:nthN (a::l) (k+1)=nthN l k:=rfl
theorem Pi:∀(l:List Nat)(k:Nat),l[k]?=nthN l k
 |[],k=>rfl
 |_::_,0=>rfl
 |_::l,k+1=>by rw[qaI,Pi l k];rfl
theorem ZcX {ids:List Nat}{os os':List Obj}{ds:List Nat}{rv:V}:G6 L oid ids os ds (some (rv,os'))=
 bif Nat.ble ids.length os'.length&&(os.zip os').all (fun x=>Fh x.1 x.2)&&(AY oid 0 (os'.length-ids.length)).all (fun k=>(L k).isNone) then
  match ds with
  |[]=>some (rv.ren (nthN (ids++AY oid 0 (os'.length-ids.length))),BC (ids++AY oid 0 (os'.length-ids.length)) (os'.map (Obj.ren (nthN (ids++AY oid 0 (os'.length-ids.length))))))
  |_=>bif CQ rv&&ids.isEmpty&&(AY oid 0 (os'.length-ids.length)).isEmpty then some (rv,[]) else
   (Bg L ds ds).map fun p=>(rv.ren (nthN (ids++AY oid 0 (os'.length-ids.length))),p++BC (ids++AY oid 0 (os'.length-ids.length)) (os'.map (Obj.ren (nthN (ids++AY oid 0 (os'.length-ids.length))))))
 else none:=by
 have h:∀l:List Nat,(fun i=>l[i]?)=nthN l:=fun l=>funext fun k=>Pi l k;simp only[<-h];rfl
attribute [simp] ZcX
attribute [simp] WZ
@[simp] theorem reach_cons {k:Nat} {ks:List Nat}:An L (k::ks)=Cx L (Cx L (Cx L (Cx L (k::ks)))):=rfl
def Ig (x:Option Obj):List Nat:=match x with | some o=>o.refs | none=>[]
@[simp] theorem refsK_some {o:Obj}:Ig (some o)=o.refs:=rfl
@[simp] theorem growRefs_eq {ks:List Nat}:Cx L ks=nubs (ks++ks.flatMap fun k=>Ig (L k)):=by
 unfold Cx Ig;rfl
@[simp] theorem nubs_nil:nubs []=[]:=rfl
@[simp] theorem nubs_cons {k:Nat} {r:List Nat}:nubs (k::r)=bif (nubs r).contains k then nubs r else k::nubs r:=by
 simp only[nubs];by_cases h:k∈nubs r<;>simp[h]
@[simp] theorem newIds_zero {i:Nat}:AY oid i 0=[]:=rfl
@[simp] theorem newIds_succ {i n:Nat}:AY oid i (n+1)=(oid+i)::AY oid (i+1) n:=rfl
@[simp] theorem updOf_nil {os:List Obj}:BC [] os=[]:=by cases os<;>rfl
@[simp] theorem updOf_cons {k:Nat} {ks:List Nat} {o:Obj} {os:List Obj}:BC (k::ks) (o::os)=(k,some o)::BC ks os:=rfl
@[simp] theorem sameKind_box {a b:List W}:Fh (.box a) (.box b)=(a.length==b.length):=rfl
@[simp] theorem sameKind_arr {s s' p p':Nat} {a b:List (List W)}:Fh (.arr s a p) (.arr s' b p')=(s==s'&&Nat.ble a.length b.length):=rfl
@[simp] theorem flatV_int {k:IntKind} {n:Int}:CQ (.sc (.c (.int k n)))=true:=rfl
@[simp] theorem flatV_bool {b:Bool}:CQ (.sc (.c (.bool b)))=true:=rfl
@[simp] theorem flatV_str {s:List UInt8}:CQ (.sc (.c (.str s)))=true:=rfl
@[simp] theorem flatV_sl {rows:List (List Cell)}:CQ (.sc (.c (.sl rows)))=false:=rfl
@[simp] theorem flatV_arr {k n:Nat}:CQ (.sc (.arr k n))=false:=rfl
@[simp] theorem pubUpd_nil {all:List Nat}:Bg L all []=some []:=rfl
@[simp] theorem pubUpd_cons {all:List Nat} {k:Nat} {r:List Nat}:Bg L all (k::r)=arrK (L k) fun s rows _=>AS (Ad (Ad (W.toC L deep)) rows) fun cs=>
 bif rows.all (fun q=>q.all fun x=>(W.ids L deep x).all fun j=>all.contains j) then (Bg L all r).map ((k,some (.arr s (wr cs) rows.length))::·) else none:=by
 simp only[Bg,arrK,AS];cases L k with
 |none=>rfl
 |some o=>cases o with
  |box _=>rfl
  |arr s rows p=>
   simp only;cases Ad (Ad (W.toC L deep)) rows<;>rfl
@[simp] theorem allIds_cc (rows:List (List Cell)) (p:Nat->Bool) (d:Nat):(wr rows).all (fun q=>q.all fun x=>(W.ids L d x).all p)=true:=by
 rw[qx];intro q hq;obtain⟨x,_,rfl⟩:=qL.1 hq;rw[qx];intro y hy;obtain⟨z,_,rfl⟩:=qL.1 hy;simp[Iy]
@[simp] theorem allIds_c (row:List Cell) (p:Nat->Bool) (d:Nat):(wc row).all (fun x=>(W.ids L d x).all p)=true:=by
 rw[qx];intro y hy;obtain⟨z,_,rfl⟩:=qL.1 hy;simp[Iy]
@[simp] theorem ids_arr {d k n:Nat}:W.ids L (d+1) (.arr k n)=k::(match L k with | some (.arr _ rows _)=>rows.flatMap (·.flatMap (W.ids L d)) | _=>[]):=rfl
@[simp] theorem range_0:List.range 0=[]:=rfl
@[simp] theorem range_1:List.range 1=[0]:=rfl
@[simp] theorem range_2:List.range 2=[0,1]:=rfl
@[simp] theorem range_3:List.range 3=[0,1,2]:=rfl
@[simp] theorem range_4:List.range 4=[0,1,2,3]:=rfl
def Fp:List Nat->List Nat
 |[]=>[]
 |k::r=>bif Nat.ble 64 k then k::Fp r else Fp r
@[simp] theorem own64_nil:Fp []=[]:=rfl
@[simp] theorem own64_cons {k:Nat} {r:List Nat}:Fp (k::r)=bif Nat.ble 64 k then k::Fp r else Fp r:=rfl
theorem QL:∀l:List Nat,(l.filter fun k=>Nat.ble 64 k)=Fp l
 |[]=>rfl
 |k::r=>by
  rw[own64_cons,List.filter_cons,QL r];cases Nat.ble 64 k<;>rfl
def finK (keep:Bool)(m:Nat)(L:Nat->Option Obj)(vs:Option (List V)):Option (V×List Obj):=match vs with
 |none=>none
 |some vs=>bif vs.all CG then
  bif keep then Ea L (List.range m++(An L (vs.flatMap V.refs++(List.range m).flatMap fun k=>Ig (L k))).filter fun k=>Nat.ble 64 k) vs
  else AS (Ad (V.toR L) vs) fun ds=>bif vs.all (fun v=>v.cells.all fun x=>(W.ids L deep x).all fun k=>Nat.ble 64 k) then Ea L (List.range m) ds else none
  else none
@[simp] theorem finish_eq {keep:Bool} {m:Nat} {rs:List VRes} {s:St}:BS keep m rs s=finK keep m (look s.objs) (Ad (resV s) rs):=by
 unfold BS finK AS;cases Ad (resV s) rs with
 |none=>rfl
 |some vs=>
  simp only;cases vs.all CG with
  |false=>rfl
  |true=>
   cases keep with
   |true=>rfl
   |false=>
    simp only[cond_true,cond_false];cases Ad (V.toR (look s.objs)) vs<;>rfl
@[simp] theorem resV_tmp {s:St} {t:Nat}:resV s (.tmp t)=get? s.env t:=rfl
@[simp] theorem resV_cell {s:St} {t n:Nat} {ag:Bool}:resV s (.cell t ag n)=(FC (look s.objs) ag n ((get? s.env t).getD (.sc .un))).map (·.1):=by
 simp only[resV,x_load,val_t]
@[simp] theorem notTu_sc {w:W}:CG (.sc w)=true:=rfl
@[simp] theorem notTu_ag {cs:List W}:CG (.ag cs)=true:=rfl
@[simp] theorem packR_one {v:V}:Dd [v]=v:=rfl
@[simp] theorem packR_zero:Dd []=.tu []:=rfl
@[simp] theorem packR_two {v w:V} {r:List V}:Dd (v::w::r)=.tu (v::w::r):=rfl
@[simp] theorem export1_eq {ks:List Nat} {vs:List V}:Ea L ks vs=(Ad L ks).map fun os=>(Dd (vs.map (V.ren (AN ks))),os.map (Obj.ren (AN ks))):=by
 unfold Ea;cases Ad L ks<;>rfl
@[simp] theorem finK_keep {m:Nat} {vs:List V}:finK true m L (some vs)=bif vs.all CG then Ea L (List.range m++Fp (An L (vs.flatMap V.refs++(List.range m).flatMap fun k=>Ig (L k)))) vs else none:=by
 rw[<-QL];rfl
@[simp] theorem finK_free {m:Nat} {vs:List V}:finK false m L (some vs)=bif vs.all CG then AS (Ad (V.toR L) vs) fun ds=>bif vs.all (fun v=>v.cells.all fun x=>(W.ids L deep x).all fun k=>Nat.ble 64 k) then Ea L (List.range m) ds else none else none:=rfl
def nthV:List V->Nat->Option V
 |[],_=>none
 |a::_,0=>some a
 |_::l,k+1=>nthV l k
@[simp] theorem nthV_zero {a:V} {l:List V}:nthV (a::l) 0=some a:=rfl
@[simp] theorem nthV_succ {a:V} {k:Nat} {l:List V}:nthV (a::l) (k+1)=nthV l k:=rfl
theorem Q3:∀(l:List V)(k:Nat),l[k]?=nthV l k
 |[],k=>rfl
 |_::_,0=>rfl
 |_::l,k+1=>by rw[qaI,Q3 l k];rfl
def extV (i:Nat)(v:V):Option (V×Upd):=match v with
 |.tu l=>(nthV l i).map fun v=>(v,[])
 |_=>none
@[simp] theorem extV_tu {i:Nat} {l:List V}:extV i (.tu l)=(nthV l i).map fun v=>(v,[]):=rfl
@[simp] theorem x_ext {i:Nat} {x:Opd}:Ae C E L oid (.ext i x)=extV i (x.val C E):=by
 simp only[Ae,extV];cases x.val C E with
 |tu l=>simp only[Q3]
 |_=>rfl
def tren (ρ:Nat->Option Nat):V->V
 |.sc w=>.sc (w.ren ρ deep)
 |.ag cs=>.ag (cs.map (W.ren ρ deep))
 |.tu _=>.sc .un
@[simp] theorem tren_sc {ρ:Nat->Option Nat} {w:W}:tren ρ (.sc w)=.sc (w.ren ρ deep):=rfl
@[simp] theorem tren_ag {ρ:Nat->Option Nat} {cs:List W}:tren ρ (.ag cs)=.ag (cs.map (W.ren ρ deep)):=rfl
@[simp] theorem vren_tu {ρ:Nat->Option Nat} {l:List V}:(V.tu l).ren ρ=.tu (l.map (tren ρ)):=by
 have h:∀l:List V,l.map (fun | .sc w=>.sc (w.ren ρ deep) | .ag cs=>.ag (cs.map (W.ren ρ deep)) | .tu _=>.sc .un)=l.map (tren ρ):=fun l=>qM fun x _=>by cases x<;>rfl
 exact congrArg V.tu (h l)
@[simp] theorem normR_true {r:V×List Obj}:B4 true r=r:=rfl
@[simp] theorem normR_false {v:V} {os:List Obj}:B4 false (v,os)=(nilV v,os):=rfl
@[simp] theorem nilV_sc {w:W}:nilV (.sc w)=.sc w:=rfl
@[simp] theorem nilV_ag {cs:List W}:nilV (.ag cs)=.ag (cs.map nilW):=rfl
@[simp] theorem nilV_tu {l:List V}:nilV (.tu l)=.tu (l.map nilC):=rfl
@[simp] theorem nilC_sc {w:W}:nilC (.sc w)=.sc w:=rfl
@[simp] theorem nilC_ag {cs:List W}:nilC (.ag cs)=.ag (cs.map nilW):=rfl
@[simp] theorem nilW_nil:nilW .nil=.c (.sl []):=rfl
@[simp] theorem nilW_c {x:Cell}:nilW (.c x)=.c x:=rfl
@[simp] theorem nilW_cs (cs:List Cell):(wc cs).map nilW=wc cs:=by
 unfold wc;rw[qan];exact qM fun x _=>rfl
attribute [simp] FR recO F4 V.direct
@[simp] theorem dataIds_nil:CJ L []=[]:=rfl
@[simp] theorem dataIds_ref {v:V} {r:List (Bool×V)}:CJ L ((true,v)::r)=CJ L r:=rfl
@[simp] theorem dataIds_data {v:V} {r:List (Bool×V)}:CJ L ((false,v)::r)=v.cells.flatMap (W.ids L deep)++CJ L r:=rfl
@[simp] theorem calleeOf_fn {g:FuncId}:Dc (.sc (.c (.fn g [] [])))=some (g,[]):=rfl
def FX (k n:Nat)(d:Cell):Env->Env
 |[]=>[]
 |(t,v)::r=>(t,Eu k n d v)::FX k n d r
def ED (k n:Nat)(d:Cell):Objs->Objs
 |[]=>[]
 |(j,x)::r=>(j,x.map (Df k n d))::ED k n d r
def Ji (k s:Nat)(rows:List (List W))(E:Env)(O:Objs)(d:Option Cell)(b:Bool):St:=match d,b with
 |some d,true=>⟨FX k rows.length d E,ED k rows.length d (put O k (some (.arr s rows rows.length)))⟩
 |_,_=>⟨E,O⟩
def KN (k:Nat)(E:Env)(O:Objs):Option Obj->St
 |some (.arr s rows _)=>Ji k s rows E O (W.toC (look O) deep (.arr k rows.length)) ((W.ids (look O) deep (.arr k rows.length)).all (· == k))
 |_=>⟨E,O⟩
theorem Q5 {k n:Nat}{d:Cell}:∀E:Env,(E.map fun x=>(x.1,Eu k n d x.2))=FX k n d E
 |[]=>rfl
 |(t,v)::r=>by rw[qv,Q5 r];rfl
theorem Qq {k n:Nat}{d:Cell}:∀O:Objs,(O.map fun x=>(x.1,x.2.map (Df k n d)))=ED k n d O
 |[]=>rfl
 |(t,v)::r=>by rw[qv,Qq r];rfl
@[simp] theorem melt_eq {k:Nat} {E:Env} {O:Objs}:St.melt k ⟨E,O⟩=KN k E O (look O k):=by
 unfold St.melt KN;dsimp only;cases look O k with
 |none=>rfl
 |some o=>cases o with
  |box _=>rfl
  |arr s rows p=>
   dsimp only;unfold Ji;cases W.toC (look O) deep (.arr k rows.length)with
   |none=>cases (W.ids (look O) deep (.arr k rows.length)).all (· == k)<;>rfl
   |some d=>
    dsimp only;rw[Q5,Qq];cases (W.ids (look O) deep (.arr k rows.length)).all (· == k)<;>rfl
@[simp] theorem melt1_arr {k s p:Nat} {E:Env} {O:Objs} {rows:List (List W)}:KN k E O (some (.arr s rows p))=Ji k s rows E O (W.toC (look O) deep (.arr k rows.length)) ((W.ids (look O) deep (.arr k rows.length)).all (· == k)):=rfl
@[simp] theorem melt1_none {k:Nat} {E:Env} {O:Objs}:KN k E O none=⟨E,O⟩:=rfl
@[simp] theorem melt2_some {k s:Nat} {E:Env} {O:Objs} {rows:List (List W)} {d:Cell}:Ji k s rows E O (some d) true=⟨FX k rows.length d E,ED k rows.length d (put O k (some (.arr s rows rows.length)))⟩:=rfl
section
variable {k n:Nat}{d:Cell}
@[simp] theorem meltE_nil:FX k n d []=[]:=rfl
@[simp] theorem meltE_cons {t:Nat} {v:V} {r:Env}:FX k n d ((t,v)::r)=(t,Eu k n d v)::FX k n d r:=rfl
@[simp] theorem meltL_nil:ED k n d []=[]:=rfl
@[simp] theorem meltL_some {t:Nat} {o:Obj} {r:Objs}:ED k n d ((t,some o)::r)=(t,some (Df k n d o))::ED k n d r:=rfl
@[simp] theorem meltL_none {t:Nat} {r:Objs}:ED k n d ((t,none)::r)=(t,none)::ED k n d r:=rfl
@[simp] theorem meltV_sc {x:W}:Eu k n d (.sc x)=.sc (Bl k n d x):=rfl
@[simp] theorem meltV_ag {cs:List W}:Eu k n d (.ag cs)=.ag (cs.map (Bl k n d)):=rfl
@[simp] theorem meltO_box {cs:List W}:Df k n d (.box cs)=.box (cs.map (Bl k n d)):=rfl
@[simp] theorem meltO_arr {s p:Nat} {rows:List (List W)}:Df k n d (.arr s rows p)=.arr s (rows.map (List.map (Bl k n d))) p:=rfl
@[simp] theorem meltW_arr {j m:Nat}:Bl k n d (.arr j m)=bif j==k&&m==n then .c d else .arr j m:=rfl
@[simp] theorem meltW_c {x:Cell}:Bl k n d (.c x)=.c x:=rfl
@[simp] theorem meltW_nil:Bl k n d .nil=.nil:=rfl
@[simp] theorem meltW_un:Bl k n d .un=.un:=rfl
@[simp] theorem meltW_sk:Bl k n d .sk=.sk:=rfl
@[simp] theorem meltW_full {rows:List (List Cell)}:Bl k n d (.full rows)=.full rows:=rfl
@[simp] theorem meltW_e0 {b:Bool}:Bl k n d (.e0 b)=.e0 b:=rfl
@[simp] theorem meltW_vw {j m lo q:Nat}:Bl k n d (.vw j m lo q)=.vw j m lo q:=rfl
@[simp] theorem meltW_ptr {j o:Nat}:Bl k n d (.ptr j o)=.ptr j o:=rfl
@[simp] theorem meltW_el {j m i o:Nat}:Bl k n d (.el j m i o)=.el j m i o:=rfl
@[simp] theorem meltW_clo {f:FuncId} {ones:List Bool} {caps:List (List W)}:Bl k n d (.clo f ones caps)=.clo f ones caps:=rfl
@[simp] theorem wc_melt (r:List Cell):(wc r).map (Bl k n d)=wc r:=by
 unfold wc;rw[qan];exact qM fun x _=>rfl
@[simp] theorem wr_melt (rows:List (List Cell)):(wr rows).map (List.map (Bl k n d))=wr rows:=by
 unfold wr;rw[qan];exact qM fun x _=>wc_melt x
end
@[simp] theorem wp_melt {C:Ctx} {k:Nat} {b:VCode} {Q:Ex->St->Prop} {s:St}:wp C (.melt k b) Q s=wp C b Q (s.melt k):=by
 unfold wp;simp only[run]
end
end Go.Vs
