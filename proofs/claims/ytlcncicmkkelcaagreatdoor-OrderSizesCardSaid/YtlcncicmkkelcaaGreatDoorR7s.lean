/- Comparing by the program: the closure compare, walked. (Parts of one proof, put together.) -/
import Derived.Test.YtlcncicmkkelcaaGreatDoorR6s
import Derived.Test.YtlcncicmkkelcaaGreatDoorR5s
import Derived.Test.YtlcncicmkkelcaaGreatDoorR3s
set_option linter.unusedSimpArgs false
set_option linter.unusedVariables false
set_option linter.deprecated false
set_option maxHeartbeats 16000000
set_option maxRecDepth 10000
namespace Go.Vs.Tryz
open Go Go.Vs
variable {A:Oracle}
@[simp] theorem calleeOf_c1 {f:FuncId} {w:W}:calleeOf (.sc (.clo f [true] [[w]]))=some (f,[(true,.sc w)]):=rfl
@[simp] theorem calleeOf_c2 {f:FuncId} {w0 w1:W}:calleeOf (.sc (.clo f [true,true] [[w0],[w1]]))=some (f,[(true,.sc w0),(true,.sc w1)]):=rfl
@[simp] theorem calleeOf_c3 {f:FuncId} {w0 w1 w2:W}:calleeOf (.sc (.clo f [true,true,true] [[w0],[w1],[w2]]))=some (f,[(true,.sc w0),(true,.sc w1),(true,.sc w2)]):=rfl
theorem conRow_eq (s:Str):wc (conExp s).row=[.c (.int .i64 2),.c (.int .i64 0),.c (.str s),.c (.int .i64 0),.c (.sl []),.c (.sl []),.c (.int .i64 0),.c (.str []),.c (.int .i64 0),.c (.int .i64 0),.c (.sl [])]:=by
 simp [conExp,Exp.row,tz,Exp.rows,Exp.armRows,Ty.kind,Ty.name,Ty.id,Ty.home,Ty.args,Ty.rows]
def armS (ds:List DataD)(ctx:List EntD)(l m:List Str)(a b:Exp)(k i:Nat):St:=⟨[(0,strsV l),(1,strsV m),(4,.sc (.ptr 2 0)),(5,.sc (.ptr 3 0)),(9,.sc (.ptr 64 0)),(10,.sc (.ptr 128 0)),(115,intV k),(116,intV i)],
 [(0,some (.box [.c (.sl (dataRows ds))])),(1,some (.box [.c (.sl (entRows ctx))])),(2,some (.box [.clo 58 [true,true,true] [[.ptr 2 0],[.ptr 3 0],[.ptr 4 0]]])),(3,some (.box [.clo 54 [true,true] [[.ptr 0 0],[.ptr 1 0]]])),(4,some (.box [.clo 57 [true] [[.ptr 2 0]]])),(64,some (.box (wc a.row))),(128,some (.box (wc b.row)))]⟩
variable {A:Oracle}
def conNames (ds:List DataD):Prop:=∀ d∈ds,∀ c∈d.cons,nameOk 65 90 c.name
def TermP (L:List Int)(ds:List DataD)(N:List Str)(B:Nat)(r:V × List Obj):Prop:=∃ e J,good e∧inScope ds e N∧e.weight≤B∧J≤L.length∧r=(expV e,[tapeO L J])
theorem nameOk_low {s:Str}(h:s∈varNames):nameOk 97 122 s:=by
 simp only [varNames,List.mem_cons,List.not_mem_nil,or_false] at h
 rcases h with rfl|rfl|rfl|rfl|rfl|rfl|rfl|rfl<;>exact ⟨by decide,⟨_,rfl,by decide,by decide⟩,by decide,by decide⟩
theorem lam49 (s:Str)(x:Exp):(K A).call 49 [strV s,expV x] []=some (expV (.mk 4 0 s 0 [x] [] tz),[]):=by
 refine fn_of (vf:=v49) (by kernel_rfl) rfl (by simp) ?_
 have h:wc (Exp.mk 4 0 s 0 [x] [] tz).row=[.c (.int .i64 4),.c (.int .i64 0),.c (.str s),.c (.int .i64 0),.c (.sl [x.row]),.c (.sl []),.c (.int .i64 0),.c (.str []),.c (.int .i64 0),.c (.int .i64 0),.c (.sl [])]:=by
  simp [Exp.row,tz,Exp.rows,Exp.armRows,Ty.kind,Ty.name,Ty.id,Ty.home,Ty.args,Ty.rows]
 unfold v49
 simp (disch:=first|omega|(simp;done)|(simp;omega)) [h,-getElem?_pos]
theorem inScope_mk {ds:List DataD}{k p:Int}{n:Str}{m:Int}{ks:List Exp}{l:List (ArmH × Exp)}{t:Ty}{N:List Str}:inScope ds (.mk k p n m ks l t) N=(inScope1 ds (.mk k p n m ks l t) N∧∀ (i:Nat) x,(ks++l.map (·.2))[i]?=some x→inScope ds x (N++(Exp.mk k p n m ks l t).bound i)):=inScope_eq _ _ _
theorem good_mk {k p:Int}{n:Str}{m:Int}{ks:List Exp}{l:List (ArmH × Exp)}{t:Ty}:good (.mk k p n m ks l t)=(good1 (.mk k p n m ks l t)∧∀ x∈ks++l.map (·.2),good x):=good_eq _
theorem var_good {s:Str}(h:nameOk 97 122 s):good (varExp s):=by
 unfold varExp
 rw [good_mk]
 exact ⟨⟨rfl,rfl,rfl,.inl ⟨rfl,h,rfl,rfl⟩⟩,by simp⟩
theorem var_scope {ds:List DataD}{s:Str}{N:List Str}(h:s∈N):inScope ds (varExp s) N:=by
 unfold varExp
 rw [inScope_mk]
 exact ⟨⟨fun _=>h,fun h2=>absurd h2 (show ¬(1:Int)=2 by decide),fun h2=>absurd h2 (show ¬(1:Int)=8 by decide)⟩,by simp⟩
theorem con_good {s:Str}(h:nameOk 65 90 s):good (conExp s):=by
 unfold conExp
 rw [good_mk]
 exact ⟨⟨rfl,rfl,rfl,.inr (.inl ⟨rfl,h,rfl,rfl⟩)⟩,by simp⟩
theorem con_scope {ds:List DataD}{s:Str}{N:List Str}(h:∃ d∈ds,s∈cnames d):inScope ds (conExp s) N:=by
 unfold conExp
 rw [inScope_mk]
 exact ⟨⟨fun h2=>absurd h2 (show ¬(2:Int)=1 by decide),fun _=>h,fun h2=>absurd h2 (show ¬(2:Int)=8 by decide)⟩,by simp⟩
theorem lam_good {s:Str}{x:Exp}(h:nameOk 97 122 s)(hx:good x):good (.mk 4 0 s 0 [x] [] tz):=by
 rw [good_mk]
 exact ⟨⟨rfl,rfl,rfl,.inr (.inr (.inl ⟨rfl,h,⟨x,rfl⟩,rfl⟩))⟩,by simpa using hx⟩
theorem lam_scope {ds:List DataD}{s:Str}{x:Exp}{N:List Str}(hx:inScope ds x (N++[s])):inScope ds (.mk 4 0 s 0 [x] [] tz) N:=by
 rw [inScope_mk]
 refine ⟨⟨fun h2=>absurd h2 (show ¬(4:Int)=1 by decide),fun h2=>absurd h2 (show ¬(4:Int)=2 by decide),fun h2=>absurd h2 (show ¬(4:Int)=8 by decide)⟩,fun i y hy => ?_⟩
 rw [bound_mk,if_pos (.inl rfl)]
 match i with
 | 0=>cases hy;exact hx
 | i+1=>simp at hy
theorem app_good {f x:Exp}(hf:Heady f)(gf:good f)(gx:good x):good (.mk 5 0 [] 0 [f,x] [] tz):=by
 rw [good_mk]
 exact ⟨⟨rfl,rfl,rfl,.inr (.inr (.inr (.inl ⟨rfl,rfl,⟨f,x,rfl,hf⟩,rfl⟩)))⟩,by simp [gf,gx]⟩
theorem app_scope {ds:List DataD}{f x:Exp}{N:List Str}(hf:inScope ds f N)(hx:inScope ds x N):inScope ds (.mk 5 0 [] 0 [f,x] [] tz) N:=by
 rw [inScope_mk]
 refine ⟨⟨fun h2=>absurd h2 (show ¬(5:Int)=1 by decide),fun h2=>absurd h2 (show ¬(5:Int)=2 by decide),fun h2=>absurd h2 (show ¬(5:Int)=8 by decide)⟩,fun i y hy => ?_⟩
 rw [bound_mk,if_neg (by simp),if_neg (by simp),List.append_nil]
 match i with
 | 0=>cases hy;exact hf
 | 1=>cases hy;exact hx
 | i+2=>simp at hy
end Go.Vs.Tryz
namespace Go.Vs
open Go
section
variable {C:Ctx}
theorem wp_seqN {a b:VCode}{Q:Ex→St→Prop}{s:St}(R:St→Prop)(h1:wp C a (fun e s'=>(e=.normal∧R s')∨(e≠.normal∧Q e s')) s)(h2:∀ s',R s'→wp C b Q s'):wp C (.seq a b) Q s:=by
 rw [wp_seq]
 refine wp_mono h1 ?_
 rintro e s' (⟨rfl,h⟩|⟨h,h3⟩)
 ·exact h2 s' h
 ·cases e with
  | normal=>exact absurd rfl h
  | exit i=>exact h3
  | ret=>exact h3
end
end Go.Vs
namespace Go.Vs.Tryz
open Go Go.Vs
variable {A:Oracle}
def vnames:List Str:=[[120],[116],[102],[118]]
theorem vnames_ok {s:Str}(h:s∈vnames):nameOk 97 122 s:=by
 simp only [vnames,List.mem_cons,List.not_mem_nil,or_false] at h
 rcases h with rfl|rfl|rfl|rfl<;>exact ⟨by decide,⟨_,rfl,by decide,by decide⟩,by decide,by decide⟩
abbrev zbox:Obj:=.box [zi,zi,zs,zi,.nil,.nil,zi,zs,zi,zi,.nil]
def ArmT (L:List Int)(ds:List DataD)(N:List Str)(dd:DataD)(x:Exp)(B d i:Nat)(s:St):Prop:=∃ arms J,arms.length=i∧J≤L.length ∧
 (arms.map fun a=>a.1.con)=(cnames dd).take i∧(arms.map fun a=>a.1.vars.length)=(dd.cons.map fun c=>c.fields.length).take i ∧
 (∀ a∈arms,a.1.pos=0∧a.1.vars.length≤4∧(∀ v∈a.1.vars,nameOk 97 122 v)∧good a.2∧inScope ds a.2 (N++a.1.vars)∧a.2.weight≤B) ∧
 s=⟨[(0,.sc (.ptr 0 0)),(1,datasV ds),(2,strsV N),(3,intV (d+1)),(8,.sc (.ptr 64 0)),(11,.sc (.ptr 3008 0)),(12,.sc (.ptr 3776 0)),(13,intV i)],
  [(0,some (tapeO L J)),(64,some zbox),(3008,some (.box (wc (dataRow dd)))),(3648,some (.arr 11 [wc x.row] 0)),
    (3776,some (.box [.c (.int .i64 8),zi,zs,zi,.arr 3648 1,.arr 3846 i,zi,zs,zi,zi,.nil])),(3846,some (.arr 14 (wr (Exp.armRows arms)) 0))]⟩
def VarT (L:List Int)(ds:List DataD)(N:List Str)(dd:DataD)(x:Exp)(arms:List (ArmH × Exp))(con:Str)(J d i j:Nat)(s:St):Prop:=∃ vars:List Str,vars.length=j∧(∀ v∈vars,v∈vnames) ∧
 s=⟨[(0,.sc (.ptr 0 0)),(1,datasV ds),(2,strsV N),(3,intV (d+1)),(8,.sc (.ptr 64 0)),(11,.sc (.ptr 3008 0)),(12,.sc (.ptr 3776 0)),(13,intV i),(14,.sc (.ptr 4736 0)),(15,intV j)],
  [(0,some (tapeO L J)),(64,some zbox),(3008,some (.box (wc (dataRow dd)))),(3648,some (.arr 11 [wc x.row] 0)),
    (3776,some (.box [.c (.int .i64 8),zi,zs,zi,.arr 3648 1,.arr 3846 i,zi,zs,zi,zi,.nil])),(3846,some (.arr 14 (wr (Exp.armRows arms)) 0)),
    (4736,some (.box [zi,.c (.str con),.arr 4803 j,zi,zi,zs,zi,.nil,.nil,zi,zs,zi,zi,.nil])),(4803,some (.arr 1 (wr (strRows vars)) 0))]⟩
def conC (s:Str):List W:=[.c (.int .i64 2),zi,.c (.str s),zi,.nil,.nil,zi,zs,zi,zi,.nil]
theorem conRow_row (s:Str):(conExp s).row=[.int .i64 2,.int .i64 0,.str s,.int .i64 0,.sl [],.sl [],.int .i64 0,.str [],.int .i64 0,.int .i64 0,.sl []]:=by
 simp [conExp,Exp.row,tz,Exp.rows,Exp.armRows,Ty.kind,Ty.name,Ty.id,Ty.home,Ty.args,Ty.rows]
theorem appRow_row (f x:Exp):(Exp.mk 5 0 [] 0 [f,x] [] tz).row=[.int .i64 5,.int .i64 0,.str [],.int .i64 0,.sl [f.row,x.row],.sl [],.int .i64 0,.str [],.int .i64 0,.int .i64 0,.sl []]:=by
 simp [Exp.row,tz,Exp.rows,Exp.armRows,Ty.kind,Ty.name,Ty.id,Ty.home,Ty.args,Ty.rows]
def HeadT (L:List Int)(ds:List DataD)(N:List Str)(d:Nat)(st:St):Prop:=∃ e cells J,good e∧Heady e∧inScope ds e N∧e.weight=1∧J≤L.length∧(cells=wc e.row∨∃ c,e=conExp c∧cells=conC c) ∧
 (st=⟨[(0,.sc (.ptr 0 0)),(1,datasV ds),(2,strsV N),(3,intV d),(8,.sc (.ptr 64 0)),(16,.sc (.ptr 8448 0)),(138,boolV false)],[(0,some (tapeO L J)),(64,some zbox),(8448,some (.box cells))]⟩ ∨
   ∃ dd:DataD,st=⟨[(0,.sc (.ptr 0 0)),(1,datasV ds),(2,strsV N),(3,intV d),(8,.sc (.ptr 64 0)),(16,.sc (.ptr 8448 0))],[(0,some (tapeO L J)),(64,some zbox),(8448,some (.box cells)),(9536,some (.box (wc (dataRow dd))))]⟩)
def AppT (L:List Int)(ds:List DataD)(N:List Str)(B d n i:Nat)(s:St):Prop:=∃ e cells J,good e∧Heady e∧inScope ds e N∧e.weight≤1+i*(1+B)∧J≤L.length∧(cells=wc e.row∨∃ c,e=conExp c∧cells=conC c) ∧
 s=⟨[(0,.sc (.ptr 0 0)),(1,datasV ds),(2,strsV N),(3,intV d),(8,.sc (.ptr 64 0)),(16,.sc (.ptr 8448 0)),(18,intV (n-i:Nat))],
  [(0,some (tapeO L J)),(64,some zbox),(8448,some (.box cells))]⟩
theorem term51 (L:List Int)(ds:List DataD)(hL:L.length≤1073741824)(hds:goodDs ds)(hcn:conNames ds):∀ (d I:Nat)(N:List Str),d≤3→I≤L.length→N≠[]→(∀ s∈N,nameOk 97 122 s)→N.length+4*d≤1000 →
 ∃ r,TermP L ds N (32 ^ d) r∧(K A).call 51 [.sc (.ptr 0 0),datasV ds,strsV N,intV d] [tapeO L I]=some r:=by
 intro d
 induction d using Nat.strongRecOn with
 | ind d ih =>
 intro I N hd hI hN hNo hNl
 obtain ⟨k,J,hk,hJ,hc⟩:=next37 (A:=A) L I 8 hI hL (by omega) (by omega)
 refine fn_ofE _ (vf:=v51) (by kernel_rfl) rfl (by simp) ?_
 have hp:=pow_pos32 d
 have hds1:=hds.1
 have hNpos:0<N.length:=List.length_pos_iff.2 hN
 obtain ⟨c,hc8,hcs⟩:∃ c:Nat,(c<8∧(d=0→c=7))∧((d=0∧c=7)∨(d≠0∧k=c)):=by
  by_cases h:d=0
  ·exact ⟨7,⟨by omega,fun _=>rfl⟩,.inl ⟨h,rfl⟩⟩
  ·exact ⟨k,⟨by omega,fun h'=>absurd h' h⟩,.inr ⟨h,rfl⟩⟩
 unfold v51
 refine wp_seqE ⟨[(0,.sc (.ptr 0 0)),(1,datasV ds),(2,strsV N),(3,intV d),(8,.sc (.ptr 64 0))],[(0,some (tapeO L I)),(64,some zbox)]⟩ (by simp) ?_
 refine wp_seqE ⟨[(0,.sc (.ptr 0 0)),(1,datasV ds),(2,strsV N),(3,intV d),(8,.sc (.ptr 64 0)),(9,intV k)],[(0,some (tapeO L J)),(64,some zbox)]⟩ (by simp [hc]) ?_
 refine wp_seqI (fun s=>s=⟨[(0,.sc (.ptr 0 0)),(1,datasV ds),(2,strsV N),(3,intV d),(8,.sc (.ptr 64 0)),(9,intV c)],[(0,some (tapeO L J)),(64,some zbox)]⟩ ∨
  s=⟨[(0,.sc (.ptr 0 0)),(1,datasV ds),(2,strsV N),(3,intV d),(8,.sc (.ptr 64 0)),(9,intV c),(22,boolV false)],[(0,some (tapeO L J)),(64,some zbox)]⟩) ?_ ?_
 ·rcases hcs with ⟨rfl,rfl⟩|⟨h0,rfl⟩
  ·simp
  ·have h0':¬(d:Int)<1:=by omega
   simp (disch:=first|omega|(simp;done)|(simp;omega)) [h0,h0']
 intro s hs
 refine wp_seqN (fun s=>s=⟨[(0,.sc (.ptr 0 0)),(1,datasV ds),(2,strsV N),(3,intV d),(8,.sc (.ptr 64 0)),(40,boolV false)],[(0,some (tapeO L J)),(64,some zbox)]⟩) ?_ ?_
 ·rw [wp_block]
  refine wp_seqE ⟨[(0,.sc (.ptr 0 0)),(1,datasV ds),(2,strsV N),(3,intV d),(8,.sc (.ptr 64 0)),(9,intV c),(23,boolV (decide (c<2)))],[(0,some (tapeO L J)),(64,some zbox)]⟩ (by rcases hs with rfl | rfl<;>simp<;>omega) ?_
  clear hs s hc hk
  by_cases hc2:c<2
  ·obtain ⟨d',rfl⟩:∃ d',d=d'+1:=⟨d-1,by omega⟩
   obtain ⟨s,J1,hs,hJ1,hc1⟩:=variable38 (A:=A) L J hJ hL
   have hso:=nameOk_low hs
   obtain ⟨_,⟨x,J2,gx,sx,hxw,hJ2,rfl⟩,hrec⟩:=ih d' (by omega) J1 (N++[s]) (by omega) hJ1 (by simp) (by
    intro v hv
    rcases List.mem_append.1 hv with hv|hv
    ·exact hNo v hv
    ·simp only [List.mem_singleton] at hv
     exact hv▸hso) (by simp;omega)
   have hlam:=lam49 (A:=A) s x
   simp (maxSteps:=4000000) (disch:=first|omega|(simp;done)|(simp;omega)) [hc2,hc1,hrec,hlam,-getElem?_pos]
   refine ⟨.mk 4 0 s 0 [x] [] tz,J2,lam_good hso gx,lam_scope sx,?_,hJ2,rfl⟩
   have h32:32 ^ (d'+1)=32*32 ^ d':=by rw [Nat.pow_succ,Nat.mul_comm]
   rw [weight_mk,h32]
   simp
   have:=pow_pos32 d'
   omega
  ·by_cases hcase:c=2∧ds≠[]
   ·obtain ⟨rfl,hz⟩:=hcase
    obtain ⟨d',rfl⟩:∃ d',d=d'+1:=⟨d-1,by omega⟩
    have hp':=pow_pos32 d'
    have h32:32 ^ (d'+1)=32*32 ^ d':=by rw [Nat.pow_succ,Nat.mul_comm]
    have hpos:=List.length_pos_iff.2 hz
    obtain ⟨m,J1,hm,hJ1,hc1⟩:=next37 (A:=A) L J ds.length hJ hL (by omega) (by omega)
    obtain ⟨dd,hdd⟩:=get_of_lt (l:=ds) (i:=m) (by omega)
    have hdm:=List.mem_of_getElem? hdd
    obtain ⟨hg1,hg2,hg3,hg4⟩:=hds.2 dd hdm
    obtain ⟨q,J2,hq,hJ2,hc3⟩:=next37 (A:=A) L J1 N.length hJ1 hL (by omega) (by omega)
    obtain ⟨s,hs⟩:=get_of_lt (l:=N) (i:=q) (by omega)
    have hsN:=List.mem_of_getElem? hs
    have hv:=variable14 (A:=A) s
    simp (maxSteps:=4000000) (disch:=first|omega|(simp;done)|(simp;omega)) [hz,hN,hpos,hNpos,hc1,hdd,hc3,hs,hv,-getElem?_pos]
    refine wp_loopI (ArmT L ds N dd (varExp s) (32 ^ d') d') dd.cons.length ⟨[],J2,rfl,hJ2,by simp,by simp,by simp,by simp⟩ ?_ ?_
    ·rintro i st hi ⟨arms,J3,harms,hJ3,ha1,ha2,ha3,rfl⟩
     obtain ⟨cc,hcc⟩:=get_of_lt hi
     have hfl:=hg4 cc (List.mem_of_getElem? hcc)
     unfold l51_1
     simp (maxSteps:=4000000) (disch:=first|omega|(simp;done)|(simp;omega)) [hi,hcc,harms,-getElem?_pos]
     refine wp_loopI (VarT L ds N dd (varExp s) arms cc.name J3 d' i) cc.fields.length ⟨[],rfl,by simp,by simp [harms]⟩ ?_ ?_
     ·rintro j st hj ⟨vars,hvars,hva,rfl⟩
      have hmod:(j:Int).tmod 4=((j % 4:Nat):Int):=by rw [Int.tmod_eq_emod_of_nonneg (by omega)];omega
      have hj4:j % 4<4:=Nat.mod_lt _ (by omega)
      have hnb:natBelow (intV ((j:Int).tmod 4)) 4=some (j % 4):=by
       rw [hmod]
       exact natBelow_cast (k:=.i64) hj4
      obtain ⟨v,hv,hrow⟩:∃ v∈vnames,([[W.c (.str [120])],[W.c (.str [116])],[W.c (.str [102])],[W.c (.str [118])]]:List (List W))[j % 4]?=some [W.c (.str v)]:=by
       have:j % 4=0∨j % 4=1∨j % 4=2∨j % 4=3:=by omega
       rcases this with h|h|h|h<;>rw [h]<;>exact ⟨_,by simp [vnames],rfl⟩
      unfold l51_0
      simp (maxSteps:=4000000) (disch:=first|omega|(simp;done)|(simp;omega)) [hi,hj,hcc,hnb,hj4,hrow,hvars,harms,-getElem?_pos]
      refine ⟨vars++[v],by simp [hvars],?_,by simp [harms]⟩
      intro y hy
      rcases List.mem_append.1 hy with hy|hy
      ·exact hva y hy
      ·simp only [List.mem_singleton] at hy
       exact hy▸hv
     ·rintro st ⟨vars,hvars,hva,rfl⟩
      have hvo:∀ v∈vars,nameOk 97 122 v:=fun v hv=>vnames_ok (hva v hv)
      obtain ⟨_,⟨y,J5,gy,sy,hyw,hJ5,rfl⟩,hrec⟩:=ih d' (by omega) J3 (N++vars) (by omega) hJ3 (by simp [hN]) (by
       intro v hv
       rcases List.mem_append.1 hv with hv|hv
       ·exact hNo v hv
       ·exact hvo v hv) (by simp;omega)
      unfold l51_0
      simp (maxSteps:=4000000) (disch:=first|omega|(simp;done)|(simp;omega)) [hi,hcc,hrec,hvars,harms,-getElem?_pos]
      refine ⟨arms++[(⟨0,cc.name,vars⟩,y)],J5,by simp [harms],hJ5,?_,?_,?_,?_⟩
      ·have:(cnames dd)[i]?=some cc.name:=by simp [hcc]
       rw [List.map_append,ha1,take_next this]
       rfl
      ·have:(dd.cons.map fun c=>c.fields.length)[i]?=some cc.fields.length:=by simp [hcc]
       rw [List.map_append,ha2,take_next this]
       simp [hvars]
      ·intro a ha
       rcases List.mem_append.1 ha with ha|ha
       ·exact ha3 a ha
       ·simp only [List.mem_singleton] at ha
        subst ha
        exact ⟨rfl,by simp only;omega,hvo,gy,sy,hyw⟩
      ·simp [harms,Exp.armRows_map,wr,armRow]
    ·rintro st ⟨arms,J3,harms,hJ3,ha1,ha2,ha3,rfl⟩
     have hcl:(cnames dd).take dd.cons.length=cnames dd:=List.take_of_length_le (by simp)
     have hcl2:(dd.cons.map fun c=>c.fields.length).take dd.cons.length=dd.cons.map fun c=>c.fields.length:=List.take_of_length_le (by simp)
     rw [hcl] at ha1
     rw [hcl2] at ha2
     unfold l51_1
     simp (maxSteps:=4000000) (disch:=first|omega|(simp;done)|(simp;omega)) [harms,-getElem?_pos]
     refine ⟨.mk 8 0 [] 0 [varExp s] arms tz,J3,?_,?_,?_,hJ3,?_⟩
     ·rw [good_mk]
      refine ⟨⟨rfl,rfl,rfl,.inr (.inr (.inr (.inr ⟨rfl,rfl,⟨varExp s,rfl,rfl⟩,?_,?_⟩)))⟩,?_⟩
      ·intro h
       have h':arms=[]:=h
       rw [h'] at harms
       simp at harms
       omega
      ·intro a ha
       obtain ⟨b1,b2,b3,b4,b5,b6⟩:=ha3 a ha
       have hmem:a.1.con∈cnames dd:=ha1▸List.mem_map_of_mem (f:=fun a:ArmH × Exp=>a.1.con) ha
       obtain ⟨c,hc,hce⟩:=List.mem_map.1 hmem
       exact ⟨b1,hce▸hcn dd hdm c hc,b2,b3⟩
      ·intro x hx
       simp only [List.mem_append,List.mem_singleton,List.mem_map] at hx
       rcases hx with rfl|⟨a,ha,rfl⟩
       ·exact var_good (hNo s hsN)
       ·exact (ha3 a ha).2.2.2.1
     ·rw [inScope_mk]
      refine ⟨⟨fun h2=>absurd h2 (show ¬(8:Int)=1 by decide),fun h2=>absurd h2 (show ¬(8:Int)=2 by decide),fun _=>⟨dd,hdm,ha1,ha2⟩⟩,fun i y hy => ?_⟩
      cases i with
      | zero =>
       cases hy
       rw [bound_mk,if_neg (by simp),if_neg (by simp),List.append_nil]
       exact var_scope hsN
      | succ i =>
       simp at hy
       obtain ⟨p1,hp1⟩:=hy
       rw [bound_mk,if_neg (by simp),if_pos (by simp),Nat.add_sub_cancel,hp1]
       exact (ha3 _ (List.mem_of_getElem? hp1)).2.2.2.2.1
     ·rw [weight_mk]
      have h1:(arms.map fun a=>a.1.vars.length).sum≤(arms.map fun _=>4).sum:=sum_le fun a ha=>(ha3 a ha).2.1
      have h2:(arms.map fun a=>a.2.weight).sum≤(arms.map fun _=>32 ^ d').sum:=sum_le fun a ha=>(ha3 a ha).2.2.2.2.2
      simp only [List.map_const',List.sum_replicate_nat,harms] at h1 h2
      simp only [List.map_cons,List.map_nil,List.sum_cons,List.sum_nil]
      have h3:dd.cons.length*32 ^ d'≤6*32 ^ d':=Nat.mul_le_mul_right _ hg3
      have h4:(varExp s).weight=1:=by unfold varExp;rw [weight_mk];simp
      omega
     ·simp [expV,Exp.row,tz,Ty.kind,Ty.name,Ty.id,Ty.home,Ty.args,varExp]
   ·by_cases hce:c=2
    ·have hz:ds=[]:=by
      by_cases hz:ds=[]
      ·exact hz
      ·exact absurd ⟨hce,hz⟩ hcase
     subst hz
     have hz2:dataRows []=[]:=rfl
     simp (maxSteps:=4000000) (disch:=first|omega|(simp;done)|(simp;omega)) [hc2,hce,hz2,datasV,-getElem?_pos]
    ·have hce':¬(c:Int)=2:=by omega
     simp (maxSteps:=4000000) (disch:=first|omega|(simp;done)|(simp;omega)) [hc2,hce,hce',-getElem?_pos]
 ·rintro s rfl
  obtain ⟨q,J1,hq,hJ1,hc1⟩:=next37 (A:=A) L J N.length hJ hL (by omega) (by omega)
  obtain ⟨s,hs⟩:=get_of_lt (l:=N) (i:=q) (by omega)
  have hsN:=List.mem_of_getElem? hs
  have hv:=variable14 (A:=A) s
  have hvw:(varExp s).weight=1:=by unfold varExp;rw [weight_mk];simp
  refine wp_seqE ⟨[(0,.sc (.ptr 0 0)),(1,datasV ds),(2,strsV N),(3,intV d),(8,.sc (.ptr 64 0)),(16,.sc (.ptr 8448 0))],[(0,some (tapeO L J1)),(64,some zbox),(8448,some (.box (wc (varExp s).row)))]⟩ (by simp (maxSteps:=4000000) (disch:=first|omega|(simp;done)|(simp;omega)) [hc1,hs,hv,-getElem?_pos]) ?_
  refine wp_seqI (HeadT L ds N d) ?_ ?_
  ·by_cases hz:ds=[]
   ·subst hz
    have hz2:dataRows []=[]:=rfl
    simp (maxSteps:=4000000) (disch:=first|omega|(simp;done)|(simp;omega)) [datasV,hz2,-getElem?_pos]
    exact ⟨varExp s,wc (varExp s).row,J1,var_good (hNo s hsN),.inl rfl,var_scope hsN,hvw,hJ1,.inl rfl,.inl rfl⟩
   ·have hpos:=List.length_pos_iff.2 hz
    obtain ⟨w,J2,hw,hJ2,hc2⟩:=next37 (A:=A) L J1 3 hJ1 hL (by omega) (by omega)
    by_cases hw0:w=0
    ·subst hw0
     obtain ⟨m,J3,hm,hJ3,hc3⟩:=next37 (A:=A) L J2 ds.length hJ2 hL (by omega) (by omega)
     obtain ⟨dd,hdd⟩:=get_of_lt (l:=ds) (i:=m) (by omega)
     have hdm:=List.mem_of_getElem? hdd
     obtain ⟨hg1,hg2,hg3,hg4⟩:=hds.2 dd hdm
     obtain ⟨p,J4,hp4,hJ4,hc4⟩:=next37 (A:=A) L J3 dd.cons.length hJ3 hL (by omega) (by omega)
     obtain ⟨cc,hcc⟩:=get_of_lt (l:=dd.cons) (i:=p) (by omega)
     have hcm:=List.mem_of_getElem? hcc
     simp (maxSteps:=4000000) (disch:=first|omega|(simp;done)|(simp;omega)) [hz,hpos,hc2,hc3,hdd,hc4,hcc,-getElem?_pos]
     have hcw:(conExp cc.name).weight=1:=by unfold conExp;rw [weight_mk];simp
     exact ⟨conExp cc.name,conC cc.name,J4,con_good (hcn dd hdm cc hcm),.inr (.inl rfl),con_scope ⟨dd,hdm,List.mem_map_of_mem hcm⟩,hcw,hJ4,.inr ⟨cc.name,rfl,rfl⟩,.inr ⟨dd,rfl⟩⟩
    ·have hw0':¬(w:Int)=0:=by omega
     simp (maxSteps:=4000000) (disch:=first|omega|(simp;done)|(simp;omega)) [hz,hpos,hc2,hw0,hw0',-getElem?_pos]
     exact ⟨varExp s,wc (varExp s).row,J2,var_good (hNo s hsN),.inl rfl,var_scope hsN,hvw,hJ2,.inl rfl,.inl rfl⟩
  ·rintro st ⟨e,cells,J5,ge,ke,se,we,hJ5,hcells,hst⟩
   obtain ⟨n,J6,hn,hJ6,hc6⟩:=next37 (A:=A) L J5 3 hJ5 hL (by omega) (by omega)
   refine wp_assocE ⟨[(0,.sc (.ptr 0 0)),(1,datasV ds),(2,strsV N),(3,intV d),(8,.sc (.ptr 64 0)),(16,.sc (.ptr 8448 0)),(18,intV n)],[(0,some (tapeO L J6)),(64,some zbox),(8448,some (.box cells))]⟩ ?_ ?_
   ·rcases hcells with rfl|⟨cn,rfl,rfl⟩<;>rcases hst with rfl|⟨dd,rfl⟩<;>simp (maxSteps:=4000000) (disch:=first|omega|(simp;done)|(simp;omega)) [hc6,conC,-getElem?_pos]
   ·clear hst st
    simp (maxSteps:=4000000) (disch:=first|omega|(simp;done)|(simp;omega)) [-getElem?_pos]
    have hT0:∀ (e:Exp) (J:Nat),good e→inScope ds e N→e.weight≤32 ^ d→J≤L.length→TermP L ds N (32 ^ d) (expV e,[tapeO L J]):=fun e J g s w h=>⟨e,J,g,s,w,h,rfl⟩
    have hT1:∀ (c:Str) (J:Nat),good (conExp c)→inScope ds (conExp c) N→(conExp c).weight≤32 ^ d→J≤L.length→TermP L ds N (32 ^ d) (.ag [.c (.int .i64 2),.c (.int .i64 0),.c (.str c),.c (.int .i64 0),.c (.sl []),.c (.sl []),.c (.int .i64 0),.c (.str []),.c (.int .i64 0),.c (.int .i64 0),.c (.sl [])],[tapeO L J]):=fun c J g s w h=>⟨conExp c,J,g,s,w,h,by simp only [expV,conRow_eq]⟩
    by_cases hd0:d=0
    ·subst hd0
     refine wp_loopI (fun _ st=>st=⟨[(0,.sc (.ptr 0 0)),(1,datasV ds),(2,strsV N),(3,intV 0),(8,.sc (.ptr 64 0)),(16,.sc (.ptr 8448 0)),(18,intV n)],[(0,some (tapeO L J6)),(64,some zbox),(8448,some (.box cells))]⟩) 0 (by simp) (by intro i _ h;omega) ?_
     rintro st rfl
     unfold l51_2
     by_cases hn0:n=0
     ·rcases hcells with rfl|⟨cn,rfl,rfl⟩
      ·simp (maxSteps:=4000000) (disch:=first|omega|(simp;done)|(simp;omega)) [hn0,-getElem?_pos]
       exact hT0 e J6 ge se (by omega) hJ6
      ·simp (maxSteps:=4000000) (disch:=first|omega|(simp;done)|(simp;omega)) [hn0,conC,-getElem?_pos]
       exact hT1 cn J6 ge se (by omega) hJ6
     ·have hn1:0<n:=by omega
      rcases hcells with rfl|⟨cn,rfl,rfl⟩
      ·simp (maxSteps:=4000000) (disch:=first|omega|(simp;done)|(simp;omega)) [hn0,hn1,-getElem?_pos]
       exact hT0 e J6 ge se (by omega) hJ6
      ·simp (maxSteps:=4000000) (disch:=first|omega|(simp;done)|(simp;omega)) [hn0,hn1,conC,-getElem?_pos]
       exact hT1 cn J6 ge se (by omega) hJ6
    ·obtain ⟨d',rfl⟩:∃ d',d=d'+1:=⟨d-1,by omega⟩
     have hp':=pow_pos32 d'
     have h32:32 ^ (d'+1)=32*32 ^ d':=by rw [Nat.pow_succ,Nat.mul_comm]
     have hdp:(0:Int)<(d':Int)+1:=by omega
     refine wp_loopI (AppT L ds N (32 ^ d') (d'+1) n) n ⟨e,cells,J6,ge,ke,se,by omega,hJ6,hcells,by simp⟩ ?_ ?_
     ·rintro i st hi ⟨e,cells,J7,ge,ke,se,we,hJ7,hcells,rfl⟩
      obtain ⟨_,⟨x,J8,gx,sx,hxw,hJ8,rfl⟩,hrec⟩:=ih d' (by omega) J7 N (by omega) hJ7 hN hNo (by omega)
      have hw:IntKind.i64.wrap (((n-i:Nat):Int)-1)=((n-(i+1):Nat):Int):=by rw [wrap_in _ (by omega)];omega
      have hni:(0:Int)<((n-i:Nat):Int):=by omega
      have hni':0<n-i:=by omega
      have hwx:(Exp.mk 5 0 [] 0 [e,x] [] tz).weight≤1+(i+1)*(1+32 ^ d'):=by
       rw [weight_mk]
       simp only [List.map_cons,List.map_nil,List.sum_cons,List.sum_nil,Nat.add_mul]
       omega
      have res:AppT L ds N (32 ^ d') (d'+1) n (i+1) ⟨[(0,.sc (.ptr 0 0)),(1,datasV ds),(2,strsV N),(3,intV ((d':Int)+1)),(8,.sc (.ptr 64 0)),(16,.sc (.ptr 8448 0)),(18,intV (n-(i+1):Nat))],
       [(0,some (tapeO L J8)),(64,some zbox),(8448,some (.box (wc (Exp.mk 5 0 [] 0 [e,x] [] tz).row)))]⟩:=⟨_,_,J8,app_good ke ge gx,.inr (.inr rfl),app_scope se sx,hwx,hJ8,.inl rfl,by simp⟩
      rw [appRow_row] at res
      rcases hcells with rfl|⟨cn,rfl,rfl⟩
      ·unfold l51_2
       simp (maxSteps:=4000000) (disch:=first|omega|(simp;done)|(simp;omega)) [hni,hni',hdp,hi,hrec,hw,-getElem?_pos]
       simpa using res
      ·have hcr:=conRow_row cn
       rw [hcr] at res
       unfold l51_2
       simp (maxSteps:=4000000) (disch:=first|omega|(simp;done)|(simp;omega)) [hni,hni',hdp,hi,hrec,hw,conC,-getElem?_pos]
       simpa using res
     ·rintro st ⟨e,cells,J7,ge,ke,se,we,hJ7,hcells,rfl⟩
      have hwe:e.weight≤32 ^ (d'+1):=by
       have hn2:n*(1+32 ^ d')≤2*(1+32 ^ d'):=Nat.mul_le_mul_right _ (by omega)
       rw [h32]
       omega
      unfold l51_2
      rcases hcells with rfl|⟨cn,rfl,rfl⟩
      ·simp (maxSteps:=4000000) (disch:=first|omega|(simp;done)|(simp;omega)) [-getElem?_pos]
       exact hT0 e J7 ge se hwe hJ7
      ·simp (maxSteps:=4000000) (disch:=first|omega|(simp;done)|(simp;omega)) [conC,-getElem?_pos]
       exact hT1 cn J7 ge se hwe hJ7
variable {A:Oracle}
def MadeT (ds7:List DataD)(n:Nat)(r:V × List Obj):Prop:=∃ (ds:List DataD)(ctx:List EntD)(l:List Exp)(p:Nat),(∀ d∈ds,d∈ds7)∧goodDs ds∧ctx.length≤4∧(∀ s∈names ctx,nameOk 97 122 s)∧l.length=n ∧
 (∀ e∈l,good e∧inScope ds e (names ctx)∧e.weight≤32768)∧(p=0∨p=ctx.length)∧r=(.tu [datasV ds,.sc (.arr 0 ctx.length),.sc (.arr 1 n)],[.arr 7 (wr (entRows ctx)) p,.arr 11 (wr (Exp.rows l)) 0])
theorem made14 (bits:Int)(L:List Int)(ds7:List DataD)(hc7:conNames ds7)(n:Nat)(hn:n≤100)(hL:L.length≤1073741824)(h21:∃ r,DatasP ds7 r∧(K A).call 23 [intV bits] []=some r) :
 ∃ r,MadeT ds7 n r∧(K A).call 14 [intV bits,.sc (.c (.sl (intRows L))),intV n] []=some r:=by
 refine fn_ofE _ (vf:=v14) (by kernel_rfl) rfl (by simp) ?_
 obtain ⟨_,⟨ds,hds7,hds,rfl⟩,hc⟩:=h21
 have hcn:conNames ds:=fun d hd=>hc7 d (hds7 d hd)
 obtain ⟨_,⟨l,t,J,hl,hln,hJ,rfl⟩,hc1⟩:=context34 (A:=A) L ds hL hds 0 (by omega)
 have hi:=int29 (A:=A)
 have hm:=mono28 (A:=A) (.mk 4 [73,110,116] 0 0 [])
 have he:(W.c (.str [120])::wc (schRow 0 (.mk 4 [73,110,116] 0 0 [])))=wc (entRow ⟨[120],0,.mk 4 [73,110,116] 0 0 []⟩):=rfl
 simp [tapeO,intV,datasV] at hc1 hc
 unfold v14
 simp (disch:=first|omega|(simp;done)|(simp;omega)) [hc,hc1,hi,hm,he]
 have hname:∀ s∈names ((⟨[120],0,.mk 4 [73,110,116] 0 0 []⟩:EntD)::l),nameOk 97 122 s:=by
  intro s hs
  simp only [names,List.map_cons,List.mem_cons,List.mem_map] at hs
  rcases hs with rfl|⟨x,hx,rfl⟩
  ·exact nameOk_low (by simp [varNames])
  ·exact nameOk_low (hln x hx)
 have hlen:1+l.length=((⟨[120],0,.mk 4 [73,110,116] 0 0 []⟩:EntD)::l).length:=by simp;omega
 have hlen4:((⟨[120],0,.mk 4 [73,110,116] 0 0 []⟩:EntD)::l).length≤4:=by simp;omega
 have hne:((⟨[120],0,.mk 4 [73,110,116] 0 0 []⟩:EntD)::l)≠[]:=by simp
 have hr:wc (entRow ⟨[120],0,.mk 4 [73,110,116] 0 0 []⟩)::wr (entRows l)=wr (entRows (⟨[120],0,.mk 4 [73,110,116] 0 0 []⟩::l)):=rfl
 rw [hr,hlen]
 generalize ((⟨[120],0,.mk 4 [73,110,116] 0 0 []⟩:EntD)::l)=ctx at *
 have h52:=names36 (A:=A) ctx (by omega)
 have hnn:names ctx≠[]:=by
  cases ctx with
  | nil=>exact absurd rfl hne
  | cons a r=>simp [names]
 refine wp_loopI (fun i s=>∃ (es:List Exp) (J p:Nat),es.length=i∧J≤L.length∧(p=0∨p=ctx.length)∧(∀ e∈es,good e∧inScope ds e (names ctx)∧e.weight≤32768)∧s=⟨[(2,intV n),(9,.sc (.ptr 384 0)),(10,datasV ds),(11,.sc (.arr 1472 ctx.length)),(13,.sc (.arr 1729 i)),(14,intV i)],
  [(384,some (tapeO L J)),(1472,some (.arr 7 (wr (entRows ctx)) p)),(1729,some (.arr 11 (wr (Exp.rows es)) 0))]⟩) n ⟨[],J,0,rfl,hJ,.inl rfl,by simp,by simp⟩ ?_ ?_
 ·rintro i s hi2 ⟨es,J,p,hes,hJ,hp,hall,rfl⟩
  obtain ⟨d,J1,hd,hJ1,hcd⟩:=next37 (A:=A) L J 4 hJ hL (by omega) (by omega)
  obtain ⟨_,⟨e,J2,ge,se,we,hJ2,rfl⟩,hct⟩:=term51 (A:=A) L ds hL hds hcn d J1 (names ctx) (by omega) hJ1 hnn hname (by rw [names_len];omega)
  have hw:e.weight≤32768:=Nat.le_trans we (Nat.le_trans (Nat.pow_le_pow_right (by omega) (show d≤3 by omega)) (by decide))
  unfold l14_0
  simp (maxSteps:=4000000) (disch:=first|omega|(simp;done)|(simp;omega)) [hi2,h52,hcd,hct,hes,-getElem?_pos]
  refine ⟨es++[e],by simp [hes],J2,hJ2,.inr ⟨?_,rfl,rfl⟩⟩
  intro x hx
  rcases List.mem_append.1 hx with hx|hx
  ·exact hall x hx
  ·simp only [List.mem_singleton] at hx
   exact hx▸⟨ge,se,hw⟩
 ·rintro s ⟨es,J,p,hes,hJ,hp,hall,rfl⟩
  unfold l14_0
  simp (maxSteps:=4000000) (disch:=first|omega|(simp;done)|(simp;omega)) [hes,-getElem?_pos]
  exact ⟨ds,ctx,es,p,hds7,hds,hlen4,hname,hes,hall,hp,by simp [hes]⟩
theorem uniq.sub {ds ds7:List DataD}(h:uniq ds7)(hs:∀ d∈ds,d∈ds7):uniq ds:=fun d hd d' hd' c hc hc'=>h d (hs d hd) d' (hs d' hd') c hc hc'
theorem good.tyBd {e:Exp}:good e→tyBd e:=by
 induction e using Exp.ind with
 | h e ih =>
  intro g
  rw [tyBd_eq]
  refine ⟨?_,fun x hx=>ih x hx (g.child hx)⟩
  rw [g.one.2.2.1]
  decide
variable {A:Oracle}
def sameF (a:Exp)(l:List (Exp→Prop))(b:Exp):Prop:=a.kind=b.kind∧a.name=b.name∧a.num=b.num∧a.ty=b.ty∧a.kids.length=b.kids.length∧a.arms.length=b.arms.length ∧
 (∀ (i:Nat) p q,a.arms[i]?=some p→b.arms[i]?=some q→p.1.con=q.1.con∧p.1.vars=q.1.vars)∧∀ (i:Nat) f y,l[i]?=some f→b.children[i]?=some y→f y
def sameP (a:Exp):Exp→Prop:=a.fold sameF
theorem sameP_eq (a b:Exp):sameP a b=(a.kind=b.kind∧a.name=b.name∧a.num=b.num∧a.ty=b.ty∧a.kids.length=b.kids.length∧a.arms.length=b.arms.length ∧
 (∀ (i:Nat) p q,a.arms[i]?=some p→b.arms[i]?=some q→p.1.con=q.1.con∧p.1.vars=q.1.vars)∧∀ (i:Nat) x y,a.children[i]?=some x→b.children[i]?=some y→sameP x y):=by
 unfold sameP
 rw [Exp.fold_eq]
 unfold sameF
 simp only [List.getElem?_map,Option.map_eq_some_iff]
 apply propext
 refine and_congr_right fun _=>and_congr_right fun _=>and_congr_right fun _=>and_congr_right fun _=>and_congr_right fun _=>and_congr_right fun _=>and_congr_right fun _=>forall_congr' fun i => ?_
 constructor
 ·exact fun h x y hx hy=>h _ y ⟨x,hx,rfl⟩ hy
 ·rintro h f y ⟨x,hx,rfl⟩ hy
  exact h x y hx hy
theorem sameP_refl (a:Exp):sameP a a:=by
 induction a using Exp.ind with
 | h a ih =>
  rw [sameP_eq]
  refine ⟨rfl,rfl,rfl,rfl,rfl,rfl,fun i p q hp hq => ?_,fun i x y hx hy => ?_⟩
  ·rw [hp] at hq
   cases hq
   exact ⟨rfl,rfl⟩
  ·rw [hx] at hy
   cases hy
   exact ih x (List.mem_of_getElem? hx)
abbrev armV (p:ArmH × Exp):V:=.ag (wc (armRow p))
abbrev armsV (l:List (ArmH × Exp)):V:=.sc (.c (.sl (Exp.armRows l)))
def allR {α:Type}(R:α→α→Prop)(l m:List α):Prop:=l.length=m.length∧∀ (i:Nat) x y,l[i]?=some x→m[i]?=some y→R x y
def sameA (p q:ArmH × Exp):Prop:=p.1.con=q.1.con∧p.1.vars=q.1.vars∧sameP p.2 q.2
end Go.Vs.Tryz
namespace Go.Vs
open Go
def copyU (k s:Nat)(zs rows:List (List W)):Upd:=bif zs.isEmpty then [] else [(k,some (.arr s (zs++rows.drop zs.length) 0))]
def copyK (k n s:Nat)(ys:Option (List (List W)))(o:Option Obj):Option (V × Upd):=match ys,o with
 | some ys,some (.arr s' rows p)=>bif okRows s ys && (rows.length == n && s' == s && p == 0) then some (.sc (.c (.int .i64 (ys.take n).length)),copyU k s (ys.take n) rows) else none
 | _,_=>none
@[simp] theorem copyK_some {k n s s' p:Nat} {ys rows:List (List W)}:copyK k n s (some ys) (some (.arr s' rows p))=bif okRows s ys && (rows.length == n && s' == s && p == 0) then some (.sc (.c (.int .i64 (ys.take n).length)),copyU k s (ys.take n) rows) else none:=rfl
@[simp] theorem copy1_arr {L:Nat→Option Obj} {k n s:Nat} {y:V}:copy1 L s (.sc (.arr k n)) y=copyK k n s (rowsOf L y) (L k):=by
 unfold copy1 copyK
 cases rowsOf L y with
 | none=>rfl
 | some ys =>
  dsimp only
  unfold okRows copyU
  cases hL:L k with
  | none=>dsimp only;cases ys.all fun r=>r.length == s && r.all notUn<;>rfl
  | some o=>cases o with
   | box _=>dsimp only;cases ys.all fun r=>r.length == s && r.all notUn<;>rfl
   | arr s' rows p=>dsimp only;cases ys.all fun r=>r.length == s && r.all notUn<;>rfl
theorem get?_same {α:Type}{k:Nat}{a:α}:∀ {l:List (Nat × α)},get? l k=some a→put l k a=l
 | [],h=>by cases h
 | (j,b)::r,h=>by
  simp only [get?] at h
  simp only [put]
  cases hj:(j == k) with
  | true=>rw [hj] at h;simp only [cond_true,Option.some.injEq] at h ⊢;rw [h]
  | false=>rw [hj] at h;simp only [cond_false] at h ⊢;rw [get?_same h]
theorem putAll_copy {O:Objs}{k s:Nat}{zs rows:List (List W)}(h:get? O k=some (some (.arr s rows 0))):putAll O (copyU k s zs rows)=put O k (some (.arr s (zs++rows.drop zs.length) 0)):=by
 unfold copyU
 cases zs with
 | nil =>
  simp only [List.isEmpty_nil,cond_true,putAll_nil,List.nil_append,List.length_nil,List.drop_zero]
  exact (get?_same h).symm
 | cons a r=>rfl
theorem setRow_map {α γ:Type}(f:α→γ):∀ (l:List α)(i:Nat)(a:α),(setRow l i a).map f=setRow (l.map f) i (f a)
 | [],_,_=>rfl
 | _::_,0,_=>rfl
 | b::r,n+1,a=>by simp only [setRow,List.map_cons,setRow_map f r n a]
end Go.Vs
namespace Go.Vs.Tryz
open Go Go.Vs
variable {A:Oracle}
theorem with146 (e:Exp)(cs:List Exp)(h:cs.length=e.kids.length+e.arms.length)(hl:e.weight≤1073741824):(K A).call 146 [expV e,exsV cs] [] =
 some (.ag [.c (.int .i64 e.kind),.c (.int .i64 e.pos),.c (.str e.name),.c (.int .i64 e.num),.arr 0 e.kids.length,.arr 1 e.arms.length,.c (.int .i64 e.ty.kind),.c (.str e.ty.name),.c (.int .i64 e.ty.id),.c (.int .i64 e.ty.home),.c (.sl (Ty.rows e.ty.args))],
  [.arr 11 (wr (Exp.rows (cs.take e.kids.length))) 0,.arr 14 (wr (Exp.armRows (armsW e.arms (cs.drop e.kids.length)))) 0]):=by
 refine fn_of (vf:=v146) (by kernel_rfl) rfl (by simp) ?_
 have hle:=e.children_le
 rw [e.children_len] at hle
 have hrow:wc e.row=[.c (.int .i64 e.kind),.c (.int .i64 e.pos),.c (.str e.name),.c (.int .i64 e.num),.c (.sl (Exp.rows e.kids)),.c (.sl (Exp.armRows e.arms)),.c (.int .i64 e.ty.kind),.c (.str e.ty.name),.c (.int .i64 e.ty.id),.c (.int .i64 e.ty.home),.c (.sl (Ty.rows e.ty.args))]:=by rw [Exp.row_eq];rfl
 have hzl:(armsW e.arms (cs.drop e.kids.length)).length=e.arms.length:=by rw [armsW_len,List.length_drop];omega
 have htk:(wr (Exp.rows cs)).take e.kids.length=wr (Exp.rows (cs.take e.kids.length)):=by simp [Exp.rows_map,wr,List.map_take]
 have hcl:(cs.take e.kids.length).length=e.kids.length:=by rw [List.length_take];omega
 have hta:(wr (Exp.armRows e.arms)).take e.arms.length=wr (Exp.armRows e.arms):=List.take_of_length_le (by simp)
 unfold v146
 simp (maxSteps:=4000000) (disch:=first|omega|(simp;done)|(simp;omega)) [h,hrow,htk,hta,hcl,putAll_copy,-getElem?_pos]
 refine wp_loop (fun i=>⟨[(1,exsV cs),(2,.sc (.ptr 64 0)),(4,.sc (.ptr 128 0)),(5,intV e.kids.length),(6,.sc (.arr 1152 e.kids.length)),(7,.sc (.arr 1408 e.arms.length)),(35,intV e.arms.length),(36,intV i)],
  [(64,some (.box [.c (.int .i64 e.kind),.c (.int .i64 e.pos),.c (.str e.name),.c (.int .i64 e.num),.c (.sl (Exp.rows e.kids)),.c (.sl (Exp.armRows e.arms)),.c (.int .i64 e.ty.kind),.c (.str e.ty.name),.c (.int .i64 e.ty.id),.c (.int .i64 e.ty.home),.c (.sl (Ty.rows e.ty.args))])),
    (128,some zbox2),(1152,some (.arr 11 (wr (Exp.rows (cs.take e.kids.length))) 0)),(1408,some (.arr 14 (wr (Exp.armRows ((armsW e.arms (cs.drop e.kids.length)).take i++e.arms.drop i))) 0))]⟩) e.arms.length ?_ ?_ ?_
 ·simp
 ·intro i hi
  obtain ⟨a,ha⟩:=get_of_lt hi
  obtain ⟨c,hc⟩:=get_of_lt (l:=cs) (i:=e.kids.length+i) (by omega)
  have hz:(armsW e.arms (cs.drop e.kids.length))[i]?=some (a.1,c):=by
   unfold armsW
   rw [List.getElem?_zipWith,ha,List.getElem?_drop,hc]
  have hg:=get_step hzl hi
  rw [ha] at hg
  have hs:=set_step hzl hz
  have hln:=len_step (i:=i) hzl
  rw [←hs]
  generalize (armsW e.arms (cs.drop e.kids.length)).take i++e.arms.drop i=zz at hg hln ⊢
  have hset:=armrows_set zz i (a.1,c)
  have hsp:=arm_splice a c
  have hnb:natBelow (intV ((e.kids.length:Int)+i)) cs.length=some (e.kids.length+i):=natBelow_cast (k:=.i64) (n:=e.kids.length+i) (by omega)
  unfold l146_0
  simp (maxSteps:=4000000) (disch:=first|omega|(simp;done)|(simp;omega)) [hi,hg,hln,hc,hnb,hsp,hset,blt_dec,-getElem?_pos]
 ·have ht:(armsW e.arms (cs.drop e.kids.length)).take e.arms.length++e.arms.drop e.arms.length=armsW e.arms (cs.drop e.kids.length):=by
   rw [List.drop_length,List.append_nil,List.take_of_length_le (by omega)]
  rw [ht]
  unfold l146_0
  simp (maxSteps:=4000000) (disch:=first|omega|(simp;done)|(simp;omega)) [hzl,-getElem?_pos]
def armsB (l:List (ArmH × Exp)):List (ArmH × Exp):=l.map fun a=>(⟨a.1.pos,a.1.con,List.replicate a.1.vars.length []⟩,a.2)
@[simp] theorem armsB_len (l:List (ArmH × Exp)):(armsB l).length=l.length:=by simp [armsB]
def bareM (e:Exp)(cs:List Exp):Exp:=.mk e.kind e.pos (if e.kind=2 then e.name else []) e.num (cs.take e.kids.length) (armsB (armsW e.arms (cs.drop e.kids.length))) e.ty
end Go.Vs.Tryz
