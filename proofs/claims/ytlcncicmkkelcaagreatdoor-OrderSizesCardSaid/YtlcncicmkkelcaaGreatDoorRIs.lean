/- Spine, Size and the small parts of Compare by the reference, walked. (Parts of one proof, put together.) -/
import Derived.Test.YtlcncicmkkelcaaGreatDoorR6s
import Derived.Test.YtlcncicmkkelcaaGreatDoorR5s
import Derived.Test.YtlcncicmkkelcaaGreatDoorR7s
import Derived.Test.YtlcncicmkkelcaaGreatDoorR8s
import Derived.Test.YtlcncicmkkelcaaGreatDoorRHs
import Derived.Test.YtlcncicmkkelcaaGreatDoorX0s
set_option linter.unusedSimpArgs false
set_option linter.unusedVariables false
set_option linter.deprecated false
set_option maxHeartbeats 16000000
namespace Go.Vs.Tryz
open Go Go.Vs
variable {A:Oracle}
def Zaf (cur:Exp)(acc:List Exp):St:=if acc=[] then ⟨[(1,.sc (.ptr 64 0)),(2,.sc (.ptr 128 0)),(4,.sc .nil)],[(64,some (.box (wc cur.row))),(128,some (.box [zi,zi,zs,zi,.nil,.nil,zi,zs,zi,zi,.nil]))]⟩
 else ⟨[(1,.sc (.ptr 64 0)),(2,.sc (.ptr 128 0)),(4,expsV acc)],[(64,some (.box (wc cur.row))),(128,some (.box [zi,zi,zs,zi,.nil,.nil,zi,zs,zi,zi,.nil])),(768,some (.arr 11 (wr (Exp.rows acc)) acc.length))]⟩
theorem Zau (x:Exp)(l:List Exp):wc x.row::wr (Exp.rows l)=wr (Exp.rows (x::l)):=by rw [Exp.rows];rfl
theorem ZaL (e:Exp)(hg:good e)(hk:Heady e)(hl:e.weight≤1073741824):(K A).call 98 [expV e] []=some (.tu [expV (spine e).1,expsV (spine e).2],[]):=by
 refine fn_of (vf:=v98) (by kernel_rfl) rfl (by simp) ?_
 obtain ⟨s1,s2,s3,s4,s5⟩:=spine_good e hg hk
 unfold v98
 simp (disch:=first|omega|(simp;done)|(simp;omega)) [-getElem?_pos]
 refine wp_loopI (fun i s=>∃ cur acc,good cur∧Heady cur∧acc.length=i∧spine e=((spine cur).1,(spine cur).2++acc)∧s=Zaf cur acc) (spine e).2.length ⟨e,[],hg,hk,rfl,by simp,by simp [Zaf]⟩ ?_ ?_
 ·rintro i s hi ⟨cur,acc,hc,hck,ha,hs,rfl⟩
  have h5:cur.kind=5:=by
   by_cases h5:cur.kind=5
   ·exact h5
   ·rw [hs,spine_no h5] at hi
    simp [ha] at hi
  obtain ⟨f,x,hfx,hf,gf,gx,har⟩:=hc.app h5
  have hok:=okRows_exp acc
  have hal:acc.length≤1073741824:=by omega
  have hcm:(acc.length+1 == 1+acc.length)=true:=by simp [Nat.add_comm]
  refine wp_mono (Q:=fun e' s'=>e'=.normal∧s'=Zaf f (x::acc)) ?_ ?_
  ·rw [show Zaf f (x::acc)=_ from if_neg (List.cons_ne_nil x acc)]
   by_cases hn:acc=[]
   ·subst hn
    rw [show Zaf cur []=_ from if_pos rfl]
    unfold l98_0
    simp (disch:=first|omega|(simp;done)|(simp;omega)) [h5,hfx,List.getElem?_cons_zero,-getElem?_pos]
   ·rw [show Zaf cur acc=_ from if_neg hn]
    unfold l98_0
    simp (disch:=first|omega|(simp;done)|(simp;omega)) [h5,hfx,hok,Zau,hcm,List.getElem?_cons_zero,-getElem?_pos]
  ·rintro e' s' ⟨rfl,rfl⟩
   refine .inl ⟨rfl,f,x::acc,gf,hf,by simp [ha],?_,rfl⟩
   rw [hs,spine_app h5 hfx]
   simp
 ·rintro s ⟨cur,acc,hc,hck,ha,hs,rfl⟩
  have h5:¬cur.kind=5:=by
   intro h5
   obtain ⟨f,x,hfx,hf,gf,gx,har⟩:=hc.app h5
   rw [hs,spine_app h5 hfx] at ha
   simp at ha
   omega
  have hr:(spine e).2=acc:=by rw [hs,spine_no h5];simp
  have hc1:(spine e).1=cur:=by rw [hs,spine_no h5]
  rw [hr,hc1]
  unfold l98_0 Zaf
  cases acc with
  | nil=>simp (disch:=first|omega|(simp;done)|(simp;omega)) [h5,-getElem?_pos]
  | cons y r=>simp (disch:=first|omega|(simp;done)|(simp;omega)) [h5,-getElem?_pos]
variable {A:Oracle}
theorem size42 (e:Exp):good e→e.weight≤1073741824→(K A).call 42 [expV e] []=some (intV (sizeM e),[]):=by
 induction e using Exp.indW with
 | h e ih =>
 intro hg hl
 refine fn_of (vf:=v42) (by kernel_rfl) rfl (by simp) ?_
 have hle:=sizeM_le e
 by_cases h4:e.kind=4
 ·obtain ⟨x,hk,gx,ha⟩:=hg.lam h4
  have hxw:=Exp.child_lt (e:=e) (x:=x) (by simp [Exp.children,hk])
  have hx:=ih x hxw gx (by omega)
  have hxl:=sizeM_le x
  have hs:sizeM e=1+sizeM x:=by rw [sizeM_eq];simp [h4,Exp.children,hk,ha]
  unfold v42
  simp (disch:=first|omega|(simp;done)|(simp;omega)) [h4,hk,hx,hs,List.getElem?_cons_zero,-getElem?_pos]
 ·by_cases h8:e.kind=8
  ·obtain ⟨x,hk,hx1,gx,ha,hall⟩:=hg.case h8
   have hs:sizeM e=1+(e.arms.map fun a=>sizeM a.2).sum:=by rw [sizeM_eq];simp [h8,Exp.children,hk,Function.comp_def]
   have sum_i:∀ i,((e.arms.take i).map fun a=>sizeM a.2).sum≤(e.arms.map fun a=>sizeM a.2).sum:=fun i=>by rw [List.map_take];exact sum_take
   have hal:e.arms.length≤1073741824:=by have:=e.children_le;rw [e.children_len] at this;omega
   unfold v42
   simp (disch:=first|omega|(simp;done)|(simp;omega)) [h8,-getElem?_pos]
   refine wp_loop (fun i=>⟨[(1,.sc (.ptr 64 0)),(3,intV (1+((e.arms.take i).map fun a=>sizeM a.2).sum:Nat)),(4,intV i)],[(64,some (.box (wc e.row)))]⟩) e.arms.length ?_ ?_ ?_
   ·simp
   ·intro i hi
    obtain ⟨y,hy⟩:=get_of_lt hi
    have hym:y∈e.arms:=List.mem_of_getElem? hy
    have hyw:=Exp.child_lt (arm_mem hym)
    have hrec:=ih y.2 hyw (hall y hym) (by omega)
    have h1:=sum_i (i+1)
    rw [take_next hy] at h1 ⊢
    simp only [List.map_append,List.sum_append,List.map_cons,List.map_nil,List.sum_cons,List.sum_nil] at h1 ⊢
    unfold l42_0
    simp (disch:=first|omega|(simp;done)|(simp;omega)) [hi,hy,hrec,-getElem?_pos]
    rw [List.map_take] at h1
    rw [wrap_in _ (by omega)]
    omega
   ·unfold l42_0
    simp (disch:=first|omega|(simp;done)|(simp;omega)) [hs,-getElem?_pos]
  ·have hk:=hg.heady h4 h8
   obtain ⟨s1,s2,s3,s4,s5⟩:=spine_good e hg hk
   have hsp:=ZaL (A:=A) e hg hk hl
   generalize hL:(spine e).2=l at s3 s4 s5 hsp
   have sum_i:∀ i,((l.take i).map sizeM).sum≤(l.map sizeM).sum:=fun i=>by rw [List.map_take];exact sum_take
   unfold v42
   simp (disch:=first|omega|(simp;done)|(simp;omega)) [h4,h8,hsp,-getElem?_pos]
   refine wp_loop (fun i=>⟨[(3,intV (1+((l.take i).map sizeM).sum:Nat)),(6,expsV l),(7,intV i)],[]⟩) l.length ?_ ?_ ?_
   ·simp
   ·intro i hi
    obtain ⟨y,hy⟩:=get_of_lt hi
    have hym:y∈l:=List.mem_of_getElem? hy
    have hyw:y.weight≤(l.map Exp.weight).sum:=sum_mem (f:=Exp.weight) hym
    have hrec:=ih y (by omega) (s3 y hym) (by omega)
    have h1:=sum_i (i+1)
    rw [take_next hy] at h1 ⊢
    simp only [List.map_append,List.sum_append,List.map_cons,List.map_nil,List.sum_cons,List.sum_nil] at h1 ⊢
    unfold l42_1
    simp (disch:=first|omega|(simp;done)|(simp;omega)) [hi,hy,hrec,-getElem?_pos]
    rw [List.map_take] at h1
    rw [wrap_in _ (by omega)]
    omega
   ·unfold l42_1
    simp (disch:=first|omega|(simp;done)|(simp;omega)) [s4,-getElem?_pos]
variable {A:Oracle}
theorem good.shp {e:Exp}:good e→shp e:=by
 induction e using Exp.ind with
 | h e ih =>
  intro h
  rw [shp_eq]
  refine ⟨?_,fun x hx=>ih x hx (h.child hx)⟩
  obtain ⟨_,hn,ht,_⟩:=h.one
  refine ⟨h.wf.one,fun _=>⟨hn,ht⟩,?_⟩
  unfold kidsN
  rcases h.cases with ⟨k,_,hk,ha⟩|⟨k,_,hk,ha⟩|⟨k,_,⟨x,hk,_⟩,ha⟩|⟨k,_,⟨f,x,hk,_⟩,ha⟩|⟨k,_,⟨x,hk,_⟩,_⟩
  ·rw [hk,if_neg (by omega),if_neg (by omega)];rfl
  ·rw [hk,if_neg (by omega),if_neg (by omega)];rfl
  ·rw [hk,if_neg (by omega),if_pos (by omega)];rfl
  ·rw [hk,if_pos (by omega)];rfl
  ·rw [hk,if_neg (by omega),if_pos (by omega)];rfl
theorem good.free {e:Exp}:good e→∀ s∈freeP e,s.length≤12:=by
 induction e using Exp.ind with
 | h e ih =>
  intro h s hs
  by_cases hk:e.kind=1
  ·rw [mem_freeP_var hk] at hs
   subst hs
   rcases h.cases with ⟨_,n,_⟩|⟨k,_⟩|⟨k,_⟩|⟨k,_⟩|⟨k,_⟩
   ·exact n.1
   all_goals (exfalso;omega)
  ·obtain ⟨i,x,hx,h1,_⟩:=(mem_freeP hk).1 hs
   exact ih x (List.mem_of_getElem? hx) (h.child (List.mem_of_getElem? hx)) s h1
theorem Zab {l:List EntD}:∀ i,∀ e∈seenTo l i,e∈l
 | 0,e,h=>by simp [seenTo] at h
 | i+1,e,h=>by
  simp only [seenTo] at h
  cases hl:l[i]? with
  | none=>rw [hl] at h;exact Zab i e h
  | some x =>
   rw [hl] at h
   simp only at h
   split at h
   ·exact Zab i e h
   ·rcases List.mem_append.1 h with h|h
    ·exact Zab i e h
    ·rw [List.mem_singleton.1 h]
     exact List.mem_of_getElem? hl
theorem ZaE {ctx:List EntD}{s:Str}(h:s∈seenN ctx):s∈names ctx:=by
 unfold seenN names at h
 obtain ⟨e,he,rfl⟩:=List.mem_map.1 h
 exact List.mem_map.2 ⟨e,Zab _ e he,rfl⟩
theorem Zao (ctx:List EntD)(e:Exp)(hw:e.wf)(hc:ctx.length≤1000)(he:e.weight≤400000) :
 (K A).call 17 [entsV ctx,expV e] []=some (expV (canonT e (seenN ctx)),[]):=by
 refine fn_of (vf:=v17) (by kernel_rfl) rfl (by simp) ?_
 have h1:=seen44 (A:=A) ctx (by omega)
 have hl:(seenTo ctx ctx.length).length≤1000:=Nat.le_trans (seenTo_len ctx _) hc
 have h2:=names36 (A:=A) (seenTo ctx ctx.length) (by omega)
 have h3:=canonical40 (A:=A) e (seenN ctx) hw (by have:=seenN_len ctx;omega)
 have hsn:names (seenTo ctx ctx.length)=seenN ctx:=rfl
 rw [hsn] at h2
 generalize seenN ctx=tk at *
 unfold v17
 simp (maxSteps:=4000000) (disch:=first|omega|(simp;done)|(simp;omega)) [h1,h2,h3,-getElem?_pos]
theorem Zas (ctx:List EntD)(e:Exp)(hs:shp e)(hc:ctx.length≤1000)(he:e.weight≤400000)(h1:∀ s∈seenN ctx,s.length≤281474976710656)(h2:∀ s∈freeP e,s.length≤281474976710656) :
 (K A).call 43 [entsV ctx,expV e] []=some (expV (canonT e (seenN ctx)),[]):=by
 refine fn_of (vf:=v43) (by kernel_rfl) rfl (by simp) ?_
 have c1:=taken40 (A:=A) ctx (by omega)
 have hsn:names (seenTo ctx ctx.length)=seenN ctx:=rfl
 rw [hsn] at c1
 have c2:=Zaq (A:=A) e (seenN ctx) hs (by have:=seenN_len ctx;omega) h1 h2
 generalize seenN ctx=tk at *
 unfold v43
 simp (maxSteps:=4000000) (disch:=first|omega|(simp;done)|(simp;omega)) [c1,c2,-getElem?_pos]
theorem ZaJ (ctx:List EntD)(z:Int)(n:Nat)(hz:(n:Int)=max z 0)(hz1:-536870912≤z)(hn:n≤100000)(hc:ctx.length≤1000)(h1:∀ s∈seenN ctx,s.length≤281474976710656) :
 (K A).call 44 [entsV ctx,intV z] []=some (strV (freshS n (seenN ctx)),[]):=by
 refine fn_of (vf:=v44) (by kernel_rfl) rfl (by simp) ?_
 have c1:=taken40 (A:=A) ctx (by omega)
 have hsn:names (seenTo ctx ctx.length)=seenN ctx:=rfl
 rw [hsn] at c1
 have c2:=fresh28 (A:=A) z n hz hz1 (seenN ctx) (by omega) (by have:=seenN_len ctx;omega) h1
 generalize seenN ctx=tk at *
 unfold v44
 simp (maxSteps:=4000000) (disch:=first|omega|(simp;done)|(simp;omega)) [c1,c2,-getElem?_pos]
theorem ZaK (ctx:List EntD)(n:Nat)(hn:n≤100000)(hc:ctx.length≤1000) :
 (K A).call 45 [entsV ctx,intV n] []=some (strV (freshS n (seenN ctx)),[]):=by
 refine fn_of (vf:=v45) (by kernel_rfl) rfl (by simp) ?_
 have h1:=seen44 (A:=A) ctx (by omega)
 have hl:(seenTo ctx ctx.length).length≤1000:=Nat.le_trans (seenTo_len ctx _) hc
 have h2:=names36 (A:=A) (seenTo ctx ctx.length) (by omega)
 have h3:=fresh29 (A:=A) n (seenN ctx) (by omega) (by have:=seenN_len ctx;omega)
 have hsn:names (seenTo ctx ctx.length)=seenN ctx:=rfl
 rw [hsn] at h2
 generalize seenN ctx=tk at *
 unfold v45
 simp (maxSteps:=4000000) (disch:=first|omega|(simp;done)|(simp;omega)) [h1,h2,h3,-getElem?_pos]
theorem ZaG (bits:Int)(L:List Int)(n:Int)(ds7:List DataD)(h7:ds7.length=7)(hg:∀ d∈ds7,goodD d)(hc7:conNames ds7)(h55:(K A).call 71 [] []=some (datasV ds7,[]))(hf:(K A).call 12 [] []=some (boolV true,[])) :
 (K A).call 11 [intV bits,.sc (.c (.sl (intRows L))),intV n] []=some (boolV true,[]):=by
 refine fn_of (vf:=v11) (by kernel_rfl) rfl (by simp) ?_
 have h8:(K A).call 13 [.sc (.c (.sl (intRows L)))] []=some (boolV (decide (L.length≤60)),[]):=few8 L
 unfold v11
 by_cases hL:L.length≤60
 case neg=>simp (disch:=first|omega|(simp;done)|(simp;omega)) [hf,h8,hL]
 obtain ⟨_,⟨ds,ctx,l,p,hd7,hds,hctx,hname,hl,hall,hp,rfl⟩,hm⟩:=made14 (A:=A) bits L ds7 hc7 4 (by omega) (by omega) (datas21 bits ds7 h7 hg h55)
 rw [show ((4:Nat):Int)=4 from rfl] at hm
 have hsn:∀ s∈seenN ctx,s.length≤281474976710656:=fun s hs=>by
  have:=(hname s (ZaE hs)).1
  omega
 simp (maxSteps:=4000000) (disch:=first|omega|(simp;done)|(simp;omega)) [hf,h8,hL,hm,-getElem?_pos]
 refine wp_loopI (fun i s=>∃ q,(q=0∨q=ctx.length)∧s=⟨[(2,intV n),(8,.sc (.arr 736 ctx.length)),(9,.sc (.arr 737 4)),(10,intV i)],[(736,some (.arr 7 (wr (entRows ctx)) q)),(737,some (.arr 11 (wr (Exp.rows l)) 0))]⟩) 4 ⟨p,hp,by simp⟩ ?_ ?_
 ·rintro i s hi ⟨q,hq,rfl⟩
  obtain ⟨x,hx⟩:=get_of_lt (l:=l) (i:=i) (by omega)
  obtain ⟨gx,_,wx⟩:=hall x (List.mem_of_getElem? hx)
  have hi2:(i:Int)<4:=by omega
  have c1:=size32 (A:=A) x gx (by omega)
  have c2:=size42 (A:=A) x gx (by omega)
  have c3:=Zas (A:=A) ctx x gx.shp (by omega) (by omega) hsn (fun s hs=>by have:=gx.free s hs;omega)
  have c4:=Zao (A:=A) ctx x gx.wf (by omega) (by omega)
  have wt:=canonT_weight (seenN ctx) gx.wf
  obtain ⟨x1,i1,e1⟩:=equal35 (A:=A) (canonT x (seenN ctx)) (canonT x (seenN ctx)) (canonT_tyBd _ gx.wf gx.tyBd) (by omega) (by omega)
  rw [i1.get (sameP_refl _)] at e1
  generalize canonT x (seenN ctx)=cx at *
  unfold l11_0
  simp (maxSteps:=4000000) (disch:=first|omega|(simp;done)|(simp;omega)) [hi2,hx,hl,c1,c2,c3,c4,e1,-getElem?_pos]
 ·rintro s ⟨q,hq,rfl⟩
  obtain ⟨k,hk,hmk⟩:=mod10 (A:=A) n 30 (by omega) (by omega)
  obtain ⟨j,hj,hmj⟩:=mod10 (A:=A) n 9 (by omega) (by omega)
  have f1:=ZaJ (A:=A) ctx (k:Int) k (by omega) (by omega) (by omega) (by omega) hsn
  have f2:=ZaK (A:=A) ctx k (by omega) (by omega)
  have f3:=ZaJ (A:=A) ctx (-1-(j:Int)) 0 (by omega) (by omega) (by omega) (by omega) hsn
  have f4:=ZaK (A:=A) ctx 0 (by omega) (by omega)
  have h00:((0:Nat):Int)=0:=rfl
  rw [h00] at f4
  unfold l11_0
  simp (maxSteps:=4000000) (disch:=first|omega|(simp;done)|(simp;omega)) [hl,hmk,hmj,f1,f2,f3,f4,-getElem?_pos]
variable {A:Oracle}
theorem con7:conNames ds7:=by
 intro d hd c hc
 simp only [ds7,List.mem_cons,List.not_mem_nil,or_false] at hd
 rcases hd with rfl|rfl|rfl|rfl|rfl|rfl|rfl<;>simp only [List.mem_cons,List.not_mem_nil,or_false] at hc
 ·rcases hc with rfl|rfl<;>exact ⟨by decide,⟨_,rfl,by decide,by decide⟩,by decide,by decide⟩
 ·rcases hc with rfl|rfl<;>exact ⟨by decide,⟨_,rfl,by decide,by decide⟩,by decide,by decide⟩
 ·rcases hc with rfl|rfl<;>exact ⟨by decide,⟨_,rfl,by decide,by decide⟩,by decide,by decide⟩
 ·rcases hc with rfl<;>exact ⟨by decide,⟨_,rfl,by decide,by decide⟩,by decide,by decide⟩
 ·rcases hc with rfl|rfl<;>exact ⟨by decide,⟨_,rfl,by decide,by decide⟩,by decide,by decide⟩
 ·rcases hc with rfl<;>exact ⟨by decide,⟨_,rfl,by decide,by decide⟩,by decide,by decide⟩
 ·rcases hc with rfl|rfl<;>exact ⟨by decide,⟨_,rfl,by decide,by decide⟩,by decide,by decide⟩
theorem ZaA (bits:Int)(L:List Int)(n:Int)(d7:List DataD)(_:d7.length=7)(_:∀ d∈d7,goodD d)(h55:(K A).call 71 [] []=some (datasV ds7,[]))(hf:(K A).call 12 [] []=some (boolV true,[])) :
 (K A).call 11 [intV bits,.sc (.c (.sl (intRows L))),intV n] []=some (boolV true,[]):=ZaG bits L n ds7 rfl good7 con7 h55 hf
end Go.Vs.Tryz
