/- Canonical forms by the program, walked. (Parts of one proof, put together.) -/
import Derived.Test.YtlcncicmkkelcaaGreatDoorR8s
import Derived.Test.YtlcncicmkkelcaaGreatDoorRGs
set_option linter.unusedSimpArgs false
set_option linter.unusedVariables false
set_option linter.deprecated false
set_option maxHeartbeats 64000000
set_option maxRecDepth 20000
namespace Go.Vs
theorem Zak {α:Type}:∀ (l:List α) (i:Nat) (a:α),i<l.length→(setRow l i a)[i]?=some a
 | [],_,_,h=>by simp at h
 | _::_,0,_,_=>rfl
 | _::r,n+1,a,h=>by
  simp only [setRow,List.getElem?_cons_succ]
  exact Zak r n a (by simpa using h)
theorem Zal {α:Type}:∀ (l:List α) (i:Nat) (a b:α),setRow (setRow l i a) i b=setRow l i b
 | [],_,_,_=>rfl
 | _::_,0,_,_=>rfl
 | _::r,n+1,a,b=>by simp only [setRow,Zal r n a b]
theorem Zaj {α:Type}:∀ (l:List α) (i:Nat) (a:α),(setRow l i a).length=l.length
 | [],_,_=>rfl
 | _::_,0,_=>rfl
 | _::r,n+1,a=>by simp only [setRow,List.length_cons,Zaj r n a]
end Go.Vs
namespace Go.Vs.Tryz
open Go Go.Vs
variable {A:Oracle}
theorem ZaB {oid s bytes:Nat}{zero:List W}(h2:zero.length=s)(h3:0<s):mkSK oid s bytes zero (.sc (.c (.int .i64 0)))=some (.sc (.arr oid 0),[(oid,some (.arr s [] 0))]):=by
 have:=mkSK_nat (oid:=oid) (s:=s) (bytes:=bytes) (m:=0) (zero:=zero) (k:=.i64) (by omega) h2 h3 (by omega)
 simpa using this
theorem ZaF (e:Exp)(cs:List Exp)(h:cs.length=e.kids.length+e.arms.length)(hl:e.weight≤1073741824):(K A).call 146 [expV e,.sc (.arr 0 (e.kids.length+e.arms.length))] [.arr 11 (wr (Exp.rows cs)) 0] =
 some (.ag [.c (.int .i64 e.kind),.c (.int .i64 e.pos),.c (.str e.name),.c (.int .i64 e.num),.arr 1 e.kids.length,.arr 2 e.arms.length,.c (.int .i64 e.ty.kind),.c (.str e.ty.name),.c (.int .i64 e.ty.id),.c (.int .i64 e.ty.home),.c (.sl (Ty.rows e.ty.args))],
  [.arr 11 (wr (Exp.rows cs)) 0,.arr 11 (wr (Exp.rows (cs.take e.kids.length))) 0,.arr 14 (wr (Exp.armRows (armsW e.arms (cs.drop e.kids.length)))) 0]):=by
 refine fn_of (vf:=v146) (by kernel_rfl) rfl (by simp) ?_
 have hle:=e.children_le
 rw [e.children_len] at hle
 have hrow:wc e.row=[.c (.int .i64 e.kind),.c (.int .i64 e.pos),.c (.str e.name),.c (.int .i64 e.num),.c (.sl (Exp.rows e.kids)),.c (.sl (Exp.armRows e.arms)),.c (.int .i64 e.ty.kind),.c (.str e.ty.name),.c (.int .i64 e.ty.id),.c (.int .i64 e.ty.home),.c (.sl (Ty.rows e.ty.args))]:=by rw [Exp.row_eq];rfl
 have hzl:(armsW e.arms (cs.drop e.kids.length)).length=e.arms.length:=by rw [armsW_len,List.length_drop];omega
 have htk:(wr (Exp.rows cs)).take e.kids.length=wr (Exp.rows (cs.take e.kids.length)):=by simp [Exp.rows_map,wr,List.map_take]
 have hcl:(cs.take e.kids.length).length=e.kids.length:=by rw [List.length_take];omega
 have hta:(wr (Exp.armRows e.arms)).take e.arms.length=wr (Exp.armRows e.arms):=List.take_of_length_le (by simp)
 unfold v146
 simp (maxSteps:=4000000) (disch:=first|omega|(simp;done)|(simp;omega)) [h,hrow,htk,hta,hcl,putAll_copy,-getElem?_pos]
 refine wp_loop (fun i=>⟨[(1,.sc (.arr 0 (e.kids.length+e.arms.length))),(2,.sc (.ptr 64 0)),(4,.sc (.ptr 128 0)),(5,intV e.kids.length),(6,.sc (.arr 1152 e.kids.length)),(7,.sc (.arr 1408 e.arms.length)),(35,intV e.arms.length),(36,intV i)],
  [(0,some (.arr 11 (wr (Exp.rows cs)) 0)),(64,some (.box [.c (.int .i64 e.kind),.c (.int .i64 e.pos),.c (.str e.name),.c (.int .i64 e.num),.c (.sl (Exp.rows e.kids)),.c (.sl (Exp.armRows e.arms)),.c (.int .i64 e.ty.kind),.c (.str e.ty.name),.c (.int .i64 e.ty.id),.c (.int .i64 e.ty.home),.c (.sl (Ty.rows e.ty.args))])),
    (128,some zbox2),(1152,some (.arr 11 (wr (Exp.rows (cs.take e.kids.length))) 0)),(1408,some (.arr 14 (wr (Exp.armRows ((armsW e.arms (cs.drop e.kids.length)).take i++e.arms.drop i))) 0))]⟩) e.arms.length ?_ ?_ ?_
 ·simp
 ·intro i hi
  obtain ⟨a,ha⟩:=get_of_lt hi
  obtain ⟨c,hc⟩:=get_of_lt (l:=cs) (i:=e.kids.length+i) (by omega)
  have hz:(armsW e.arms (cs.drop e.kids.length))[i]?=some (a.1,c):=by
   unfold armsW
   rw [List.getElem?_zipWith,ha,List.getElem?_drop,hc]
  have hg:=get_step hzl hi
  rw [ha] at hg
  have hs:=set_step hzl hz
  have hln:=len_step (i:=i) hzl
  rw [←hs]
  generalize (armsW e.arms (cs.drop e.kids.length)).take i++e.arms.drop i=zz at hg hln ⊢
  have hset:=armrows_set zz i (a.1,c)
  have hsp:=arm_splice a c
  have hnb:natBelow (intV ((e.kids.length:Int)+i)) (e.kids.length+e.arms.length)=some (e.kids.length+i):=natBelow_cast (k:=.i64) (n:=e.kids.length+i) (by omega)
  unfold l146_0
  simp (maxSteps:=4000000) (disch:=first|omega|(simp;done)|(simp;omega)) [h,hi,hg,hln,hc,hnb,hsp,hset,blt_dec,-getElem?_pos]
 ·have ht:(armsW e.arms (cs.drop e.kids.length)).take e.arms.length++e.arms.drop e.arms.length=armsW e.arms (cs.drop e.kids.length):=by
   rw [List.drop_length,List.append_nil,List.take_of_length_le (by omega)]
  rw [ht]
  unfold l146_0
  simp (maxSteps:=4000000) (disch:=first|omega|(simp;done)|(simp;omega)) [hzl,-getElem?_pos]
theorem ZaH (e:Exp)(h1:e.kids=[])(h2:e.arms=[]):(K A).call 146 [expV e,.sc (.full [])] [] =
 some (.ag [.c (.int .i64 e.kind),.c (.int .i64 e.pos),.c (.str e.name),.c (.int .i64 e.num),.arr 0 0,.arr 1 0,.c (.int .i64 e.ty.kind),.c (.str e.ty.name),.c (.int .i64 e.ty.id),.c (.int .i64 e.ty.home),.c (.sl (Ty.rows e.ty.args))],
  [.arr 11 [] 0,.arr 14 [] 0]):=by
 refine fn_of (vf:=v146) (by kernel_rfl) rfl (by simp) ?_
 have hrow:wc e.row=[.c (.int .i64 e.kind),.c (.int .i64 e.pos),.c (.str e.name),.c (.int .i64 e.num),.c (.sl []),.c (.sl []),.c (.int .i64 e.ty.kind),.c (.str e.ty.name),.c (.int .i64 e.ty.id),.c (.int .i64 e.ty.home),.c (.sl (Ty.rows e.ty.args))]:=by rw [Exp.row_eq,h1,h2];simp [Exp.rows,Exp.armRows,wc]
 have hr1:Exp.rows []=[]:=by rw [Exp.rows]
 have hr2:Exp.armRows []=[]:=by rw [Exp.armRows]
 unfold v146
 simp (maxSteps:=4000000) (disch:=first|omega|(simp;done)|(simp;omega)) [h1,h2,hr1,hr2,hrow,copyU,ZaB,-getElem?_pos]
 refine wp_loop (fun i=>⟨[(1,.sc (.full [])),(2,.sc (.ptr 64 0)),(4,.sc (.ptr 128 0)),(5,intV 0),(6,.sc (.arr 1152 0)),(7,.sc (.arr 1408 0)),(35,intV 0),(36,intV i)],
  [(64,some (.box [.c (.int .i64 e.kind),.c (.int .i64 e.pos),.c (.str e.name),.c (.int .i64 e.num),.c (.sl []),.c (.sl []),.c (.int .i64 e.ty.kind),.c (.str e.ty.name),.c (.int .i64 e.ty.id),.c (.int .i64 e.ty.home),.c (.sl (Ty.rows e.ty.args))])),
    (128,some zbox2),(1152,some (.arr 11 [] 0)),(1408,some (.arr 14 [] 0))]⟩) 0 ?_ (fun i hi=>by omega) ?_
 ·simp
 ·unfold l146_0
  simp (maxSteps:=4000000) (disch:=first|omega|(simp;done)|(simp;omega)) [-getElem?_pos]
def nmAt (taken:List Str)(e:Exp)(n:Nat):Nat→Str
 | 0=>e.name
 | i+1=>if e.kind≠8∧e.bound i≠[] then freshS n taken else nmAt taken e n i
theorem Zan {taken:List Str}{e:Exp}{n:Nat}(h:∀ i,e.kind=8∨e.bound i=[]):∀ i,nmAt taken e n i=e.name
 | 0=>rfl
 | i+1=>by
  simp only [nmAt]
  rw [if_neg,Zan h i]
  rintro ⟨h1,h2⟩
  exact (h i).elim h1 h2
theorem ZaI {taken:List Str}{e:Exp}{n:Nat}(h:shp1 e):nmAt taken e n (e.kids.length+e.arms.length)=if e.kind=4∨e.kind=6∨e.kind=7 then freshS n taken else e.name:=by
 obtain ⟨w,_,hk⟩:=h
 by_cases c:e.kind=4∨e.kind=6∨e.kind=7
 ·have ha:=w.2.1 (by omega)
  rw [if_pos c,ha,hk]
  unfold kidsN
  rcases c with c|c|c
  ·rw [if_neg (by omega),if_pos (by omega)]
   simp [nmAt,Exp.bound,c]
  ·rw [if_pos (by omega)]
   simp [nmAt,Exp.bound,c]
  ·rw [if_pos (by omega)]
   simp [nmAt,Exp.bound,c]
 ·rw [if_neg c]
  refine Zan (fun i => ?_) _
  by_cases h8:e.kind=8
  ·exact .inl h8
  ·refine .inr ?_
   unfold Exp.bound
   rw [if_neg (by omega),if_neg (by omega)]
def Zaa (taken:List Str)(e:Exp)(n i:Nat):List (ArmH × Exp):=(armsN taken n e.arms).take (i-e.kids.length)++e.arms.drop (i-e.kids.length)
theorem Zav (taken:List Str)(e:Exp)(n i:Nat):(Zaa taken e n i).length=e.arms.length:=len_step (by simp)
theorem Zaw (e:Exp):armsW e.arms (e.children.drop e.kids.length)=e.arms:=by
 have:e.children.drop e.kids.length=e.arms.map (·.2):=by simp [Exp.children]
 rw [this]
 unfold armsW
 refine List.ext_getElem? fun j => ?_
 rw [List.getElem?_zipWith,List.getElem?_map]
 cases e.arms[j]?<;>rfl
theorem ZaD (e:Exp):e.children.take e.kids.length=e.kids:=by simp [Exp.children]
theorem Zat (taken:List Str)(e:Exp)(old names:List Str):armsW (armsN taken old.length e.arms) ((canonC taken e old names).drop e.kids.length) =
 List.zipWith (fun (a:ArmH × Exp) c=>((⟨a.1.pos,a.1.con,news taken old.length a.1.vars.length⟩:ArmH),c)) e.arms ((canonC taken e old names).drop e.kids.length):=by
 unfold armsN armsW
 rw [List.zipWith_map_left]
abbrev D93 (l:List (Str × Str))(taken:List Str)(N i:Nat):Env:=[(1,pairsV l),(2,strsV taken),(3,.sc (.ptr 64 0)),(6,.sc (.ptr 128 0)),(9,.sc (.arr 1440 N)),(10,.sc (.ptr 1728 0)),(39,.sc (.arr 1440 N)),(40,intV N),(41,intV i)]
theorem Zax (taken:List Str)(e:Exp)(l:List (Str × Str))(hk:e.kind=1)(hl:l.length≤1073741824) :
 (K A).call 93 [expV e,pairsV l,strsV taken] []=some (expV (canonM taken e (l.map (·.1)) (l.map (·.2))),[]):=by
 refine fn_of (vf:=v93) (by kernel_rfl) rfl (by simp) ?_
 have hb:=back149 (A:=A) l
 have hrow:∀ s:Str,wc (Exp.mk e.kind e.pos s e.num e.kids e.arms e.ty).row=[.c (.int .i64 e.kind),.c (.int .i64 e.pos),.c (.str s),.c (.int .i64 e.num),.c (.sl (Exp.rows e.kids)),.c (.sl (Exp.armRows e.arms)),.c (.int .i64 e.ty.kind),.c (.str e.ty.name),.c (.int .i64 e.ty.id),.c (.int .i64 e.ty.home),.c (.sl (Ty.rows e.ty.args))]:=fun s=>by rw [Exp.row_eq];rfl
 have hrow0:wc e.row=[.c (.int .i64 e.kind),.c (.int .i64 e.pos),.c (.str e.name),.c (.int .i64 e.num),.c (.sl (Exp.rows e.kids)),.c (.sl (Exp.armRows e.arms)),.c (.int .i64 e.ty.kind),.c (.str e.ty.name),.c (.int .i64 e.ty.id),.c (.int .i64 e.ty.home),.c (.sl (Ty.rows e.ty.args))]:=by rw [Exp.row_eq];rfl
 rw [canonM_var hk]
 obtain ⟨res,hres⟩:∃ res,res=(if 0≤rlast (l.map (·.1)) e.name then Exp.mk e.kind e.pos (((l.map (·.2))[(rlast (l.map (·.1)) e.name).toNat]?).getD []) e.num e.kids e.arms e.ty else e):=⟨_,rfl⟩
 rw [←hres]
 rw [hk] at hrow hrow0 hres
 unfold v93
 simp (maxSteps:=4000000) (disch:=first|omega|(simp;done)|(simp;omega)) [hk,hb,-getElem?_pos]
 refine wp_rangeB (by simp;rfl) (by omega) (by simp;rfl) (by simp;omega) (fun i st=>(∀ j p,i≤j→l[j]?=some p→¬p.1=e.name)∧(st=⟨[(3,.sc (.ptr 64 0)),(6,.sc (.ptr 128 0)),(22,.sc (.clo 210 [true] [[.un]]))],[(64,some (.box (wc e.row))),(128,some zbox2)]⟩∨∃ a b,st=⟨[(3,.sc (.ptr 64 0)),(6,.sc (.ptr 128 0)),(22,.sc (.clo 210 [true] [[.un]]))],[(64,some (.box (wc e.row))),(128,some zbox2),(512,some (.box [.c (.str a),.c (.str b)]))]⟩)) ?_ ?_ ?_
 ·refine ⟨fun j x hj hx => ?_,by simp⟩
  have:=(List.getElem?_eq_some_iff.1 hx).1
  simp at hj
  omega
 ·rintro i st' row ⟨hn,hst⟩ hrw
  have hi:i<l.length:=by
   have:=(List.getElem?_eq_some_iff.1 hrw).1
   simpa using this
  obtain ⟨x,hx⟩:=get_of_lt (l:=l) (i:=i) hi
  simp [hx] at hrw
  subst hrw
  refine ⟨rfl,.ag (wc (pairRow x)),by simp,?_⟩
  obtain ⟨x1,x2⟩:=x
  have hl1:(l.map (·.1))[i]?=some x1:=by rw [List.getElem?_map,hx];rfl
  have hl2:(l.map (·.2))[i]?=some x2:=by rw [List.getElem?_map,hx];rfl
  have r1:x1=e.name→rlast (l.map (·.1)) e.name=i:=fun q=>rlast_eq (q▸hl1) fun j y hj hy=>by
   rw [List.getElem?_map] at hy
   obtain ⟨p,hp,rfl⟩:=Option.map_eq_some_iff.1 hy
   exact hn j p hj hp
  rcases hst with rfl|⟨a,b,rfl⟩
  all_goals
   unfold l93_0
   by_cases q1:x1=e.name
   ·have e1:=r1 q1
    have h2:=hrow x2
    rw [e1,if_pos (by omega),Int.toNat_natCast,hl2,Option.getD_some] at hres
    subst hres
    simp (maxSteps:=4000000) (disch:=first|omega|(simp;done)|(simp;omega)) [q1,hrow0,h2,-getElem?_pos]
   ·simp (maxSteps:=4000000) (disch:=first|omega|(simp;done)|(simp;omega)) [q1,hrow0,-getElem?_pos]
    intro j ya yb hj hy
    rcases Nat.lt_or_eq_of_le hj with h5|rfl
    ·exact hn j _ h5 hy
    ·rw [hx] at hy
     cases hy
     exact q1
 ·rintro st' ⟨hn,hst⟩
  have n1:e.name∉l.map (·.1):=fun hm=>by
   obtain ⟨p,hp,q⟩:=List.mem_map.1 hm
   obtain ⟨j,hj⟩:=List.mem_iff_getElem?.1 hp
   exact hn j p (Nat.zero_le _) hj q
  rw [rlast_no n1,if_neg (by decide)] at hres
  subst hres
  rcases hst with rfl|⟨a,b,rfl⟩
  all_goals
   simp (maxSteps:=4000000) (disch:=first|omega|(simp;done)|(simp;omega)) [-getElem?_pos]
variable {A:Oracle}
theorem ZaC {l:List Str}(h:l≠[]):∃ c rows,strRows l=c::rows:=by
 cases l with
 | nil=>exact absurd rfl h
 | cons e r=>exact ⟨strRow e,strRows r,rfl⟩
theorem ZaM (l:List Str)(hl:l.length≤4294967296):(K A).call 95 [strsV l] []=some (.sc (.arr 0 l.length),[.arr 1 (wr (strRows l)) 0]):=by
 by_cases h:l=[]
 ·subst h
  exact clone_own (by kernel_rfl) (by kernel_rfl) (by kernel_rfl) (by kernel_rfl)
 ·obtain ⟨c,rows,hr⟩:=ZaC h
  have hlen:rows.length+1=l.length:=by
   have:=strRows_len l
   rw [hr] at this
   simpa using this
  have hok:okRows 1 (wr (c::rows))=true:=hr▸okRows_str l
  have hp:strsV l=V.sc (.c (.sl (c::rows))):=by rw [←hr]
  rw [hr,hp,clone_data (by kernel_rfl) (by kernel_rfl)]
  refine clone_fn (vf:=v95) (by kernel_rfl) rfl (by decide) ?_
  unfold v95
  rw [wr_cons] at hok
  simp (disch:=first|omega|(simp;done)|(simp;omega)) [hok]
  omega
theorem Zaz {e:Exp}(h:e.kind≠8)(i:Nat):e.bound i=[]∨e.bound i=[e.name]:=by
 unfold Exp.bound
 split
 ·exact .inr rfl
 ·rw [if_neg (fun c=>h c.1)]
  exact .inl rfl
theorem Zam {taken:List Str}{e:Exp}{n i j:Nat}(h:e.arms=[]):Zaa taken e n i=Zaa taken e n j:=by simp [Zaa,armsN,h]
theorem Zar (taken:List Str)(e:Exp)(l:List (Str × Str))(hs:shp1 e)(hk:e.kind≠1)(hkids:e.kids=[]) :
 (K A).call 93 [expV e,pairsV l,strsV taken] []=some (expV (canonM taken e (l.map (·.1)) (l.map (·.2))),[]):=by
 have harms:e.arms=[]:=Classical.byContradiction fun h=>by
  have h8:e.kind=8:=Classical.byContradiction fun h8=>h (hs.1.2.1 h8)
  have:=hs.1.1 h8
  rw [hkids] at this
  simp at this
 have hC:canonC taken e (l.map (·.1)) (l.map (·.2))=[]:=List.length_eq_zero_iff.1 (by rw [canonC_len,hkids,harms];rfl)
 have hnk:¬(e.kind=4∨e.kind=6∨e.kind=7):=fun c=>by
  have h:=hs.2.2
  rw [hkids] at h
  unfold kidsN at h
  split at h
  ·simp at h
  ·split at h
   ·simp at h
   ·omega
 refine fn_of (vf:=v93) (by kernel_rfl) rfl (by simp) ?_
 rw [canonM_no hk,hC,hkids,harms,if_neg hnk]
 have hrow:wc (Exp.mk e.kind e.pos e.name e.num [] [] e.ty).row=[.c (.int .i64 e.kind),.c (.int .i64 e.pos),.c (.str e.name),.c (.int .i64 e.num),.c (.sl []),.c (.sl []),.c (.int .i64 e.ty.kind),.c (.str e.ty.name),.c (.int .i64 e.ty.id),.c (.int .i64 e.ty.home),.c (.sl (Ty.rows e.ty.args))]:=by rw [Exp.row_eq];simp [Exp.rows,Exp.armRows,wc,Exp.kind,Exp.pos,Exp.name,Exp.num,Exp.kids,Exp.arms,Exp.ty]
 have hc:=children51_leaf (A:=A) e hkids harms
 have hw1:=ZaH (A:=A) e hkids harms
 have hw2:=with146 (A:=A) (Exp.mk e.kind e.pos e.name e.num [] [] e.ty) [] rfl (by rw [weight_mk];simp)
 have hr1:Exp.rows []=[]:=by rw [Exp.rows]
 have hr2:Exp.armRows []=[]:=by rw [Exp.armRows]
 have hz:(List.zipWith (fun (a:ArmH × Exp) (c:Exp)=>(a.1,c)) [] [])=[]:=rfl
 simp only [expV,hrow,exsV,hr1,hr2,kids_mk,arms_mk,kind_mk,pos_mk,name_mk,num_mk,ty_mk,List.length_nil,List.take_nil,List.drop_nil,armsW,hz] at hw2
 simp only [List.take_nil,List.drop_nil,List.zipWith_nil_left,List.length_nil]
 unfold v93
 simp (maxSteps:=4000000) (disch:=first|omega|(simp;done)|(simp;omega)) [hk,hc,hw1,-getElem?_pos]
 refine wp_loop (fun i=>⟨[(1,pairsV l),(2,strsV taken),(3,.sc (.ptr 64 0)),(6,.sc (.ptr 128 0)),(9,.sc (.full [])),(10,.sc (.ptr 1728 0)),(39,.sc (.full [])),(40,intV 0),(41,intV i)],
  [(64,some (.box (wc e.row))),(128,some zbox2),(1696,some (.arr 11 [] 0)),(1697,some (.arr 14 [] 0)),(1728,some (.box [.c (.int .i64 e.kind),.c (.int .i64 e.pos),.c (.str e.name),.c (.int .i64 e.num),.arr 1696 0,.arr 1697 0,.c (.int .i64 e.ty.kind),.c (.str e.ty.name),.c (.int .i64 e.ty.id),.c (.int .i64 e.ty.home),.c (.sl (Ty.rows e.ty.args))]))]⟩) 0 ?_ (fun i hi=>by omega) ?_
 ·simp
 ·unfold l93_2
  simp (maxSteps:=4000000) (disch:=first|omega|(simp;done)|(simp;omega)) [hw2,hrow,-getElem?_pos]
theorem Zap (taken:List Str)(ht:taken.length≤500000)(hts:∀ s∈taken,s.length≤281474976710656)(e:Exp):∀ l:List (Str × Str),shp e→l.length+e.weight≤500000 →
 (K A).call 93 [expV e,pairsV l,strsV taken] []=some (expV (canonM taken e (l.map (·.1)) (l.map (·.2))),[]):=by
 induction e using Exp.ind with
 | h e ih =>
 intro l hs hl
 by_cases hk:e.kind=1
 ·exact Zax taken e l hk (by omega)
 by_cases hkids:e.kids=[]
 ·exact Zar taken e l hs.one hk hkids
 refine fn_of (vf:=v93) (by kernel_rfl) rfl (by simp) ?_
 have hle:=e.children_le
 rw [e.children_len] at hle
 have hlm:(l.map (·.1)).length=l.length:=by simp
 have hc:=children51 (A:=A) e hkids (by omega)
 have hw1:=ZaF (A:=A) e e.children e.children_len (by omega)
 rw [ZaD,Zaw] at hw1
 rw [e.children_len] at hc
 have hCl:=canonC_len taken e (l.map (·.1)) (l.map (·.2))
 have hC2:(canonC taken e (l.map (·.1)) (l.map (·.2))).length=e.children.length:=by rw [hCl,e.children_len]
 have hcg:=fun {i:Nat} {x:Exp} (h:e.children[i]?=some x)=>canonC_get (taken:=taken) (old:=l.map (·.1)) (names:=l.map (·.2)) h
 have hca:=Zat taken e (l.map (·.1)) (l.map (·.2))
 have hnm:=ZaI (taken:=taken) (n:=l.length) hs.one
 have hA0:Zaa taken e l.length 0=e.arms:=by simp [Zaa]
 have hAN:Zaa taken e l.length (e.kids.length+e.arms.length)=armsN taken l.length e.arms:=by
  unfold Zaa
  rw [Nat.add_sub_cancel_left,List.drop_length,List.append_nil,List.take_of_length_le (by simp)]
 have hAl:=fun i=>Zav taken e l.length i
 rw [canonM_no hk]
 rw [hlm] at hca hcg ⊢
 rw [←hca,←hnm]
 obtain ⟨nm,hnmE⟩:∃ nm,nm=nmAt taken e l.length (e.kids.length+e.arms.length):=⟨_,rfl⟩
 rw [←hnmE]
 generalize canonC taken e (l.map (·.1)) (l.map (·.2))=cc at *
 have hkl:(cc.take e.kids.length).length=e.kids.length:=by rw [List.length_take,hCl];omega
 have hal:(armsW (armsN taken l.length e.arms) (cc.drop e.kids.length)).length=e.arms.length:=by rw [armsW_len,List.length_drop,hCl,armsN_len];omega
 have hwE:(Exp.mk e.kind e.pos nm e.num e.kids (armsN taken l.length e.arms) e.ty).weight=e.weight:=by
  rw [weight_mk,e.weight_eq,Exp.children,List.map_append,List.sum_append]
  unfold armsN
  simp only [List.map_map,Function.comp_def,news_len]
 have hw2:=with146 (A:=A) (Exp.mk e.kind e.pos nm e.num e.kids (armsN taken l.length e.arms) e.ty) cc (by rw [kids_mk,arms_mk,armsN_len];exact hCl) (by rw [hwE];omega)
 have hrowW:wc (Exp.mk e.kind e.pos nm e.num e.kids (armsN taken l.length e.arms) e.ty).row=[.c (.int .i64 e.kind),.c (.int .i64 e.pos),.c (.str nm),.c (.int .i64 e.num),.c (.sl (Exp.rows e.kids)),.c (.sl (Exp.armRows (armsN taken l.length e.arms))),.c (.int .i64 e.ty.kind),.c (.str e.ty.name),.c (.int .i64 e.ty.id),.c (.int .i64 e.ty.home),.c (.sl (Ty.rows e.ty.args))]:=by rw [Exp.row_eq];rfl
 have hrowF:wc (Exp.mk e.kind e.pos nm e.num (cc.take e.kids.length) (armsW (armsN taken l.length e.arms) (cc.drop e.kids.length)) e.ty).row=[.c (.int .i64 e.kind),.c (.int .i64 e.pos),.c (.str nm),.c (.int .i64 e.num),.c (.sl (Exp.rows (cc.take e.kids.length))),.c (.sl (Exp.armRows (armsW (armsN taken l.length e.arms) (cc.drop e.kids.length)))),.c (.int .i64 e.ty.kind),.c (.str e.ty.name),.c (.int .i64 e.ty.id),.c (.int .i64 e.ty.home),.c (.sl (Ty.rows e.ty.args))]:=by rw [Exp.row_eq];rfl
 simp only [expV,hrowW,kids_mk,arms_mk,kind_mk,pos_mk,name_mk,num_mk,ty_mk,armsN_len] at hw2
 have hpl:(armsN taken l.length e.arms).length=e.arms.length:=armsN_len _ _ _
 have hpg:∀ {j:Nat} {a:ArmH × Exp},e.arms[j]?=some a→(armsN taken l.length e.arms)[j]?=some ((⟨a.1.pos,a.1.con,news taken l.length a.1.vars.length⟩:ArmH),a.2):=fun {j a} ha=>by
  unfold armsN
  rw [List.getElem?_map,ha]
  rfl
 unfold v93
 simp (maxSteps:=4000000) (disch:=first|omega|(simp;done)|(simp;omega)) [hk,hc,hw1,-getElem?_pos]
 refine wp_loop (fun i=>⟨[(1,pairsV l),(2,strsV taken),(3,.sc (.ptr 64 0)),(6,.sc (.ptr 128 0)),(9,.sc (.arr 1440 (e.kids.length+e.arms.length))),(10,.sc (.ptr 1728 0)),(39,.sc (.arr 1440 (e.kids.length+e.arms.length))),(40,intV ((e.kids.length:Int)+e.arms.length)),(41,intV i)],
  [(64,some (.box (wc e.row))),(128,some zbox2),(1440,some (.arr 11 (wr (Exp.rows (cc.take i++e.children.drop i))) 0)),(1696,some (.arr 11 (wr (Exp.rows e.kids)) 0)),(1697,some (.arr 14 (wr (Exp.armRows (Zaa taken e l.length i))) 0)),
    (1728,some (.box [.c (.int .i64 e.kind),.c (.int .i64 e.pos),.c (.str (nmAt taken e l.length i)),.c (.int .i64 e.num),.arr 1696 e.kids.length,.arr 1697 e.arms.length,.c (.int .i64 e.ty.kind),.c (.str e.ty.name),.c (.int .i64 e.ty.id),.c (.int .i64 e.ty.home),.c (.sl (Ty.rows e.ty.args))]))]⟩) (e.kids.length+e.arms.length) ?_ ?_ ?_
 ·simp [hA0,nmAt]
 ·intro i hi
  obtain ⟨x,hx⟩:=get_of_lt (l:=e.children) (i:=i) (by rw [e.children_len];exact hi)
  have hmem:=List.mem_of_getElem? hx
  have hbc:=bound_child hx
  have hb:=bound52 (A:=A) e i hs.one.1 (by rw [e.children_len];exact hi) (by omega)
  have hcl:=clone133 (A:=A) l (by omega)
  have hcx:=hcg hx
  have hrec:=ih x hmem (l++(e.bound i).zip (news taken l.length (e.bound i).length)) (hs.child hmem) (by rw [List.length_append,List.length_zip,news_len];omega)
  rw [List.map_append,List.map_append,List.map_fst_zip (by simp),List.map_snd_zip (by simp)] at hrec
  have hg:=get_step (i:=i) hC2 (by rw [e.children_len];exact hi)
  rw [hx] at hg
  have hst:=set_step hC2 hcx
  have hln:=len_step (i:=i) hC2
  rw [e.children_len] at hln
  rw [←hst]
  generalize cc.take i++e.children.drop i=zr at hg hln ⊢
  have hset:=rows_set zr i (canonM taken x (l.map (·.1)++e.bound i) (l.map (·.2)++news taken l.length (e.bound i).length))
  generalize canonM taken x (l.map (·.1)++e.bound i) (l.map (·.2)++news taken l.length (e.bound i).length)=y at *
  have hi':(i:Int)<(e.kids.length:Int)+e.arms.length:=by omega
  have hbd:e.bound i=[]→(Zaa taken e l.length (i+1)=Zaa taken e l.length i∧nmAt taken e l.length (i+1)=nmAt taken e l.length i):=by
   intro h0
   refine ⟨?_,by simp [nmAt,h0]⟩
   by_cases h8:e.kind=8
   ·have hk1:=hs.one.1.1 h8
    cases i with
    | zero=>unfold Zaa;rw [hk1]
    | succ j =>
     obtain ⟨a,ha⟩:=get_of_lt (l:=e.arms) (i:=j) (by omega)
     have hb0:a.1.vars=[]:=by
      rw [bound_some,if_neg (by omega),if_pos ⟨h8,by omega⟩,Nat.add_sub_cancel,ha] at h0
      exact h0
     have h1:=set_step hpl (hpg ha)
     have h2:=get_step (i:=j) hpl (by omega)
     unfold Zaa
     rw [hk1,show j+1+1-1=j+1 from rfl,show j+1-1=j from rfl,←h1]
     rw [ha] at h2
     refine List.ext_getElem? fun m => ?_
     rw [List.getElem?_set]
     split
     ·rename_i hjm
      subst hjm
      split
      ·rw [h2,hb0]
       obtain ⟨⟨p,c,v⟩,b⟩:=a
       simp only at hb0
       subst hb0
       rfl
      ·rename_i hlt
       rw [List.getElem?_eq_none (by omega)]
     ·rfl
   ·exact Zam (hs.one.1.2.1 h8)
  by_cases hb0:e.bound i=[]
  ·obtain ⟨h1,h2⟩:=hbd hb0
   rw [h1,h2]
   rw [hb0] at hrec hb
   simp only [List.length_nil,List.zip_nil_left,List.append_nil] at hrec
   have hs0:strRows []=[]:=rfl
   simp only [strsV,hs0] at hb
   generalize nmAt taken e l.length i=nmi at *
   generalize Zaa taken e l.length i=zz at *
   unfold l93_2
   simp (maxSteps:=4000000) (disch:=first|omega|(simp;done)|(simp;omega)) [hi',hg,hln,hcl,hb,-getElem?_pos]
   refine wp_loop (fun k=>⟨[(1,pairsV l),(2,strsV taken),(3,.sc (.ptr 64 0)),(6,.sc (.ptr 128 0)),(9,.sc (.arr 1440 (e.kids.length+e.arms.length))),(10,.sc (.ptr 1728 0)),(39,.sc (.arr 1440 (e.kids.length+e.arms.length))),(40,intV ((e.kids.length:Int)+e.arms.length)),(41,intV i),(12,.sc (.ptr 2304 0)),(11,intV i),(13,.sc (.arr 2592 l.length)),(50,.sc (.c (.sl []))),(51,intV 0),(52,intV k)],
    [(64,some (.box (wc e.row))),(128,some zbox2),(1440,some (.arr 11 (wr (Exp.rows zr)) 0)),(1696,some (.arr 11 (wr (Exp.rows e.kids)) 0)),(1697,some (.arr 14 (wr (Exp.armRows zz)) 0)),
      (1728,some (.box [.c (.int .i64 e.kind),.c (.int .i64 e.pos),.c (.str nmi),.c (.int .i64 e.num),.arr 1696 e.kids.length,.arr 1697 e.arms.length,.c (.int .i64 e.ty.kind),.c (.str e.ty.name),.c (.int .i64 e.ty.id),.c (.int .i64 e.ty.home),.c (.sl (Ty.rows e.ty.args))])),
      (2304,some (.box (wc x.row))),(2592,some (.arr 2 (wr (pairRows l)) 0))]⟩) 0 ?_ (fun i hi=>by omega) ?_
   ·simp
   ·unfold l93_1
    simp (maxSteps:=4000000) (disch:=first|omega|(simp;done)|(simp;omega)) [hi',hg,hln,hrec,hset,blt_dec,-getElem?_pos]
  ·by_cases h8:e.kind=8
   ·have hk1:=hs.one.1.1 h8
    obtain ⟨j,rfl⟩:∃ j,i=j+1:=by
     cases i with
     | zero =>
      exfalso
      refine hb0 ?_
      rw [bound_some,if_neg (by omega),if_neg (by omega)]
     | succ j=>exact ⟨j,rfl⟩
    obtain ⟨a,ha⟩:=get_of_lt (l:=e.arms) (i:=j) (by omega)
    have hbv:e.bound (j+1)=a.1.vars:=by
     rw [bound_some,if_neg (by omega),if_pos ⟨h8,by omega⟩,Nat.add_sub_cancel,ha]
     rfl
    have hn2:nmAt taken e l.length (j+1+1)=nmAt taken e l.length (j+1):=by simp [nmAt,h8]
    have hs1:=set_step hpl (hpg ha)
    have hg1:=get_step (i:=j) hpl (by omega)
    have hl1:=len_step (i:=j) hpl
    rw [ha] at hg1
    have hA1:Zaa taken e l.length (j+1)=(armsN taken l.length e.arms).take j++e.arms.drop j:=by unfold Zaa;rw [hk1,Nat.add_sub_cancel]
    have hA2:Zaa taken e l.length (j+1+1)=((armsN taken l.length e.arms).take j++e.arms.drop j).set j ((⟨a.1.pos,a.1.con,news taken l.length a.1.vars.length⟩:ArmH),a.2):=by unfold Zaa;rw [hk1,hs1];rfl
    rw [hA1,hA2,hn2]
    rw [hbv] at hrec hb hb0 hbc
    clear hbd hs1 hA1 hA2 hn2 hbv hpg hcg hca hnm hAl ih hA0 hAN
    generalize (armsN taken l.length e.arms).take j++e.arms.drop j=zz at *
    generalize nmAt taken e l.length (j+1)=nmi at *
    obtain ⟨⟨ap,ac,b⟩,ab⟩:=a
    simp only at *
    have hsv:strRows (news taken l.length b.length)=strRows (news taken l.length b.length):=rfl
    have hset2:setRow (wr (Exp.armRows zz)) j (W.c (.int .i64 ap)::W.c (.str ac)::W.c (.sl (strRows (news taken l.length b.length)))::wc ab.row)=wr (Exp.armRows (zz.set j ((⟨ap,ac,news taken l.length b.length⟩:ArmH),ab))) :=
     armrows_set zz j ((⟨ap,ac,news taken l.length b.length⟩:ArmH),ab)
    have hsp0:splice (wc (armRow ((⟨ap,ac,b⟩:ArmH),ab))) 2 [W.arr 5185 0]=some (W.c (.int .i64 ap)::W.c (.str ac)::W.arr 5185 0::wc ab.row):=by
     rw [armRow,Exp.row_eq ab]
     rfl
    have hsp1:∀ k m:Nat,splice (W.c (.int .i64 ap)::W.c (.str ac)::W.arr 5185 k::wc ab.row) 2 [W.arr 5185 m]=some (W.c (.int .i64 ap)::W.c (.str ac)::W.arr 5185 m::wc ab.row):=by
     intro k m
     rw [Exp.row_eq ab]
     rfl
    have hcu:∀ k:Nat,cut (W.c (.int .i64 ap)::W.c (.str ac)::W.arr 5185 k::wc ab.row) 2 1=some [W.arr 5185 k]:=by
     intro k
     rw [Exp.row_eq ab]
     rfl
    have hRl:(wr (Exp.armRows zz)).length=e.arms.length:=by rw [wr_len,Exp.armRows_len];omega
    have hRg:(wr (Exp.armRows zz))[j]?=some (wc (armRow ((⟨ap,ac,b⟩:ArmH),ab))):=by
     unfold wr
     rw [List.getElem?_map,Exp.armRows_get,hg1]
     rfl
    have hget:∀ r,(setRow (wr (Exp.armRows zz)) j r)[j]?=some r:=fun r=>Zak _ _ _ (by omega)
    have htwo:∀ r r',setRow (setRow (wr (Exp.armRows zz)) j r) j r'=setRow (wr (Exp.armRows zz)) j r':=fun r r'=>Zal _ _ _ _
    have hslen:∀ r,(setRow (wr (Exp.armRows zz)) j r).length=e.arms.length:=fun r=>by rw [Zaj,hRl]
    have hjI:(j:Int)<e.arms.length:=by omega
    have hjc:((j+1:Nat):Int)=(j:Int)+1:=by omega
    have hi2:(j:Int)+1<(e.kids.length:Int)+e.arms.length:=by omega
    have hnb1:∀ m:Nat,j+1<m→natBelow (intV ((j:Int)+1)) m=some (j+1):=fun m h=>natBelow_cast (k:=.i64) (n:=j+1) h
    rw [hjc] at hb
    have hjN:j<e.arms.length:=by omega
    have hfr:=fun k (hk3:k<b.length)=>fresh28 (A:=A) ((l.length:Int)+k) (l.length+k) (by omega) (by omega) taken (by omega) (by omega) hts
    have hnl:(news taken l.length b.length).length=b.length:=by simp
    unfold l93_2
    simp (maxSteps:=4000000) (disch:=first|omega|(simp;done)|(simp;omega)) [hi2,hnb1,hg,hln,hcl,hb,-getElem?_pos]
    refine wp_loop (fun k=>match k with
     | 0=>⟨[(1,pairsV l),(2,strsV taken),(3,.sc (.ptr 64 0)),(6,.sc (.ptr 128 0)),(9,.sc (.arr 1440 (e.kids.length+e.arms.length))),(10,.sc (.ptr 1728 0)),(39,.sc (.arr 1440 (e.kids.length+e.arms.length))),(40,intV ((e.kids.length:Int)+e.arms.length)),(41,intV ((j:Int)+1)),(12,.sc (.ptr 2304 0)),(11,intV ((j:Int)+1)),(13,.sc (.arr 2592 l.length)),(50,strsV b),(51,intV b.length),(52,intV 0)],
      [(64,some (.box (wc e.row))),(128,some zbox2),(1440,some (.arr 11 (wr (Exp.rows zr)) 0)),(1696,some (.arr 11 (wr (Exp.rows e.kids)) 0)),(1697,some (.arr 14 (wr (Exp.armRows zz)) 0)),
        (1728,some (.box [.c (.int .i64 e.kind),.c (.int .i64 e.pos),.c (.str nmi),.c (.int .i64 e.num),.arr 1696 e.kids.length,.arr 1697 e.arms.length,.c (.int .i64 e.ty.kind),.c (.str e.ty.name),.c (.int .i64 e.ty.id),.c (.int .i64 e.ty.home),.c (.sl (Ty.rows e.ty.args))])),
        (2304,some (.box (wc x.row))),(2592,some (.arr 2 (wr (pairRows l)) 0))]⟩
     | k+1=>⟨[(1,pairsV l),(2,strsV taken),(3,.sc (.ptr 64 0)),(6,.sc (.ptr 128 0)),(9,.sc (.arr 1440 (e.kids.length+e.arms.length))),(10,.sc (.ptr 1728 0)),(39,.sc (.arr 1440 (e.kids.length+e.arms.length))),(40,intV ((e.kids.length:Int)+e.arms.length)),(41,intV ((j:Int)+1)),(12,.sc (.ptr 2304 0)),(11,intV ((j:Int)+1)),(13,.sc (.arr 2592 (l.length+(k+1)))),(50,strsV b),(51,intV b.length),(52,intV ((k:Int)+1))],
      [(64,some (.box (wc e.row))),(128,some zbox2),(1440,some (.arr 11 (wr (Exp.rows zr)) 0)),(1696,some (.arr 11 (wr (Exp.rows e.kids)) 0)),(1697,some (.arr 14 (setRow (wr (Exp.armRows zz)) j (W.c (.int .i64 ap)::W.c (.str ac)::W.arr 5185 (k+1)::wc ab.row)) 0)),
        (1728,some (.box [.c (.int .i64 e.kind),.c (.int .i64 e.pos),.c (.str nmi),.c (.int .i64 e.num),.arr 1696 e.kids.length,.arr 1697 e.arms.length,.c (.int .i64 e.ty.kind),.c (.str e.ty.name),.c (.int .i64 e.ty.id),.c (.int .i64 e.ty.home),.c (.sl (Ty.rows e.ty.args))])),
        (2304,some (.box (wc x.row))),(2592,some (.arr 2 (wr (pairRows (l++(b.zip (news taken l.length b.length)).take (k+1)))) 0)),(5185,some (.arr 1 (wr (strRows ((news taken l.length b.length).take (k+1)))) 0))]⟩) b.length ?_ ?_ ?_
    ·simp
    ·intro k hk3
     obtain ⟨u,hu⟩:=get_of_lt hk3
     have hz2:=news_get (taken:=taken) (n:=l.length) hk3
     have hzp:(b.zip (news taken l.length b.length))[k]?=some (u,freshS (l.length+k) taken):=by rw [List.getElem?_zip_eq_some];exact ⟨hu,hz2⟩
     have hf:=hfr k hk3
     have htk:=take_next hzp
     have htk2:=take_next hz2
     have hnz:(news taken l.length b.length).take 0=[]:=rfl
     have hk3':(k:Int)<b.length:=by omega
     cases k with
     | zero =>
      simp only [List.take_zero,List.nil_append,Nat.zero_add] at htk htk2
      have hsn:=pairRows_snoc l (u,freshS (l.length+0) taken)
      dsimp only
      rw [htk,htk2]
      simp only [Int.natCast_zero,Int.add_zero,Nat.add_zero] at hf hk3' hsn ⊢
      have hsr:wr (strRows [freshS l.length taken])=[[W.c (.str (freshS l.length taken))]]:=rfl
      unfold l93_1
      simp (maxSteps:=4000000) (disch:=first|omega|(simp;done)|(simp;omega)) [h8,hk1,hnb1,hu,hf,hsn,hsr,hsp0,hsp1,hcu,hRl,hRg,hget,htwo,hslen,hjI,hjN,hg1,hl1,hk3,hk3',setRow_map,blt_dec,-getElem?_pos]
     | succ k =>
      have htl:((b.zip (news taken l.length b.length)).take (k+1)).length=k+1:=by rw [List.length_take,List.length_zip,news_len];omega
      dsimp only
      rw [htk,htk2]
      generalize (b.zip (news taken l.length b.length)).take (k+1)=zq at htl ⊢
      have hsn:=pairRows_snoc (l++zq) (u,freshS (l.length+(k+1)) taken)
      rw [List.append_assoc] at hsn
      have hntl:((news taken l.length b.length).take (k+1)).length=k+1:=by rw [List.length_take,news_len];omega
      generalize (news taken l.length b.length).take (k+1)=nq at hntl ⊢
      have hkI:((k+1:Nat):Int)=(k:Int)+1:=by omega
      simp only [hkI] at hf hk3'
      have hk0:¬(k:Int)+1=0:=by omega
      have hnb2:natBelow (intV ((k:Int)+1)) b.length=some (k+1):=natBelow_cast (k:=.i64) (n:=k+1) hk3
      generalize freshS (l.length+(k+1)) taken=fr at *
      unfold l93_1
      simp (maxSteps:=4000000) (disch:=first|omega|(simp;done)|(simp;omega)) [h8,hk1,hnb1,hnb2,hk0,hu,hf,hsn,hsp0,hsp1,hcu,hRl,hRg,hget,htwo,hslen,hjI,hjN,hg1,hl1,hk3,hk3',htl,hntl,setRow_map,Nat.add_assoc,Int.add_assoc,blt_dec,-getElem?_pos]
    ·obtain ⟨k,hkb⟩:∃ k,b.length=k+1:=by
      cases b with
      | nil=>exact absurd rfl hb0
      | cons u r=>exact ⟨r.length,rfl⟩
     have hbl:b.length=k+1:=hkb
     have hz1:(b.zip (news taken l.length b.length)).take (k+1)=b.zip (news taken l.length b.length):=List.take_of_length_le (by rw [List.length_zip,news_len];omega)
     have hz2:(news taken l.length b.length).take (k+1)=news taken l.length b.length:=List.take_of_length_le (by rw [news_len];omega)
     have hzl:(b.zip (news taken l.length b.length)).length=k+1:=by rw [List.length_zip,news_len];omega
     have hbI:(b.length:Int)=(k:Int)+1:=by omega
     rw [hkb] at hnl hz1 hz2 hzl hset2 hrec ⊢
     dsimp only
     rw [hz1,hz2]
     generalize news taken l.length (k+1)=nn at *
     generalize b.zip nn=bz at *
     unfold l93_1
     simp (maxSteps:=4000000) (disch:=first|omega|(simp;done)|(simp;omega)) [hi2,hnb1,hg,hln,hrec,hset,hget,htwo,hslen,hzl,hnl,setRow_map,hset2,blt_dec,-getElem?_pos]
   ·have ha0:e.arms=[]:=hs.one.1.2.1 h8
    have hA1:Zaa taken e l.length (i+1)=Zaa taken e l.length i:=Zam ha0
    have hb1:e.bound i=[e.name]:=(Zaz h8 i).resolve_left hb0
    have hn1:nmAt taken e l.length (i+1)=freshS l.length taken:=by
     simp only [nmAt]
     rw [if_pos ⟨h8,hb0⟩]
    rw [hA1,hn1]
    rw [hb1] at hrec hb
    have hnw:news taken l.length 1=[freshS l.length taken]:=rfl
    have hf:=fresh28 (A:=A) (l.length:Int) l.length (by omega) (by omega) taken (by omega) (by omega) hts
    have hsn:=pairRows_snoc l (e.name,freshS l.length taken)
    have hs1:strRows [e.name]=[[.str e.name]]:=rfl
    have hs2:([[Cell.str e.name]]:List (List Cell))[0]?=some [Cell.str e.name]:=rfl
    have hs3:cut [Cell.str e.name] 0 1=some [Cell.str e.name]:=rfl
    simp only [List.length_singleton,hnw,List.zip_cons_cons,List.zip_nil_left] at hrec
    simp only [strsV,hs1] at hb
    clear hbd hA1 hn1 hpg hcg hca hnm hAl ih hA0 hAN
    generalize freshS l.length taken=fr at *
    generalize nmAt taken e l.length i=nmi at *
    generalize Zaa taken e l.length i=zz at *
    unfold l93_2
    simp (maxSteps:=4000000) (disch:=first|omega|(simp;done)|(simp;omega)) [hi',hg,hln,hcl,hb,-getElem?_pos]
    refine wp_loop (fun k=>match k with
     | 0=>⟨[(1,pairsV l),(2,strsV taken),(3,.sc (.ptr 64 0)),(6,.sc (.ptr 128 0)),(9,.sc (.arr 1440 (e.kids.length+e.arms.length))),(10,.sc (.ptr 1728 0)),(39,.sc (.arr 1440 (e.kids.length+e.arms.length))),(40,intV ((e.kids.length:Int)+e.arms.length)),(41,intV i),(12,.sc (.ptr 2304 0)),(11,intV i),(13,.sc (.arr 2592 l.length)),(50,.sc (.c (.sl [[.str e.name]]))),(51,intV 1),(52,intV 0)],
      [(64,some (.box (wc e.row))),(128,some zbox2),(1440,some (.arr 11 (wr (Exp.rows zr)) 0)),(1696,some (.arr 11 (wr (Exp.rows e.kids)) 0)),(1697,some (.arr 14 (wr (Exp.armRows zz)) 0)),
        (1728,some (.box [.c (.int .i64 e.kind),.c (.int .i64 e.pos),.c (.str nmi),.c (.int .i64 e.num),.arr 1696 e.kids.length,.arr 1697 e.arms.length,.c (.int .i64 e.ty.kind),.c (.str e.ty.name),.c (.int .i64 e.ty.id),.c (.int .i64 e.ty.home),.c (.sl (Ty.rows e.ty.args))])),
        (2304,some (.box (wc x.row))),(2592,some (.arr 2 (wr (pairRows l)) 0))]⟩
     | _+1=>⟨[(1,pairsV l),(2,strsV taken),(3,.sc (.ptr 64 0)),(6,.sc (.ptr 128 0)),(9,.sc (.arr 1440 (e.kids.length+e.arms.length))),(10,.sc (.ptr 1728 0)),(39,.sc (.arr 1440 (e.kids.length+e.arms.length))),(40,intV ((e.kids.length:Int)+e.arms.length)),(41,intV i),(12,.sc (.ptr 2304 0)),(11,intV i),(13,.sc (.arr 2592 (l.length+1))),(50,.sc (.c (.sl [[.str e.name]]))),(51,intV 1),(52,intV 1)],
      [(64,some (.box (wc e.row))),(128,some zbox2),(1440,some (.arr 11 (wr (Exp.rows zr)) 0)),(1696,some (.arr 11 (wr (Exp.rows e.kids)) 0)),(1697,some (.arr 14 (wr (Exp.armRows zz)) 0)),
        (1728,some (.box [.c (.int .i64 e.kind),.c (.int .i64 e.pos),.c (.str fr),.c (.int .i64 e.num),.arr 1696 e.kids.length,.arr 1697 e.arms.length,.c (.int .i64 e.ty.kind),.c (.str e.ty.name),.c (.int .i64 e.ty.id),.c (.int .i64 e.ty.home),.c (.sl (Ty.rows e.ty.args))])),
        (2304,some (.box (wc x.row))),(2592,some (.arr 2 (wr (pairRows (l++[(e.name,fr)]))) 0))]⟩) 1 ?_ ?_ ?_
    ·simp
    ·intro k hk3
     obtain rfl:k=0:=by omega
     unfold l93_1
     simp (maxSteps:=4000000) (disch:=first|omega|(simp;done)|(simp;omega)) [h8,hf,hsn,hs2,hs3,blt_dec,-getElem?_pos]
    ·unfold l93_1
     simp (maxSteps:=4000000) (disch:=first|omega|(simp;done)|(simp;omega)) [hi',hg,hln,hrec,hset,blt_dec,-getElem?_pos]
 ·have htk:cc.take (e.kids.length+e.arms.length)++e.children.drop (e.kids.length+e.arms.length)=cc:=by
   rw [List.drop_of_length_le (by rw [e.children_len];omega),List.append_nil,List.take_of_length_le (by omega)]
  rw [htk,hAN,←hnmE]
  unfold l93_2
  simp (maxSteps:=4000000) (disch:=first|omega|(simp;done)|(simp;omega)) [hw2,hrowF,hkl,hal,hpl,hCl,-getElem?_pos]
theorem Zaq (e:Exp)(taken:List Str)(hs:shp e)(ht:taken.length+e.weight≤500000)(h1:∀ s∈taken,s.length≤281474976710656)(h2:∀ s∈freeP e,s.length≤281474976710656) :
 (K A).call 39 [expV e,strsV taken] []=some (expV (canonT e taken),[]):=by
 refine fn_of (vf:=v39) (by kernel_rfl) rfl (by simp) ?_
 have c1:=strip94 (A:=A) e hs.wf (by omega)
 have c2:=ZaM (A:=A) taken (by omega)
 have c3:=free19 (A:=A) e hs.wf (by omega)
 have hl:=freeP_len e
 have c4:=Zap (A:=A) (taken++freeP e) (by simp;omega) (fun s hm=>by
  rcases List.mem_append.1 hm with h|h
  ·exact h1 s h
  ·exact h2 s h) (stripM e) [] (strip_shp e hs) (by rw [strip_weight];simp;omega)
 have h0:pairRows []=[]:=rfl
 simp only [pairsV,h0,List.map_nil] at c4
 unfold v39 canonT
 simp (maxSteps:=4000000) (disch:=first|omega|(simp;done)|(simp;omega)) [c1,c2,c3,c4,-getElem?_pos]
end Go.Vs.Tryz
