/- Text as numbers, walked: ParseUint at base 10; cutting a prefix of one byte. (Parts of one proof, put together.) -/
import Derived.Test.YtlcncicmkkelcaaGreatDoorRCb
import Derived.Test.YtlcncicmkkelcaaGreatDoorR5b
import Derived.Test.YtlcncicmkkelcaaGreatDoorR2b
set_option linter.unusedSimpArgs false
set_option linter.unusedVariables false
set_option linter.deprecated false
set_option maxHeartbeats 16000000
namespace Go.Vs
open Go
variable {C:Ctx}{E:Nat→Option V}{L:Nat→Option Obj}{oid:Nat}
def ifcK (t:TypeId):V→Option (V × Upd)
 | .sc (.c y)=>some (.sc (.c (.ifc t true [y])),[])
 | .sc w=>bif Zav w then some (.sc (.ifw t true [w]),[]) else none
 | .ag cs=>match Zae (fun w=>match w with | .c y=>some y | _=>none) cs with
  | some l=>some (.sc (.c (.ifc t false l)),[])
  | none=>some (.sc (.ifw t false cs),[])
 | .tu _=>none
@[simp] theorem ifcK_c {t:TypeId} {y:Cell}:ifcK t (.sc (.c y))=some (.sc (.c (.ifc t true [y])),[]):=rfl
@[simp] theorem ifcK_ptr {t:TypeId} {k o:Nat}:ifcK t (.sc (.ptr k o))=some (.sc (.ifw t true [.ptr k o]),[]):=rfl
@[simp] theorem x_ifc {t:TypeId} {x:Opd}:Zad C E L oid (.ifc t x)=ifcK t (x.val C E):=by
 simp only [Zad]
 generalize x.val C E=v
 cases v with
 | sc w=>cases w<;>rfl
 | _=>rfl
def cvBK:V→Option (V × Upd)
 | .sc (.c (.str s))=>bif Nat.ble s.length Zaw then some (.sc (.c (.sl (s.map fun b=>[Cell.int .u8 b.toNat]))),[]) else none
 | _=>none
@[simp] theorem cvBK_str {s:List UInt8} (h:s.length≤Zaw):cvBK (.sc (.c (.str s)))=some (.sc (.c (.sl (s.map fun b=>[Cell.int .u8 b.toNat]))),[]):=by
 unfold cvBK
 simp only
 rw [show Nat.ble s.length Zaw=true from Nat.ble_eq_true_of_le h]
 rfl
@[simp] theorem x_cvB {x:Opd}:Zad C E L oid (.cvB x)=cvBK (x.val C E):=by
 simp only [Zad]
 generalize x.val C E=v
 cases v with
 | sc w =>
  cases w with
  | c y=>cases y<;>rfl
  | _=>rfl
 | _=>rfl
@[simp] theorem b_eq215 {m n:Int}:binV .eql 215 (.sc (.c (.ifc 209 true [.int .i64 m]))) (.sc (.c (.ifc 209 true [.int .i64 n])))=some (.sc (.c (.bool (decide (m=n)))),[]):=by
 simp [binV,binW,ZdT]
 rw [Bool.eq_iff_iff]
 simp
@[simp] theorem b_neqif5 {t:TypeId} {o:Bool} {r:List Cell}:binV .neq 5 (.sc (.c (.ifc t o r))) (.sc (.c .nilif))=some (.sc (.c (.bool true)),[]):=rfl
@[simp] theorem b_neqnil5:binV .neq 5 (.sc (.c .nilif)) (.sc (.c .nilif))=some (.sc (.c (.bool false)),[]):=rfl
end Go.Vs
namespace Go.Vs.Tryz
open Go Go.Vs
variable {A:Zac}
abbrev u8V (n:Nat):V:=.sc (.c (.int .u8 n))
def ZtE (r:Option (V × List Obj)):Bool:=match r with
 | some (.sc (.c (.int .u8 j)),[])=>decide (0≤j) && decide (j<256)
 | _=>false
theorem Zqc {r:Option (V × List Obj)}(h:ZtE r=true):∃ j:Nat,j<256∧r=some (u8V j,[]):=by
 unfold ZtE at h
 split at h
 ·rename_i j
  simp only [Bool.and_eq_true,decide_eq_true_eq] at h
  refine ⟨j.toNat,by omega,?_⟩
  show _=some (V.sc (W.c (Cell.int .u8 ((j.toNat:Nat):Int))),[])
  rw [Int.toNat_of_nonneg h.1]
 ·cases h
theorem Zqv (m:Nat)(h:m<256):∃ j:Nat,j<256∧(K A).call 182 [u8V m] []=some (u8V j,[]):=by
 have h1:(List.range 256).all (fun m=>ZtE (ZbA T2 (X2 A) gl0 10 182 [u8V m] []))=true:=by kernel_rfl
 obtain ⟨j,h2,h3⟩:=Zqc (ZhA h1 h)
 exact ⟨j,h2,ZgP h3⟩
inductive PR where
 | ok (n:Nat)
 | syn
 | rng
def Zcn:Str→Nat→PR
 | [],n=>.ok n
 | c::r,n=>if 48≤c.toNat∧c.toNat≤57 then
  if 1844674407370955162≤n then .rng else if 18446744073709551616≤n*10+(c.toNat-48) then .rng else Zcn r (n*10+(c.toNat-48))
  else .syn
def ZdP (s:Str):PR:=if s=[] then .syn else Zcn s 0
abbrev perr (e:Int):V:=.sc (.c (.ifc 209 true [.int .i64 e]))
def prV:PR→V
 | .ok n=>.tu [u64V n,.sc (.c .nilif)]
 | .syn=>.tu [u64V 0,perr 2]
 | .rng=>.tu [.sc (.c (.int .u64 18446744073709551615)),perr 1]
def ZdR (s:Str):List (List Cell):=s.map fun b=>[Cell.int .u8 b.toNat]
@[simp] theorem chrRows_get (s:Str) (i:Nat):(ZdR s)[i]?=(s[i]?).map fun b=>[Cell.int .u8 b.toNat]:=by simp [ZdR]
@[simp] theorem chrRows_len (s:Str):(ZdR s).length=s.length:=by simp [ZdR]
abbrev P0 (s:Str)(i n:Nat):Env:=[(1,intV 10),(8,Zah false),(9,strV s),(10,.sc (.c (.int .u64 1844674407370955162))),(11,.sc (.c (.int .u64 18446744073709551615))),(12,Zah false),(13,u64V n),(99,.sc (.c (.sl (ZdR s)))),(100,intV s.length),(101,intV i)]
abbrev P1 (s:Str)(i n:Nat):Env:=[(1,intV 10),(8,Zah false),(9,strV s),(10,.sc (.c (.int .u64 1844674407370955162))),(11,.sc (.c (.int .u64 18446744073709551615))),(12,Zah false),(99,.sc (.c (.sl (ZdR s)))),(100,intV s.length),(101,intV i),(13,u64V n)]
theorem Zqk (s:Str)(hl:s.length≤281474976710656):(K A).call 135 [strV s,intV 10,intV 64] []=some (prV (ZdP s),[]):=by
 refine Zan (vf:=v135) (by kernel_rfl) rfl (by simp) ?_
 unfold v135
 by_cases h0:s=[]
 ·subst h0
  simp [ZdP,prV]
 ·have hmx:s.length≤Zaw:=Nat.le_trans hl (by decide)
  have hs0:shlI .u64 1 64=0:=by decide
  have hw0:IntKind.u64.wrap (0-1)=18446744073709551615:=by decide
  have hw1:IntKind.u64.wrap (-1)=18446744073709551615:=by decide
  have hcs:(s.map fun b=>[Cell.int .u8 (b.toNat:Int)])=ZdR s:=rfl
  generalize hR:ZdP s=R
  unfold ZdP at hR
  rw [if_neg h0] at hR
  simp (maxSteps:=4000000) (disch:=first|omega|(simp;done)|(simp;omega)) [h0,hmx,hs0,hw0,hw1,hcs,-getElem?_pos]
  refine Zam (fun r t=>∃ n,n<18446744073709551616∧Zcn (s.drop r) n=R∧(t=⟨P0 s r n,[]⟩∨t=⟨P1 s r n,[]⟩)) s.length ⟨0,by omega,by simpa using hR,.inl (by simp)⟩ ?_ ?_
  ·rintro r t hr ⟨n,hn,hp,ht⟩
   obtain ⟨c,hc⟩:=Zaa (l:=s) (i:=r) hr
   have hdrop:s.drop r=c::s.drop (r+1):=by
    obtain ⟨h1,h2⟩:=List.getElem?_eq_some_iff.1 hc
    rw [List.drop_eq_getElem_cons h1,h2]
   rw [hdrop,Zcn] at hp
   have hc256:c.toNat<256:=c.toNat_lt
   have hrI:(r:Int)<(s.length:Int):=by omega
   have hcrow:(ZdR s)[r]?=some [Cell.int .u8 c.toNat]:=by simp [hc]
   generalize c.toNat=m at *
   unfold Zns
   by_cases hd:48≤m∧m≤57
   ·rw [if_pos hd] at hp
    obtain ⟨hd1,hd2⟩:=hd
    have hd1I:(48:Int)≤m:=by omega
    have hd2I:(m:Int)≤57:=by omega
    have h95:¬(m:Int)=95:=by omega
    have h95N:¬m=95:=by omega
    have hmI:(m:Int)-48=((m-48:Nat):Int):=by omega
    have hd9:m-48≤9:=by omega
    generalize m-48=d at *
    have hn10:¬(10:Int)≤d:=by omega
    by_cases hcut:1844674407370955162≤n
    ·rw [if_pos hcut] at hp
     subst hp
     have hcutI:(1844674407370955162:Int)≤n:=by omega
     rcases ht with rfl|rfl <;>
     simp (maxSteps:=4000000) (disch:=first|omega|(simp;done)|(simp;omega)) [hcrow,hrI,hr,h95,h95N,hd1I,hd2I,hd1,hd2,hmI,hn10,hcut,hcutI,prV,-getElem?_pos,-chrRows_get]
    ·rw [if_neg hcut] at hp
     have hcutI:¬(1844674407370955162:Int)≤n:=by omega
     have hmul:IntKind.u64.wrap ((n:Int)*10)=((n*10:Nat):Int):=by
      rw [show (n:Int)*10=((n*10:Nat):Int) by omega]
      exact ZaO _ (by omega)
     have hn10b:n*10≤18446744073709551610:=by omega
     generalize n*10=q at *
     have hwd:IntKind.u64.wrap (d:Int)=d:=ZaO d (by omega)
     by_cases hov:18446744073709551616≤q+d
     ·rw [if_pos hov] at hp
      subst hp
      have hadd:IntKind.u64.wrap ((q:Int)+d)=((q+d-18446744073709551616:Nat):Int):=by
       unfold IntKind.wrap
       simp [IntKind.bits,IntKind.signed]
       omega
      have hlt:((q+d-18446744073709551616:Nat):Int)<(q:Int):=by omega
      have hltN:q+d-18446744073709551616<q:=by omega
      generalize q+d-18446744073709551616=z at *
      rcases ht with rfl|rfl <;>
      simp (maxSteps:=4000000) (disch:=first|omega|(simp;done)|(simp;omega)) [hcrow,hrI,hr,h95,h95N,hd1I,hd2I,hd1,hd2,hmI,hn10,hcut,hcutI,hmul,hwd,hadd,hlt,hltN,prV,-getElem?_pos,-chrRows_get]
     ·rw [if_neg hov] at hp
      have hadd:IntKind.u64.wrap ((q:Int)+d)=((q+d:Nat):Int):=by
       rw [show (q:Int)+d=((q+d:Nat):Int) by omega]
       exact ZaO _ (by omega)
      have hge:¬((q+d:Nat):Int)<(q:Int):=by omega
      have hgeN:¬q+d<q:=by omega
      have hzl:q+d<18446744073709551616:=by omega
      generalize q+d=z at *
      have hzm:¬(18446744073709551615:Int)<(z:Int):=by omega
      have hzmN:¬18446744073709551615<z:=by omega
      have fin:∃ n,n<18446744073709551616∧Zcn (s.drop (r+1)) n=R∧((⟨P1 s (r+1) z,[]⟩:St)=⟨P0 s (r+1) n,[]⟩∨(⟨P1 s (r+1) z,[]⟩:St)=⟨P1 s (r+1) n,[]⟩):=⟨z,hzl,hp,.inr rfl⟩
      rcases ht with rfl|rfl <;>
      (simp (maxSteps:=4000000) (disch:=first|omega|(simp;done)|(simp;omega)) [hcrow,hrI,hr,h95,h95N,hd1I,hd2I,hd1,hd2,hmI,hn10,hcut,hcutI,hmul,hwd,hadd,hge,hgeN,hzm,hzmN,-getElem?_pos,-chrRows_get]
       simpa [-chrRows_get] using fin)
   ·rw [if_neg hd] at hp
    subst hp
    obtain ⟨j,hj,hlow⟩:=Zqv (A:=A) m hc256
    have h10:(97:Int)≤j→(10:Int)≤(j:Int)-97+10:=fun h=>by omega
    obtain ⟨b,hb⟩:∃ b,decide ((m:Int)=95)=b:=⟨_,rfl⟩
    cases b<;>by_cases h48:(48:Int)≤m<;>by_cases h57:(m:Int)≤57<;>by_cases h97:(97:Int)≤j<;>by_cases h122:(j:Int)≤122 <;>
    first
    | (exfalso;omega)
    | (rcases ht with rfl | rfl <;>
       simp (maxSteps:=4000000) (disch:=first|omega|(simp;done)|(simp;omega)) [hcrow,hrI,hr,hlow,hb,h48,h57,h97,h122,h10,prV,-getElem?_pos,-chrRows_get])
  ·rintro t ⟨n,hn,hp,ht⟩
   rw [List.drop_length] at hp
   subst hp
   unfold Zns
   rcases ht with rfl|rfl <;>
   simp (maxSteps:=4000000) (disch:=first|omega|(simp;done)|(simp;omega)) [Zcn,prV,-getElem?_pos,-chrRows_get]
end Go.Vs.Tryz
namespace Go.Vs
open Go
@[simp] theorem refs_ifw {t:TypeId} {o:Bool} {row:List W}:W.refs 4 (.ifw t o row)=row.flatMap (W.refs 3):=rfl
@[simp] theorem ren_ifw {ρ:Nat→Option Nat} {t:TypeId} {o:Bool} {row:List W}:W.ren ρ 4 (.ifw t o row)=.ifw t o (row.map (W.ren ρ 3)):=rfl
@[simp] theorem refs3_ptr {k o:Nat}:W.refs 3 (.ptr k o)=[k]:=rfl
@[simp] theorem ren3_ptr {ρ:Nat→Option Nat} {k o:Nat}:W.ren ρ 3 (.ptr k o)=match ρ k with | some j=>.ptr j o | none=>.un:=rfl
end Go.Vs
namespace Go.Vs.Tryz
open Go Go.Vs
variable {A:Zac}
theorem ZlO (s:Str)(h:s.length≤281474976710656):(K A).call 233 [strV s] []=some (strV s,[]):=by
 have hT:T2 233=none:=by kernel_rfl
 have hs:skip 233=false:=rfl
 refine ZgP (n:=1) ?_
 simp only [ZbA,hT]
 unfold X2
 rw [hs]
 simp only [cond_false,X1]
 rw [show (233 == 233 && Nat.ble s.length 281474976710656)=true by simp;omega]
 rfl
theorem syn184 (f s:Str)(h:s.length≤281474976710656):∃ e,(K A).call 184 [strV f,strV s] []=some (.sc (.ptr 0 0),[.box [.c (.str f),.c (.str s),.c e]]):=by
 have hc:=ZlO (A:=A) s h
 have hg:gl0 0=[errCell ZfE]:=rfl
 refine ⟨errCell ZfE,?_⟩
 refine Zan (vf:=v184) (by kernel_rfl) rfl (by simp) ?_
 unfold v184
 generalize errCell ZfE=e at *
 simp [hc,hg,Opd.val,V.ren]
theorem rng185 (f s:Str)(h:s.length≤281474976710656):∃ e,(K A).call 185 [strV f,strV s] []=some (.sc (.ptr 0 0),[.box [.c (.str f),.c (.str s),.c e]]):=by
 have hc:=ZlO (A:=A) s h
 have hg:gl0 1=[errCell ZgD]:=rfl
 refine ⟨errCell ZgD,?_⟩
 refine Zan (vf:=v185) (by kernel_rfl) rfl (by simp) ?_
 unfold v185
 generalize errCell ZgD=e at *
 simp [hc,hg,Opd.val,V.ren]
theorem Zrm (f s:Str)(h:s.length≤281474976710656)(n:Int)(he:n=1∨n=2):∃ e,(K A).call 136 [strV f,strV s,intV 10,intV 64,perr n] []=some (.sc (.ifw 212 true [.ptr 0 0]),[.box [.c (.str f),.c (.str s),.c e]]):=by
 obtain ⟨l1,h1⟩:=syn184 (A:=A) f s h
 obtain ⟨l2,h2⟩:=rng185 (A:=A) f s h
 rcases he with rfl|rfl
 ·refine ⟨l2,?_⟩
  refine Zan (vf:=v136) (by kernel_rfl) rfl (by simp) ?_
  unfold v136
  simp [h2,V.ren]
 ·refine ⟨l1,?_⟩
  refine Zan (vf:=v136) (by kernel_rfl) rfl (by simp) ?_
  unfold v136
  simp [h1,V.ren]
def Par (p:PR)(r:V × List Obj):Prop:=match p with
 | .ok n=>r=okR n
 | _=>∃ (x:Int) (l:List W),r=(.tu [.sc (.c (.int .u64 x)),.sc (.ifw 212 true [.ptr 0 0])],[.box l])
theorem Zsd (s:Str)(h:s.length≤281474976710656):∃ r,Par (ZdP s) r∧(K A).call 74 [strV s,intV 10,intV 64] []=some r:=by
 have hc:=Zqk (A:=A) s h
 obtain ⟨l1,h1⟩:=Zrm (A:=A) [80,97,114,115,101,85,105,110,116] s h 1 (.inl rfl)
 obtain ⟨l2,h2⟩:=Zrm (A:=A) [80,97,114,115,101,85,105,110,116] s h 2 (.inr rfl)
 generalize ZdP s=p at *
 cases p with
 | ok n =>
  refine ⟨okR n,rfl,?_⟩
  refine Zan (vf:=v74) (by kernel_rfl) rfl (by simp) ?_
  unfold v74
  simp only [prV] at hc
  simp [hc]
 | syn =>
  refine ⟨(.tu [u64V 0,.sc (.ifw 212 true [.ptr 0 0])],[.box [.c (.str [80,97,114,115,101,85,105,110,116]),.c (.str s),.c l2]]),⟨_,_,rfl⟩,?_⟩
  refine Zan (vf:=v74) (by kernel_rfl) rfl (by simp) ?_
  unfold v74
  simp only [prV] at hc
  simp [hc,h2,V.ren]
 | rng =>
  refine ⟨(.tu [.sc (.c (.int .u64 18446744073709551615)),.sc (.ifw 212 true [.ptr 0 0])],[.box [.c (.str [80,97,114,115,101,85,105,110,116]),.c (.str s),.c l1]]),⟨_,_,rfl⟩,?_⟩
  refine Zan (vf:=v74) (by kernel_rfl) rfl (by simp) ?_
  unfold v74
  simp only [prV] at hc
  simp [hc,h1,V.ren]
def cutV:Str→Str × Bool
 | []=>([],false)
 | c::r=>if c=118 then (r,true) else (c::r,false)
theorem ZqN (s:Str):(cutV s).1.length≤s.length:=by
 cases s with
 | nil=>simp [cutV]
 | cons c r =>
  simp only [cutV]
  split<;>simp
theorem ZjW (n:Nat):Zaq (some (.sc (.c (.int .i64 1)))) (n+1) (n+1)=some 1:=by
 show (bif Nat.blt 1 (n+1+1) then some 1 else none)=_
 rw [show Nat.blt 1 (n+1+1)=true from Nat.ble_eq_true_of_le (by omega)]
 rfl
theorem ZpV (n:Nat):Zaq (some (.sc (.c (.int .i64 1)))) 0 (n+1)=some 1:=ZjW n
theorem Zlj (n:Nat):Zaq none 0 n=some 0:=by
 show (bif Nat.ble 0 n then some 0 else none)=_
 rw [show Nat.ble 0 n=true from Nat.ble_eq_true_of_le (Nat.zero_le _)]
 rfl
theorem ZtB (n:Nat):Zaq none n n=some n:=by
 show (bif Nat.ble n n then some n else none)=_
 rw [show Nat.ble n n=true from Nat.ble_eq_true_of_le (Nat.le_refl _)]
 rfl
theorem cut73 (s:Str)(h:s.length≤281474976710656):(K A).call 73 [strV s,strV [118]] []=some (.tu [strV (cutV s).1,Zah (cutV s).2],[]):=by
 have h181:(K A).call 181 [strV s,strV [118]] []=some (Zah (cutV s).2,[]):=by
  refine Zan (vf:=v181) (by kernel_rfl) rfl (by simp) ?_
  unfold v181
  cases s with
  | nil=>simp [cutV]
  | cons c r =>
   have hl:(1:Int)≤(r.length:Int)+1:=by omega
   by_cases hc:c=118
   ·subst hc
    simp [cutV,hl,ZjW,Zlj,ownV]
   ·simp [cutV,hl,hc,ZjW,Zlj,ownV]
 have h134:(K A).call 134 [strV s,strV [118]] []=some (.tu [strV (cutV s).1,Zah (cutV s).2],[]):=by
  refine Zan (vf:=v134) (by kernel_rfl) rfl (by simp) ?_
  unfold v134
  cases s with
  | nil =>
   simp only [cutV] at h181 ⊢
   simp [h181]
  | cons c r =>
   by_cases hc:c=118
   ·subst hc
    simp only [cutV,if_true] at h181 ⊢
    simp [h181,ZpV,ZtB]
   ·simp only [cutV,hc,if_false] at h181 ⊢
    simp [h181]
 refine Zan (vf:=v73) (by kernel_rfl) rfl (by simp) ?_
 unfold v73
 simp [h134]
def numT (s:Str):Option Nat:=if (cutV s).2=true then
 match ZdP (cutV s).1 with
 | .ok k=>if 0<k∧numS k=(cutV s).1 then some k else none
 | _=>none
 else none
def ZsV (c:UInt8)(n:Nat):PR:=if 48≤c.toNat∧c.toNat≤57 then
 if 1844674407370955162≤n then .rng else if 18446744073709551616≤n*10+(c.toNat-48) then .rng else .ok (n*10+(c.toNat-48))
 else .syn
theorem ZgN (c:UInt8):∀ (a:Str) (n m:Nat),Zcn a n=.ok m→Zcn (a++[c]) n=ZsV c m
 | [],n,m,h=>by
  simp only [Zcn] at h
  cases h
  simp only [List.nil_append,Zcn,ZsV]
 | x::a,n,m,h=>by
  simp only [Zcn,List.cons_append] at h ⊢
  split at h
  ·rename_i h1
   rw [if_pos h1]
   split at h
   ·cases h
   ·rename_i h2
    rw [if_neg h2]
    split at h
    ·cases h
    ·rename_i h3
     rw [if_neg h3]
     exact ZgN c a _ m h
  ·cases h
theorem ZeC {d:Nat}(h:d<10):(UInt8.ofNat (48+d)).toNat=48+d:=by
 rw [UInt8.toNat_ofNat',Nat.mod_eq_of_lt (by omega)]
theorem Zpm:∀ (f k:Nat),k≤f→k<18446744073709551616→Zcn (numS k) 0=.ok k:=by
 intro f
 induction f with
 | zero =>
  intro k hk _
  obtain rfl:k=0:=by omega
  rw [Zcs (by omega)]
  have:=ZeC (d:=0) (by omega)
  simp only [Zcn,this]
  simp
 | succ f ih =>
  intro k hk hb
  by_cases h10:k<10
  ·rw [Zcs h10]
   have:=ZeC h10
   simp only [Zcn,this]
   rw [if_pos (by omega),if_neg (by omega),if_neg (by omega)]
   congr 1
   omega
  ·rw [Zc1 h10,ZgN _ _ _ (k / 10) (ih (k / 10) (by omega) (by omega))]
   have:=ZeC (d:=k % 10) (by omega)
   unfold ZsV
   rw [this,if_pos (by omega),if_neg (by omega),if_neg (by omega)]
   congr 1
   omega
theorem Zgg:∀ (a:Str)(n m:Nat),n<18446744073709551616→Zcn a n=.ok m→m<18446744073709551616
 | [],n,m,hn,h=>by
  simp only [Zcn] at h
  cases h
  exact hn
 | x::a,n,m,hn,h=>by
  simp only [Zcn] at h
  split at h
  ·split at h
   ·cases h
   ·split at h
    ·cases h
    ·rename_i h3
     exact Zgg a _ m (by omega) h
  ·cases h
theorem ZiF {s:Str}{k:Nat}(hk:k<18446744073709551616):numT s=some k↔1≤k∧Za1 k=s:=by
 constructor
 ·intro h
  unfold numT at h
  split at h
  ·rename_i hc
   split at h
   ·rename_i m hp
    split at h
    ·rename_i hm
     cases h
     refine ⟨hm.1,?_⟩
     cases s with
     | nil=>simp [cutV] at hc
     | cons c r =>
      simp only [cutV] at hc hm
      by_cases hc1:c=118
      ·rw [if_pos hc1] at hm
       rw [hc1]
       unfold Za1
       rw [hm.2]
      ·rw [if_neg hc1] at hc
       cases hc
    ·cases h
   ·cases h
  ·cases h
 ·rintro ⟨h1,rfl⟩
  have hc:cutV (Za1 k)=(numS k,true):=by simp [cutV,Za1]
  have hne:numS k≠[]:=by
   intro h0
   have:=Zf9 k
   rw [h0] at this
   simp at this
  unfold numT
  rw [hc]
  simp only [if_true,ZdP,hne,if_false,Zpm k k (Nat.le_refl _) hk]
  rw [if_pos ⟨h1,trivial⟩]
theorem ZoV {s:Str}{k:Nat}(h:numT s=some k):k<18446744073709551616:=by
 unfold numT at h
 split at h
 ·split at h
  ·rename_i m hp
   split at h
   ·cases h
    unfold ZdP at hp
    split at hp
    ·cases hp
    ·exact Zgg _ 0 _ (by omega) hp
   ·cases h
  ·cases h
 ·cases h
variable {A:Zac}
theorem Zkv {taken:List Str}{l:List Nat}(hl:Zhv l)(hpos:∀ x∈l,1≤x)(n:Nat)(hmem:∀ k,k≤n+1+l.length→(k∈l↔1≤k∧Za1 k∈taken)):l.foldl bump (n+1)=ZaJ n taken:=by
 obtain ⟨h1,h2⟩:=ZlT hl n l.length (Nat.le_refl _)
 rw [List.take_length] at h1 h2
 generalize l.foldl bump (n+1)=k at h1 h2
 have hbl:Zf4 l k≤l.length:=List.length_filter_le ..
 have hk1:1≤k:=by omega
 have hkb:k≤n+1+l.length:=by omega
 refine (ZfT hk1 (fun h=>h2 ((hmem k hkb).2 ⟨hk1,h⟩)) ?_).symm
 have key:∀ b,1≤b→b≤k→ZdB taken 1 b+Zf4 l b=b-1:=by
  intro b hb hbk
  induction b with
  | zero=>omega
  | succ b ih =>
   rcases Nat.eq_zero_or_pos b with h0|h0
   ·subst h0
    rw [Zec]
    unfold Zf4
    simp only [Nat.zero_add,Nat.add_sub_cancel,Nat.sub_self,List.length_eq_zero_iff,List.filter_eq_nil_iff]
    intro x hx
    have:=hpos x hx
    simp only [decide_eq_true_eq]
    omega
   ·have ih:ZdB taken 1 b+Zf4 l b=b-1:=ih h0 (by omega)
    have h9:b+1-1=b:=by omega
    rw [h9]
    rw [Zb9 _ _ _ (show 1≤b from h0),Zhy (ZiT hl)]
    by_cases hb:Za1 b∈taken
    ·rw [if_neg (by simpa using hb),if_pos ((hmem b (by omega)).2 ⟨h0,hb⟩)]
     omega
    ·rw [if_pos hb,if_neg (fun h=>hb ((hmem b (by omega)).1 h).2)]
     omega
 have:=key k hk1 (Nat.le_refl _)
 omega
def Zhl (taken:List Str):List Nat:=taken.filterMap numT
theorem ZjB (taken:List Str):(Zhl taken).length≤taken.length:=List.length_filterMap_le ..
theorem Zmq {taken:List Str}{r:Nat}{s:Str}(h:taken[r]?=some s):Zhl (taken.take (r+1))=Zhl (taken.take r)++(numT s).toList:=by
 unfold Zhl
 rw [Zat h,List.filterMap_append]
 cases hn:numT s<;>simp [hn]
abbrev F28 (n:Int)(taken:List Str)(r:Nat)(u:List Nat):St:=⟨[(0,intV n),(5,.sc (.arr 129 u.length)),(15,Za3 taken),(16,intV taken.length),(17,intV r)],[(129,some (arrU u))]⟩
theorem Zr8 (n:Int)(taken:List Str)(ht:taken.length≤1073741824)(hs:∀ s∈taken,s.length≤281474976710656){r:Nat}{s:Str}(hr:taken[r]?=some s)(u:List Nat)(hu:u.length≤r)(Q:Ex→St→Prop)
 (hQ:Q .normal (F28 n taken (r+1) (u++(numT s).toList))):wp (K A) ZqI Q (F28 n taken r u):=by
 have hrl:r<taken.length:=(List.getElem?_eq_some_iff.1 hr).1
 have hsl:=hs s (List.mem_of_getElem? hr)
 have hc:=cut73 (A:=A) s hsl
 have hcl:=ZqN s
 obtain ⟨_,hp,hcall⟩:=Zsd (A:=A) (cutV s).1 (by omega)
 have hrI:(r:Int)<taken.length:=by omega
 unfold numT at hQ
 generalize cutV s=cv at *
 obtain ⟨dg,is⟩:=cv
 simp only at *
 generalize hpd:ZdP dg=p at *
 have hlt:∀ k,p=.ok k→k<18446744073709551616:=by
  intro k hk
  rw [hk] at hpd
  unfold ZdP at hpd
  split at hpd
  ·cases hpd
  ·exact Zgg _ 0 _ (by omega) hpd
 unfold ZqI
 cases p with
 | ok k =>
  simp only [Par] at hp
  subst hp
  have hk:=hlt k rfl
  have hf:=Zrh (A:=A) k hk
  cases is with
  | false =>
   simp only [Bool.false_eq_true,if_false,Option.toList_none,List.append_nil] at hQ
   simp (maxSteps:=4000000) (disch:=first|omega|(simp;done)|(simp;omega)) [hr,hrl,hrI,hc,hcall,hf,-getElem?_pos]
   exact hQ
  | true =>
   simp only [if_true] at hQ
   by_cases hk0:0<k
   ·have hk0I:(0:Int)<k:=by omega
    by_cases hd:numS k=dg
    ·rw [if_pos ⟨hk0,hd⟩] at hQ
     have e1:(u++[k]).length=u.length+1:=by simp
     simp only [Option.toList_some,F28,e1] at hQ
     simp (maxSteps:=4000000) (disch:=first|omega|(simp;done)|(simp;omega)) [hr,hrl,hrI,hc,hcall,hf,hk0,hk0I,hd,-getElem?_pos]
     exact hQ
    ·rw [if_neg (fun h=>hd h.2)] at hQ
     simp only [Option.toList_none,List.append_nil] at hQ
     simp (maxSteps:=4000000) (disch:=first|omega|(simp;done)|(simp;omega)) [hr,hrl,hrI,hc,hcall,hf,hk0,hk0I,hd,-getElem?_pos]
     exact hQ
   ·obtain rfl:k=0:=by omega
    rw [if_neg (fun h=>hk0 h.1)] at hQ
    simp only [Option.toList_none,List.append_nil] at hQ
    simp (maxSteps:=4000000) (disch:=first|omega|(simp;done)|(simp;omega)) [hr,hrl,hrI,hc,hcall,hf,-getElem?_pos]
    exact hQ
 | syn =>
  simp only [Par] at hp
  obtain ⟨x,bl,rfl⟩:=hp
  have hQ':Q .normal (F28 n taken (r+1) u):=by cases is<;>simpa using hQ
  cases is <;>
  (simp (maxSteps:=4000000) (disch:=first|omega|(simp;done)|(simp;omega)) [hr,hrl,hrI,hc,hcall,V.ren,-getElem?_pos]
   exact hQ')
 | rng =>
  simp only [Par] at hp
  obtain ⟨x,bl,rfl⟩:=hp
  have hQ':Q .normal (F28 n taken (r+1) u):=by cases is<;>simpa using hQ
  cases is <;>
  (simp (maxSteps:=4000000) (disch:=first|omega|(simp;done)|(simp;omega)) [hr,hrl,hrI,hc,hcall,V.ren,-getElem?_pos]
   exact hQ')
def CompV (n q:Nat)(v:V):Prop:=(q=n∧v=.sc (.arr 129 n))∨v=.sc (.vw 129 n 0 q)
theorem fold28 (l d:List Nat)(q:Nat)(hq:d.take q=l)(hql:q≤d.length)(hl:d.length≤1073741824)(k0:Nat)(hk0:k0≤1073741824){v:V}(hv:CompV d.length q v) :
 wp (K A) (.loop Zql) (fun x s'=>x=.exit 2∧s'=⟨[(12,u64V (l.foldl bump k0)),(58,v),(59,intV q),(60,intV q),(61,Zah false)],[(129,some (arrU d))]⟩)
  ⟨[(12,u64V k0),(58,v),(59,intV q),(60,intV 0)],[(129,some (arrU d))]⟩:=by
 have hll:l.length=q:=by rw [←hq];simp;omega
 refine Zam (fun r s=>(l.take r).foldl bump k0≤k0+r∧s=⟨[(12,u64V ((l.take r).foldl bump k0)),(58,v),(59,intV q),(60,intV r)],[(129,some (arrU d))]⟩) q ⟨by simp,by simp⟩ ?_ ?_
 ·rintro r s hr ⟨hb,rfl⟩
  obtain ⟨x,hx⟩:=Zaa (l:=l) (i:=r) (by omega)
  have hxd:d[r]?=some x:=by
   rw [←hq,List.getElem?_take,if_pos hr] at hx
   exact hx
  have hstep:(l.take (r+1)).foldl bump k0=bump ((l.take r).foldl bump k0) x:=by
   rw [Zat hx,List.foldl_append]
   rfl
  have hrI:(r:Int)<q:=by omega
  have hrd:r<d.length:=by omega
  rw [hstep]
  generalize (l.take r).foldl bump k0=k at *
  unfold bump
  unfold Zql
  by_cases hxk:x≤k
  ·have hw:IntKind.u64.wrap ((k:Int)+1)=((k+1:Nat):Int):=ZaO (k+1) (by omega)
   rw [if_pos hxk]
   rcases hv with ⟨rfl,rfl⟩|rfl <;>
   (simp (maxSteps:=4000000) (disch:=first|omega|(simp;done)|(simp;omega)) [hr,hrI,hql,hxd,hrd,hxk,-getElem?_pos]
    try omega)
  ·rw [if_neg hxk]
   rcases hv with ⟨rfl,rfl⟩|rfl <;>
   (simp (maxSteps:=4000000) (disch:=first|omega|(simp;done)|(simp;omega)) [hr,hrI,hql,hxd,hrd,hxk,-getElem?_pos]
    try omega)
 ·rintro s ⟨hb,rfl⟩
  rw [show l.take q=l by rw [List.take_of_length_le (by omega)]]
  unfold Zql
  simp (maxSteps:=4000000) (disch:=first|omega|(simp;done)|(simp;omega)) [-getElem?_pos]
theorem ZsQ (z:Int)(n:Nat)(hz:(n:Int)=max z 0)(hz1:-536870912≤z)(taken:List Str)(hn:n≤536870912)(ht:taken.length≤536870912)(hs:∀ s∈taken,s.length≤281474976710656) :
 (K A).call 28 [intV z,Za3 taken] []=some (strV (ZaK n taken),[]):=by
 refine Zan (vf:=v28) (by kernel_rfl) rfl (by simp) ?_
 have hul:=ZjB taken
 obtain ⟨_,⟨d,hsort,rfl⟩,hc76⟩:=Ztb (A:=A) (Zhl taken) (by omega)
 have hdl:d.length=(Zhl taken).length:=hsort.len
 obtain ⟨_,⟨q,d',hd',hq,htk,hres⟩,hc77⟩:=Zob (A:=A) d (by omega)
 have hsd:Zih 0 d.length d:=by rw [hdl];exact hsort.2.2
 have hasc:=ZfY hsd d.length
 have hmemD:∀ k,k∈ZbF d d.length↔k∈Zhl taken:=by
  intro k
  rw [ZgR,←hsort.1.mem_iff]
  constructor
  ·rintro ⟨j,_,hj⟩
   exact List.mem_of_getElem? hj
  ·intro h
   obtain ⟨j,hj⟩:=List.mem_iff_getElem?.1 h
   exact ⟨j,(List.getElem?_eq_some_iff.1 hj).1,hj⟩
 have hlen:=ZjK d d.length
 have hfold:(ZbF d d.length).foldl bump (n+1)=ZaJ n taken:=by
  refine Zkv hasc (fun x hx => ?_) n (fun k hk => ?_)
  ·obtain ⟨s,_,h2⟩:=List.mem_filterMap.1 ((hmemD x).1 hx)
   exact ((ZiF (ZoV h2)).1 h2).1
  ·rw [hmemD]
   constructor
   ·intro h
    obtain ⟨s,h1,h2⟩:=List.mem_filterMap.1 h
    obtain ⟨h3,h4⟩:=(ZiF (ZoV h2)).1 h2
    exact ⟨h3,by rw [h4];exact h1⟩
   ·rintro ⟨h1,h2⟩
    exact List.mem_filterMap.2 ⟨Za1 k,h2,(ZiF (by omega)).2 ⟨h1,rfl⟩⟩
 have hkle:=Zgo n taken
 generalize hu:Zhl taken=used at *
 generalize hl:ZbF d d.length=l at *
 have hmx:(if (0:Int)>z then (0:Int) else z)=n:=by split<;>omega
 have hmx2:(if z<(0:Int) then (0:Int) else z)=n:=by split<;>omega
 have hfmt:=Zrh (A:=A) (ZaJ n taken) (by omega)
 have hnl:=ZeN (ZaJ n taken) 20 (by omega) (by omega)
 unfold v28
 simp (maxSteps:=4000000) (disch:=first|omega|(simp;done)|(simp;omega)) [-getElem?_pos]
 refine Zam (fun r s=>s=F28 z taken r (Zhl (taken.take r))) taken.length (by simp [F28,Zhl];rfl) ?_ ?_
 ·rintro r s hr rfl
  obtain ⟨s,hsr⟩:=Zaa (l:=taken) (i:=r) hr
  have hul:=ZjB (taken.take r)
  refine Zr8 (A:=A) z taken (by omega) hs hsr _ (by simp at hul;omega) _ ?_
  exact .inl ⟨rfl,by rw [Zmq hsr]⟩
 ·rintro s rfl
  rw [List.take_length,hu]
  have hul1:(used:List Nat).length≤536870912:=by omega
  rw [←hdl] at hc76
  have hn1:IntKind.u64.wrap (n:Int)=(n:Int):=ZaO n (by omega)
  have hn2:IntKind.u64.wrap ((n:Int)+1)=((n+1:Nat):Int):=ZaO (n+1) (by omega)
  have hf:=fun v hv=>fold28 (A:=A) l d' q htk (by omega) (by omega) (n+1) (by omega) (v:=v) hv
  rw [hfold,hd'] at hf
  have hd'l:d'.length=d.length:=hd'
  have hqI:q≤d.length:=hq
  have hF:F28 z taken taken.length used=⟨[(0,intV z),(5,.sc (.arr 129 d.length)),(15,Za3 taken),(16,intV taken.length),(17,intV taken.length)],[(129,some (arrU used))]⟩:=by rw [hdl]
  rw [hF]
  have hv:∀ r:Str,ZaK n taken=118::numS (ZaJ n taken):=fun _=>rfl
  have hvs:ZaK n taken=118::numS (ZaJ n taken):=rfl
  rw [hvs]
  generalize ZaJ n taken=k at *
  generalize numS k=S at *
  generalize hdN:d.length=N at *
  unfold ZqI
  rcases hres with ⟨rfl,rfl⟩|rfl
  ·have hf1:=hf _ (.inl ⟨rfl,rfl⟩)
   simp (maxSteps:=4000000) (disch:=first|omega|(simp;done)|(simp;omega)) [hc76,hc77,hmx,hmx2,hn1,hn2,hdl.symm,hdN,hd'l,retV,V.ren,-getElem?_pos]
   refine wp_mono hf1 ?_
   rintro _ _ ⟨rfl,rfl⟩
   simp (maxSteps:=4000000) (disch:=first|omega|(simp;done)|(simp;omega)) [hfmt,-getElem?_pos]
  ·have hf1:=hf _ (.inr rfl)
   obtain ⟨cs,hcut⟩:=Zo7 (l:=wr (Zbk d')) (o:=0) (n:=q) (by simp;omega)
   simp (maxSteps:=4000000) (disch:=first|omega|(simp;done)|(simp;omega)) [hc76,hc77,hmx,hmx2,hn1,hn2,hdl.symm,hdN,hd'l,hqI,hcut,retV,V.ren,-getElem?_pos]
   refine wp_mono hf1 ?_
   rintro _ _ ⟨rfl,rfl⟩
   simp (maxSteps:=4000000) (disch:=first|omega|(simp;done)|(simp;omega)) [hfmt,-getElem?_pos]
end Go.Vs.Tryz
namespace Go.Vs
end Go.Vs
namespace Go.Vs.Tryz
open Go Go.Vs
variable {A:Zac}
def nmAt (taken:List Str)(e:Exp)(n:Nat):Nat→Str
 | 0=>e.name
 | i+1=>if e.kind≠8∧e.bound i≠[] then ZaK n taken else nmAt taken e n i
def armsAt (taken:List Str)(e:Exp)(n i:Nat):List (ArmH × Exp):=(Zr7 taken n e.arms).take (i-e.kids.length)++e.arms.drop (i-e.kids.length)
theorem Zmc (e:Exp):Za4 e.arms (e.children.drop e.kids.length)=e.arms:=by
 have:e.children.drop e.kids.length=e.arms.map (·.2):=by simp [Exp.children]
 rw [this]
 unfold Za4
 refine List.ext_getElem? fun j => ?_
 rw [List.getElem?_zipWith,List.getElem?_map]
 cases e.arms[j]?<;>rfl
theorem ZnG (e:Exp):e.children.take e.kids.length=e.kids:=by simp [Exp.children]
abbrev D93 (l:List (Str × Str))(taken:List Str)(N i:Nat):Env:=[(1,pairsV l),(2,Za3 taken),(3,.sc (.ptr 64 0)),(6,.sc (.ptr 128 0)),(9,.sc (.arr 1440 N)),(10,.sc (.ptr 1728 0)),(39,.sc (.arr 1440 N)),(40,intV N),(41,intV i)]
variable {A:Zac}
theorem Zoz {l:List Str}(h:l≠[]):∃ c rows,Zag l=c::rows:=by
 cases l with
 | nil=>exact absurd rfl h
 | cons e r=>exact ⟨ZdG e,Zag r,rfl⟩
theorem ZtO (l:List Str)(hl:l.length≤4294967296):(K A).call 95 [Za3 l] []=some (.sc (.arr 0 l.length),[.arr 1 (wr (Zag l)) 0]):=by
 by_cases h:l=[]
 ·subst h
  exact ZjR (by kernel_rfl) (by kernel_rfl) (by kernel_rfl) (by kernel_rfl)
 ·obtain ⟨c,rows,hr⟩:=Zoz h
  have hlen:rows.length+1=l.length:=by
   have:=strRows_len l
   rw [hr] at this
   simpa using this
  have hok:Za0 1 (wr (c::rows))=true:=hr▸okRows_str l
  have hp:Za3 l=V.sc (.c (.sl (c::rows))):=by rw [←hr]
  rw [hr,hp,Zfx (by kernel_rfl) (by kernel_rfl)]
  refine ZiO (vf:=v95) (by kernel_rfl) rfl (by decide) ?_
  unfold v95
  rw [wr_cons] at hok
  simp (disch:=first|omega|(simp;done)|(simp;omega)) [hok]
  omega
theorem Zpq {e:Exp}(h:e.kind≠8)(i:Nat):e.bound i=[]∨e.bound i=[e.name]:=by
 unfold Exp.bound
 split
 ·exact .inr rfl
 ·rw [if_neg (fun c=>h c.1)]
  exact .inl rfl
end Go.Vs.Tryz
