/- Numbers as text, walked: FormatUint (written by wip/gen/mkQ8.py). (Parts of one proof, put together.) -/
import Derived.Test.YtccmnfpbcmccpaaGreatDoorREc
import Derived.Test.YtccmnfpbcmccpaaGreatDoorR3c
import Derived.Test.YtccmnfpbcmccpaaGreatDoorRDc
import Derived.Test.YtccmnfpbcmccpaaGreatDoorRCc
set_option linter.unusedSimpArgs false
set_option linter.unusedVariables false
set_option linter.deprecated false
set_option maxHeartbeats 8000000
namespace Go.Vs.Tryz
open Go Go.Vs
variable {A:Zac}
def q190:VCode:=(sq [oM 96 1,o 97 (.cvI .u32 (tv 96)),oM 12 97] [0,4,12] (.seq (sq [oM 98 4,oK 99 .geq 98 4] [0,4,12,99] (cd 99 (sq [oM 100 12,o 101 (.bin .rem 0 (tv 100) (.k (.sc (.c (.int .u32 10000))))),oM 13 101] [0,4,12,13] (sq [oM 102 12,o 103 (.bin .quo 0 (tv 102) (.k (.sc (.c (.int .u32 10000))))),oM 12 103] [0,4,12,13] (sq [oM 104 13,o 105 (.bin .quo 0 (tv 104) (.k (.sc (.c (.int .u32 100))))),o 106 (.bin .mul 0 (tv 105) (.k (.sc (.c (.int .u32 2))))),oM 107 13,o 108 (.bin .rem 0 (tv 107) (.k (.sc (.c (.int .u32 100))))),o 109 (.bin .mul 0 (tv 108) (.k (.sc (.c (.int .u32 2))))),oM 14 106,oM 15 109] [0,4,12,14,15] (sq [oM 110 0,oM 111 4,oK 112 .sub 111 1,oM 113 0,oM 114 4,oK 115 .sub 114 2,oM 116 15,o 117 (.bin .add 0 (tv 116) (.k (.sc (.c (.int .u32 1))))),o 118 (.idxS (.k (.sc (.c (.str d200)))) (tv 117)),oM 119 15,o 120 (.idxS (.k (.sc (.c (.str d200)))) (tv 119)),oX 121 1 110 112,oW 1 121 118,oX 122 1 113 115,oW 1 122 120] [0,4,12,14] (sq [oM 123 0,oM 124 4,oK 125 .sub 124 3,oM 126 0,oM 127 4,oK 128 .sub 127 4,oM 129 14,o 130 (.bin .add 0 (tv 129) (.k (.sc (.c (.int .u32 1))))),o 131 (.idxS (.k (.sc (.c (.str d200)))) (tv 130)),oM 132 14,o 133 (.idxS (.k (.sc (.c (.str d200)))) (tv 132)),oX 134 1 123 125,oW 1 134 131,oX 135 1 126 128,oW 1 135 133] [0,4,12] (rg [oM 136 4,oK 137 .sub 136 4,oM 4 137] [0,4,12])))))) .skip)) (.seq (sq [oM 138 4,oK 139 .geq 138 2] [0,4,12,139] (cd 139 (sq [oM 140 12,o 141 (.bin .rem 0 (tv 140) (.k (.sc (.c (.int .u32 100))))),o 142 (.bin .mul 0 (tv 141) (.k (.sc (.c (.int .u32 2))))),oM 16 142] [0,4,12,16] (sq [oM 143 12,o 144 (.bin .quo 0 (tv 143) (.k (.sc (.c (.int .u32 100))))),oM 12 144] [0,4,12,16] (sq [oM 145 0,oM 146 4,oK 147 .sub 146 1,oM 148 0,oM 149 4,oK 150 .sub 149 2,oM 151 16,o 152 (.bin .add 0 (tv 151) (.k (.sc (.c (.int .u32 1))))),o 153 (.idxS (.k (.sc (.c (.str d200)))) (tv 152)),oM 154 16,o 155 (.idxS (.k (.sc (.c (.str d200)))) (tv 154)),oX 156 1 145 147,oW 1 156 153,oX 157 1 148 150,oW 1 157 155] [0,4,12] (rg [oM 158 4,oK 159 .sub 158 2,oM 4 159] [0,4,12])))) .skip)) (sq [oM 160 4,oK 161 .gtr 160 0] [0,12,161] (cd 161 (rg [oM 162 0,oM 163 12,o 164 (.bin .add 0 (.k (.sc (.c (.int .u32 48)))) (tv 163)),o 165 (.cvI .u8 (tv 164)),o 166 (.idxA 1 (tv 162) (ki 0)),oW 1 166 165] [1000000]) .skip)))))
end Go.Vs.Tryz
namespace Go.Vs
open Go
@[simp] theorem b_ifw5 {t:TypeId} {o:Bool} {r:List W}:binV .eql 5 (.sc (.ifw t o r)) (.sc (.c .nilif))=some (.sc (.c (.bool false)),[]):=rfl
@[simp] theorem b_nilif5:binV .eql 5 (.sc (.c .nilif)) (.sc (.c .nilif))=some (.sc (.c (.bool true)),[]):=rfl
end Go.Vs
namespace Go.Vs.Tryz
open Go Go.Vs
variable {A:Zac}
abbrev badR (s:Str):V × List Obj:=(.tu [u64V 0,.sc (.ifw 275 true [.ptr 0 0])],[.box [.c (.str [80,97,114,115,101,85,105,110,116]),.c (.str s),.c (errCell ZiU)]])
abbrev okR (n:Nat):V × List Obj:=(.tu [u64V n,.sc (.c .nilif)],[])
def NameP (A:Zac)(s:Str)(m:Option Nat):Prop:=∃ dg is,(K A).call 225 [strV s,strV [118]] []=some (.tu [strV dg,ZaG is],[]) ∧
 (((∃ s',(K A).call 226 [strV dg,intV 10,intV 64] []=some (badR s'))∧m=none) ∨
  (∃ n,(K A).call 226 [strV dg,intV 10,intV 64] []=some (okR n)∧is=true∧0<n∧(K A).call 227 [u64V n,intV 10] []=some (strV dg,[])∧m=some n))
def names9:List Str:=Zbe++[[118,51]]
def numN (s:Str):Option Nat:=if s=[118,49] then some 1 else if s=[118,50] then some 2 else if s=[118,51] then some 3 else none
end Go.Vs.Tryz
namespace Go.Vs
open Go
variable {C:Ctx}{E:Nat→Option V}{L:Nat→Option Obj}{oid:Nat}
def ifcK (t:TypeId):V→Option (V × Upd)
 | .sc (.c y)=>some (.sc (.c (.ifc t true [y])),[])
 | .sc w=>bif Zas w then some (.sc (.ifw t true [w]),[]) else none
 | .ag cs=>match Zad (fun w=>match w with | .c y=>some y | _=>none) cs with
  | some l=>some (.sc (.c (.ifc t false l)),[])
  | none=>some (.sc (.ifw t false cs),[])
 | .tu _=>none
@[simp] theorem ifcK_c {t:TypeId} {y:Cell}:ifcK t (.sc (.c y))=some (.sc (.c (.ifc t true [y])),[]):=rfl
@[simp] theorem ifcK_ptr {t:TypeId} {k o:Nat}:ifcK t (.sc (.ptr k o))=some (.sc (.ifw t true [.ptr k o]),[]):=rfl
@[simp] theorem x_ifc {t:TypeId} {x:Opd}:Zae C E L oid (.ifc t x)=ifcK t (x.val C E):=by
 simp only [Zae]
 generalize x.val C E=v
 cases v with
 | sc w=>cases w<;>rfl
 | _=>rfl
def cvBK:V→Option (V × Upd)
 | .sc (.c (.str s))=>bif Nat.ble s.length Zaw then some (.sc (.c (.sl (s.map fun b=>[Cell.int .u8 b.toNat]))),[]) else none
 | _=>none
@[simp] theorem cvBK_str {s:List UInt8} (h:s.length≤Zaw):cvBK (.sc (.c (.str s)))=some (.sc (.c (.sl (s.map fun b=>[Cell.int .u8 b.toNat]))),[]):=by
 unfold cvBK
 simp only
 rw [show Nat.ble s.length Zaw=true from Nat.ble_eq_true_of_le h]
 rfl
@[simp] theorem x_cvB {x:Opd}:Zae C E L oid (.cvB x)=cvBK (x.val C E):=by
 simp only [Zae]
 generalize x.val C E=v
 cases v with
 | sc w =>
  cases w with
  | c y=>cases y<;>rfl
  | _=>rfl
 | _=>rfl
@[simp] theorem b_eq215 {m n:Int}:binV .eql 278 (.sc (.c (.ifc 272 true [.int .i64 m]))) (.sc (.c (.ifc 272 true [.int .i64 n])))=some (.sc (.c (.bool (decide (m=n)))),[]):=by
 simp [binV,binW,Zdc]
 rw [Bool.eq_iff_iff]
 simp
@[simp] theorem b_neqif5 {t:TypeId} {o:Bool} {r:List Cell}:binV .neq 5 (.sc (.c (.ifc t o r))) (.sc (.c .nilif))=some (.sc (.c (.bool true)),[]):=rfl
@[simp] theorem b_neqnil5:binV .neq 5 (.sc (.c .nilif)) (.sc (.c .nilif))=some (.sc (.c (.bool false)),[]):=rfl
end Go.Vs
namespace Go.Vs.Tryz
open Go Go.Vs
variable {A:Zac}
abbrev u8V (n:Nat):V:=.sc (.c (.int .u8 n))
def isU8R (r:Option (V × List Obj)):Bool:=match r with
 | some (.sc (.c (.int .u8 j)),[])=>decide (0≤j) && decide (j<256)
 | _=>false
inductive PR where
 | ok (n:Nat)
 | syn
 | rng
def ZpQ:Str→Nat→PR
 | [],n=>.ok n
 | c::r,n=>if 48≤c.toNat∧c.toNat≤57 then
  if 1844674407370955162≤n then .rng else if 18446744073709551616≤n*10+(c.toNat-48) then .rng else ZpQ r (n*10+(c.toNat-48))
  else .syn
def parseT (s:Str):PR:=if s=[] then .syn else ZpQ s 0
abbrev perr (e:Int):V:=.sc (.c (.ifc 272 true [.int .i64 e]))
def prV:PR→V
 | .ok n=>.tu [u64V n,.sc (.c .nilif)]
 | .syn=>.tu [u64V 0,perr 2]
 | .rng=>.tu [.sc (.c (.int .u64 18446744073709551615)),perr 1]
def Zel (s:Str):List (List Cell):=s.map fun b=>[Cell.int .u8 b.toNat]
@[simp] theorem chrRows_get (s:Str) (i:Nat):(Zel s)[i]?=(s[i]?).map fun b=>[Cell.int .u8 b.toNat]:=by simp [Zel]
@[simp] theorem chrRows_len (s:Str):(Zel s).length=s.length:=by simp [Zel]
abbrev P0 (s:Str)(i n:Nat):Env:=[(1,intV 10),(8,ZaG false),(9,strV s),(10,.sc (.c (.int .u64 1844674407370955162))),(11,.sc (.c (.int .u64 18446744073709551615))),(12,ZaG false),(13,u64V n),(99,.sc (.c (.sl (Zel s)))),(100,intV s.length),(101,intV i)]
abbrev P1 (s:Str)(i n:Nat):Env:=[(1,intV 10),(8,ZaG false),(9,strV s),(10,.sc (.c (.int .u64 1844674407370955162))),(11,.sc (.c (.int .u64 18446744073709551615))),(12,ZaG false),(99,.sc (.c (.sl (Zel s)))),(100,intV s.length),(101,intV i),(13,u64V n)]
end Go.Vs.Tryz
namespace Go.Vs
open Go
@[simp] theorem refs_ifw {t:TypeId} {o:Bool} {row:List W}:W.refs 4 (.ifw t o row)=row.flatMap (W.refs 3):=rfl
@[simp] theorem ren_ifw {ρ:Nat→Option Nat} {t:TypeId} {o:Bool} {row:List W}:W.ren ρ 4 (.ifw t o row)=.ifw t o (row.map (W.ren ρ 3)):=rfl
@[simp] theorem refs3_ptr {k o:Nat}:W.refs 3 (.ptr k o)=[k]:=rfl
@[simp] theorem ren3_ptr {ρ:Nat→Option Nat} {k o:Nat}:W.ren ρ 3 (.ptr k o)=match ρ k with | some j=>.ptr j o | none=>.un:=rfl
end Go.Vs
namespace Go.Vs.Tryz
open Go Go.Vs
variable {A:Zac}
def Par (p:PR)(r:V × List Obj):Prop:=match p with
 | .ok n=>r=okR n
 | _=>∃ (x:Int) (l:List W),r=(.tu [.sc (.c (.int .u64 x)),.sc (.ifw 275 true [.ptr 0 0])],[.box l])
def cutV:Str→Str × Bool
 | []=>([],false)
 | c::r=>if c=118 then (r,true) else (c::r,false)
def numT (s:Str):Option Nat:=if (cutV s).2=true then
 match parseT (cutV s).1 with
 | .ok k=>if 0<k∧numS k=(cutV s).1 then some k else none
 | _=>none
 else none
def stepL (c:UInt8)(n:Nat):PR:=if 48≤c.toNat∧c.toNat≤57 then
 if 1844674407370955162≤n then .rng else if 18446744073709551616≤n*10+(c.toNat-48) then .rng else .ok (n*10+(c.toNat-48))
 else .syn
variable {A:Zac}
def usedL (taken:List Str):List Nat:=taken.filterMap numT
abbrev F28 (n:Int)(taken:List Str)(r:Nat)(u:List Nat):St:=⟨[(0,intV n),(5,.sc (.arr 129 u.length)),(15,Zdo taken),(16,intV taken.length),(17,intV r)],[(129,some (arrU u))]⟩
def CompV (n q:Nat)(v:V):Prop:=(q=n∧v=.sc (.arr 129 n))∨v=.sc (.vw 129 n 0 q)
end Go.Vs.Tryz
namespace Go.Vs
end Go.Vs
namespace Go.Vs.Tryz
open Go Go.Vs
variable {A:Zac}
def nmAt (taken:List Str)(e:Exp)(n:Nat):Nat→Str
 | 0=>e.name
 | i+1=>if e.kind≠8∧e.bound i≠[] then Zde n taken else nmAt taken e n i
def armsAt (taken:List Str)(e:Exp)(n i:Nat):List (ArmH × Exp):=(ZrM taken n e.arms).take (i-e.kids.length)++e.arms.drop (i-e.kids.length)
abbrev D93 (l:List (Str × Str))(taken:List Str)(N i:Nat):Env:=[(1,pairsV l),(2,Zdo taken),(3,.sc (.ptr 64 0)),(6,.sc (.ptr 128 0)),(9,.sc (.arr 1440 N)),(10,.sc (.ptr 1728 0)),(39,.sc (.arr 1440 N)),(40,intV N),(41,intV i)]
variable {A:Zac}
def Zeg (e:Exp)(cs:List Exp):Exp:=.mk e.kind e.pos e.name e.num (cs.take e.kids.length) (Zbz e.arms (cs.drop e.kids.length)) e.ty
theorem Zge {e:Exp}{cs:List Exp}(h:cs.length=e.kids.length+e.arms.length) :
 (Zeg e cs).kids.length=e.kids.length∧(Zeg e cs).arms.length=e.arms.length∧(Zeg e cs).children=cs∧(∀ i:Nat,((Zeg e cs).arms[i]?).map (·.1)=(e.arms[i]?).map (·.1)):=by
 have hal:(Zbz e.arms (cs.drop e.kids.length)).length=e.arms.length:=by rw [armsW_len,List.length_drop];omega
 refine ⟨?_,hal,?_,fun i => ?_⟩
 ·show (cs.take e.kids.length).length=_
  rw [List.length_take]
  omega
 ·show cs.take e.kids.length++(Zbz e.arms (cs.drop e.kids.length)).map (·.2)=cs
  have:(Zbz e.arms (cs.drop e.kids.length)).map (·.2)=cs.drop e.kids.length:=by
   unfold Zbz
   exact Znn (by rw [List.length_drop];omega) _ fun _ _=>rfl
  rw [this,List.take_append_drop]
 ·show ((Zbz e.arms (cs.drop e.kids.length))[i]?).map (·.1)=_
  unfold Zbz
  rw [List.getElem?_zipWith]
  cases ha:e.arms[i]? with
  | none=>rfl
  | some a =>
   obtain ⟨c,hc⟩:=Zaa (l:=cs.drop e.kids.length) (i:=i) (by have:=(List.getElem?_eq_some_iff.1 ha).1;rw [List.length_drop];omega)
   rw [hc]
   rfl
theorem Zje {e:Exp}{cs:List Exp}(h:cs.length=e.kids.length+e.arms.length):(Zeg e cs).weight=1+(e.arms.map fun a=>a.1.vars.length).sum+(cs.map Exp.weight).sum:=by
 obtain ⟨h1,h2,h3,h4⟩:=Zge h
 rw [Exp.weight_eq,h3]
 congr 2
 congr 1
 refine List.ext_getElem? fun i => ?_
 have:=h4 i
 rw [List.getElem?_map,List.getElem?_map]
 cases hp:(Zeg e cs).arms[i]?<;>cases hq:e.arms[i]?<;>rw [hp,hq] at this<;>simp at this
 simp only [Option.map_some,this]
def allF (e:Exp)(l:List (List Str)):List Str:=e.name::(l.zipIdx.map fun p=>e.bound p.2++p.1).flatten
def allP (e:Exp):List Str:=e.fold allF
def Zfq (frm to:Str)(e:Exp)(l:List Exp):Exp :=
 if e.kind=1 then (if e.name=frm then .mk e.kind e.pos to e.num e.kids e.arms e.ty else e)
 else Zeg e ((e.children.zip l).zipIdx.map fun p=>if frm∈e.bound p.2 then p.1.1 else p.1.2)
def repl (frm to:Str)(e:Exp):Exp:=e.fold (Zfq frm to)
def replC (frm to:Str)(e:Exp):List Exp:=e.children.zipIdx.map fun p=>if frm∈e.bound p.2 then p.1 else repl frm to p.1
@[simp] theorem replC_len (frm to:Str) (e:Exp):(replC frm to e).length=e.kids.length+e.arms.length:=by simp [replC]
def renV (frm to:Str):Rep:=ofR fun s t=>t=if s=frm then to else s
def hitP (x:Str)(free:List Str)(n:Str)(inside:List Exp):Prop:=n∈free∧∃ e∈inside,x∈Zbw e
instance (x:Str) (free:List Str) (n:Str) (inside:List Exp):Decidable (hitP x free n inside):=inferInstanceAs (Decidable (_∧_))
def ZgB (e:Exp):Nat:=if e.kind=6 then 1 else 0
def ZrC (x:Str)(free:List Str)(e:Exp):Exp :=
 if e.name=x∨e.kids.length≤ZgB e∨¬hitP x free e.name (e.kids.drop (ZgB e)) then e else
  .mk e.kind e.pos (Zde 0 (allP e++free++[x])) e.num (e.kids.zipIdx.map fun p=>if p.2<ZgB e then p.1 else repl e.name (Zde 0 (allP e++free++[x])) p.1) e.arms e.ty
def Zrp (x:Str)(free:List Str)(p:List Str × Exp)(i:Nat):List Str × Exp:=match p.1[i]? with
 | none=>p
 | some v=>if v∈p.1.drop (i+1)∨¬hitP x free v [p.2] then p else (p.1.set i (Zde 0 (allP p.2++p.1++free++[x])),repl v (Zde 0 (allP p.2++p.1++free++[x])) p.2)
def armTo (x:Str)(free:List Str)(vs:List Str)(b:Exp)(k:Nat):List Str × Exp:=(List.range k).foldl (Zrp x free) (vs,b)
def armP (x:Str)(free:List Str)(a:ArmH × Exp):ArmH × Exp :=
 if x∈a.1.vars then a else (⟨a.1.pos,a.1.con,(armTo x free a.1.vars a.2 a.1.vars.length).1⟩,(armTo x free a.1.vars a.2 a.1.vars.length).2)
def ZrW (x:Str)(free:List Str)(e:Exp):Exp :=
 if e.kind=4∨e.kind=6∨e.kind=7 then ZrC x free e else if e.kind=8 then .mk e.kind e.pos e.name e.num e.kids (e.arms.map (armP x free)) e.ty else e
def subN:Nat→Exp→Str→Exp→Exp
 | 0,e,_,_=>e
 | n+1,e,x,b=>if e.kind=1 then (if e.name=x then b else e) else
  Zeg (ZrW x (Zbw b) e) ((ZrW x (Zbw b) e).children.zipIdx.map fun p=>if x∈(ZrW x (Zbw b) e).bound p.2 then p.1 else subN n p.1 x b)
def subC (n:Nat)(e:Exp)(x:Str)(b:Exp):List Exp:=e.children.zipIdx.map fun p=>if x∈e.bound p.2 then p.1 else subN n p.1 x b
@[simp] theorem subC_len (n:Nat) (e:Exp) (x:Str) (b:Exp):(subC n e x b).length=e.kids.length+e.arms.length:=by simp [subC]
def inj (l:List Str):Prop:=∀ (i j:Nat) s,l[i]?=some s→l[j]?=some s→i=j
def properP (e:Exp):Prop:=e.fold fun e l=>(∀ a∈e.arms,inj a.1.vars)∧∀ p∈l,p
theorem Zgz (e:Exp):properP e=((∀ a∈e.arms,inj a.1.vars)∧∀ x∈e.children,properP x):=by
 have:=Exp.fold_eq (fun e (l:List Prop)=>(∀ a∈e.arms,inj a.1.vars)∧∀ p∈l,p) e
 unfold properP
 rw [this]
 simp only [List.forall_mem_map]
theorem properP.one {e:Exp}(h:properP e):∀ a∈e.arms,inj a.1.vars:=by rw [Zgz] at h;exact h.1
theorem properP.child {e x:Exp}(h:properP e)(hx:x∈e.children):properP x:=by rw [Zgz] at h;exact h.2 x hx
def subV (x:Str)(b:Exp):Rep:=fun s c=>if s=x then c=b else isVar s c
structure KidOk (x:Str)(b x0 x1:Exp)(bs cs:List Str):Prop where
 len:bs.length=cs.length
 skip:x∈bs→x1=x0∧cs=bs
 notin:x∉bs→x∉cs
 inst:instR x0 x1 (idV.ext bs cs)
 Zd7:x∉cs→x∈Zbw x1→∀ u∈Zbw b,u∉cs
 weight:x1.weight=x0.weight
 shape:shp x1
 proper:properP x1
theorem inj.rlast {l:List Str}(h:inj l){i:Nat}{s:Str}(hi:l[i]?=some s):rlast l s=i:=ZnV hi fun j x hij hx e=>by
 have:=h i j s hi (e▸hx)
 omega
theorem inj.set {l:List Str}(h:inj l){k:Nat}{t:Str}(ht:t∉l):inj (l.set k t):=by
 intro i j s hi hj
 rw [List.getElem?_set] at hi hj
 split at hi<;>split at hj
 ·omega
 ·split at hi
  ·cases hi
   exact absurd (List.mem_of_getElem? hj) ht
  ·cases hi
 ·split at hj
  ·cases hj
   exact absurd (List.mem_of_getElem? hi) ht
  ·cases hj
 ·exact h i j s hi hj
structure ArmOk (x:Str)(free vars:List Str)(b0:Exp)(k:Nat)(vs:List Str)(b:Exp):Prop where
 len:vs.length=vars.length
 inj:inj vs
 notin:x∉vs
 inst:instR b0 b (idV.ext vars vs)
 weight:b.weight=b0.weight
 shape:shp b
 proper:properP b
 done:∀ j v,j<k→vs[j]?=some v→¬(v∈free∧x∈Zbw b)
structure PrepOk (x:Str)(b e e':Exp):Prop where
 head:headEq e e'
 con:e.kind=2→e.name=e'.name
 arms:Zga e e'
 kids:∀ (i:Nat) x0 x1,e.children[i]?=some x0→e'.children[i]?=some x1→KidOk x b x0 x1 (e.bound i) (e'.bound i)
 sum:(e'.arms.map fun a=>a.1.vars.length).sum=(e.arms.map fun a=>a.1.vars.length).sum
 vars:∀ a∈e'.arms,inj a.1.vars
def subP (e:Exp)(x:Str)(b:Exp):Exp:=subN e.weight e x b
def listF (e:Exp)(l:List (List Str)):List Str:=(if e.name=[] then [] else [e.name])++(e.arms.map fun a=>a.1.vars).flatten++l.flatten
def listR (e:Exp):List Str:=e.fold listF
def sameH (a b:Exp):Prop:=a.kind=b.kind∧a.name=b.name∧a.num=b.num∧a.ty=b.ty∧a.kids.length=b.kids.length∧a.arms.length=b.arms.length ∧
 ∀ (i:Nat) p q,a.arms[i]?=some p→b.arms[i]?=some q→p.1.con=q.1.con∧p.1.vars=q.1.vars
theorem Zd2 {a b:Exp}:sameP a b↔sameH a b∧∀ (i:Nat) x y,a.children[i]?=some x→b.children[i]?=some y→sameP x y:=by
 rw [Zb0]
 unfold sameH
 simp only [and_assoc]
theorem sameP.kids_len {a b:Exp}(h:sameP a b):a.children.length=b.children.length:=by
 obtain ⟨⟨_,_,_,_,h1,h2,_⟩,_⟩:=Zd2.1 h
 rw [a.children_len,b.children_len,h1,h2]
theorem sameP.kid {a b:Exp}(h:sameP a b){i:Nat}{x:Exp}(hx:a.children[i]?=some x):∃ y,b.children[i]?=some y∧sameP x y:=by
 obtain ⟨y,hy⟩:=Zaa (l:=b.children) (i:=i) (by rw [←h.kids_len];exact (List.getElem?_eq_some_iff.1 hx).1)
 exact ⟨y,hy,(Zd2.1 h).2 i x y hx hy⟩
theorem sameP.weight (a:Exp):∀ b,sameP a b→a.weight=b.weight:=by
 induction a using Exp.ind with
 | h a ih =>
  intro b h
  obtain ⟨⟨_,_,_,_,_,h6,h7⟩,h8⟩:=Zd2.1 h
  have hl:=h.kids_len
  rw [a.weight_eq,b.weight_eq]
  congr 1
  ·congr 2
   refine List.ext_getElem? fun i => ?_
   rw [List.getElem?_map,List.getElem?_map]
   cases hp:a.arms[i]? with
   | none =>
    have:b.arms[i]?=none:=by rw [List.getElem?_eq_none_iff] at hp ⊢;omega
    rw [this]
   | some p =>
    obtain ⟨q,hq⟩:=Zaa (l:=b.arms) (i:=i) (by have:=(List.getElem?_eq_some_iff.1 hp).1;omega)
    rw [hq]
    simp only [Option.map_some,(h7 i p q hp hq).2]
  ·congr 1
   refine List.ext_getElem? fun i => ?_
   rw [List.getElem?_map,List.getElem?_map]
   cases hp:a.children[i]? with
   | none =>
    have:b.children[i]?=none:=by rw [List.getElem?_eq_none_iff] at hp ⊢;omega
    rw [this]
   | some p =>
    obtain ⟨q,hq,hs⟩:=h.kid hp
    rw [hq]
    simp only [Option.map_some,ih p (List.mem_of_getElem? hp) q hs]
theorem sameP.shp (a:Exp):∀ b,sameP a b→shp a→shp b:=by
 induction a using Exp.ind with
 | h a ih =>
  intro b h hs
  obtain ⟨⟨h1,h2,h3,h4,h5,h6,h7⟩,h8⟩:=Zd2.1 h
  rw [Zig]
  refine ⟨?_,fun y hy => ?_⟩
  ·obtain ⟨⟨w1,w2,w3⟩,w4,w5⟩:=hs.one
   have hz:∀ {α:Type} {l m:List α},l.length=m.length→l=[]→m=[]:=fun hl he=>List.length_eq_zero_iff.1 (by rw [←hl,he];rfl)
   refine ⟨⟨fun k=>by rw [←h5];exact w1 (h1.trans k),fun k=>List.length_eq_zero_iff.1 (by rw [←h6,w2 (fun q=>k (h1▸q))];rfl),fun k=>List.length_eq_zero_iff.1 (by rw [←h5,w3 (h1.trans k)];rfl)⟩,fun k => ?_,by rw [←h5,←h1];exact w5⟩
   rw [←h3,←h4]
   exact w4 (h1.trans k)
  ·obtain ⟨i,hi⟩:=List.mem_iff_getElem?.1 hy
   obtain ⟨x,hx⟩:=Zaa (l:=a.children) (i:=i) (by rw [h.kids_len];exact (List.getElem?_eq_some_iff.1 hi).1)
   exact ih x (List.mem_of_getElem? hx) y (h8 i x y hx hi) (hs.child (List.mem_of_getElem? hx))
def varX (s:Str):Exp:=.mk 1 0 s 0 [] [] tz
def newR (x:Str)(b e:Exp):Str:=Zde 0 (Zbw b++listR e++[x])
def newA (x con:Str)(b:Exp)(p:List Str × Exp):Str:=Zde 0 (Zbw b++listR p.2++[x,con]++p.1)
def Zpj (S:Exp→Str→Exp→Exp)(x:Str)(b:Exp)(con:Str)(p:List Str × Exp)(i:Nat):List Str × Exp:=match p.1[i]? with
 | none=>p
 | some v=>if v∈Zbw b∧x∈Zbw p.2 then (p.1.set i (newA x con b p),S p.2 v (varX (newA x con b p))) else p
def ZpF (S:Exp→Str→Exp→Exp)(x:Str)(b:Exp)(con:Str)(vs:List Str)(e:Exp)(k:Nat):List Str × Exp:=(List.range k).foldl (Zpj S x b con) (vs,e)
def armPR (S:Exp→Str→Exp→Exp)(x:Str)(b:Exp)(a:ArmH × Exp):ArmH × Exp :=
 if x∈a.1.vars then a else (⟨a.1.pos,a.1.con,(ZpF S x b a.1.con a.1.vars a.2 a.1.vars.length).1⟩,(ZpF S x b a.1.con a.1.vars a.2 a.1.vars.length).2)
def bindR (S:Exp→Str→Exp→Exp)(x:Str)(b:Exp)(e:Exp):Exp :=
 if e.name=x∨e.kids.length≤ZgB e∨¬hitP x (Zbw b) e.name (e.kids.drop (ZgB e)) then e else
  .mk e.kind e.pos (newR x b e) e.num (e.kids.zipIdx.map fun p=>if p.2<ZgB e then p.1 else S p.1 e.name (varX (newR x b e))) e.arms e.ty
def Zry (S:Exp→Str→Exp→Exp)(x:Str)(b:Exp)(e:Exp):Exp :=
 if e.kind=4∨e.kind=6∨e.kind=7 then bindR S x b e else if e.kind=8 then .mk e.kind e.pos e.name e.num e.kids (e.arms.map (armPR S x b)) e.ty else e
def refS:Nat→Exp→Str→Exp→Exp
 | 0,e,_,_=>e
 | n+1,e,x,b=>if e.kind=1 then (if e.name=x then b else e) else
  Zeg (Zry (refS n) x b e) ((Zry (refS n) x b e).children.zipIdx.map fun p=>if x∈(Zry (refS n) x b e).bound p.2 then p.1 else refS n p.1 x b)
def refC (n:Nat)(e:Exp)(x:Str)(b:Exp):List Exp:=e.children.zipIdx.map fun p=>if x∈e.bound p.2 then p.1 else refS n p.1 x b
@[simp] theorem refC_len (n:Nat) (e:Exp) (x:Str) (b:Exp):(refC n e x b).length=e.kids.length+e.arms.length:=by simp [refC]
def conV (e:Exp):Prop:=e.fold fun e l=>(∀ a∈e.arms,∀ k,a.1.con≠ZhX k)∧∀ p∈l,p
theorem Zma (e:Exp):conV e=((∀ a∈e.arms,∀ k,a.1.con≠ZhX k)∧∀ x∈e.children,conV x):=by
 have:=Exp.fold_eq (fun e (l:List Prop)=>(∀ a∈e.arms,∀ k,a.1.con≠ZhX k)∧∀ p∈l,p) e
 unfold conV
 rw [this]
 simp only [List.forall_mem_map]
theorem conV.one {e:Exp}(h:conV e):∀ a∈e.arms,∀ k,a.1.con≠ZhX k:=by rw [Zma] at h;exact h.1
theorem conV.child {e x:Exp}(h:conV e)(hx:x∈e.children):conV x:=by rw [Zma] at h;exact h.2 x hx
def Zj8:Nat→Exp→List Exp→Exp × List Exp
 | 0,e,l=>(e,l)
 | n+1,e,l=>if e.kind=5 then match e.kids with
  | [f,a]=>Zj8 n f (a::l)
  | _=>(e,l)
  else (e,l)
def asg (ρ:Str→Nat)(bs:List Str):Str→Nat:=fun s=>if s∈bs then 1 else ρ s
def wF (e:Exp)(l:List ((Str→Nat)→Nat))(ρ:Str→Nat):Nat:=if e.kind=1 then ρ e.name else 1+(e.arms.map fun a=>a.1.vars.length).sum+(l.zipIdx.map fun p=>p.1 (asg ρ (e.bound p.2))).sum
def wV (e:Exp):(Str→Nat)→Nat:=e.fold wF
def okE (e:Exp):Prop:=shp e∧properP e∧conV e
def refP (e:Exp)(x:Str)(b:Exp):Exp:=refS e.weight e x b
def chainP (l:List (Str × Exp))(b:Exp):Exp:=l.foldl (fun e p=>subP e p.1 p.2) b
def chainR (l:List (Str × Exp))(b:Exp):Exp:=l.foldl (fun e p=>refP e p.1 p.2) b
def asgL (M:Nat)(l:List (Str × Exp)):Str→Nat:=fun s=>if ∃ p∈l,p.1=s then M else 1
def usedF (e:Exp)(l:List (List Str)):List Str:=e.name::((e.arms.map fun a=>a.1.vars).flatten++l.flatten)
def usedP (e:Exp):List Str:=e.fold usedF
def links (T:List Str)(vars:List Str)(args:List Exp):List (Str × Exp) :=
 (vars.zipIdx.map fun p=>(p.1,varX (Zde p.2 T)))++args.zipIdx.map fun p=>(Zde p.2 T,p.1)
def chainG (S:Exp→Str→Exp→Exp)(l:List (Str × Exp))(b:Exp):Exp:=l.foldl (fun e p=>S e p.1 p.2) b
def ZpX (S:Exp→Str→Exp→Exp)(T:Exp→List Str)(e:Exp)(con:Str)(args:List Exp):Option (Exp × Nat) :=
 match e.arms.find? fun a=>a.1.con == con with
 | none=>none
 | some a=>if a.1.vars.length=args.length then some (chainG S (links (T e) a.1.vars args) a.2,4) else none
def stepG (S:Exp→Str→Exp→Exp)(T:Exp→List Str)(G:Exp→Exp→Exp):Nat→Exp→Option (Exp × Nat)
 | 0,_=>none
 | n+1,e=>match e.kids with
  | [f,a] =>
   if e.kind=5 then
    if f.kind=4 then (match f.kids with | [k]=>some (S k f.name a,1) | _=>none)
    else (stepG S T G n f).map fun p=>(Zeg e (p.1::e.children.tail),p.2)
   else if e.kind=6 then some (S a e.name f,2)
   else if e.kind=7 then some (S a e.name (G e f),3) else none
  | [k] =>
   if e.kind=9 then some (k,5) else if e.kind=11 then some (k,6) else if e.kind=8 then
    if (Zj8 k.weight k []).1.kind=2 then ZpX S T e (Zj8 k.weight k []).1.name (Zj8 k.weight k []).2
    else (stepG S T G n k).map fun p=>(Zeg e (p.1::e.children.tail),p.2)
   else none
  | _=>none
def optSame (a b:Option (Exp × Nat)):Prop:=match a,b with
 | none,none=>True
 | some p,some q=>sameP p.1 q.1∧p.2=q.2
 | _,_=>False
theorem okE.child {e x:Exp}(h:okE e)(hx:x∈e.children):okE x:=⟨h.1.child hx,h.2.1.child hx,h.2.2.child hx⟩
variable {A:Zac}
@[simp] theorem fit_bind (l:List BindD):Za0 20 (ZaE l)=true:=Zc9 bindRow_len l
def Zbp (g:Exp→Exp)(l:List BindD)(nm:Str):Exp:=l.foldr (fun b e=>.mk (if b.isRec then 7 else 6) 0 b.name 0 [g b.body,e] [] tz) (.mk 1 0 nm 0 [] [] tz)
theorem ZbV (g:Exp→Exp)(b:BindD)(l:List BindD)(nm:Str):Zbp g (b::l) nm=.mk (if b.isRec then 7 else 6) 0 b.name 0 [g b.body,Zbp g l nm] [] tz:=rfl
theorem ZeP (l:List BindD)(nm:Str):Zag (Zbp id l nm)=Zbp Zag l nm:=by
 induction l with
 | nil =>
  rw [ZcG]
  simp [Zbp,Zd1,Exp.children,Exp.kids,Exp.arms,Exp.kind,Exp.name,Exp.num,Exp.ty]
 | cons b l ih =>
  rw [ZbV,ZbV,ZcG,←ih]
  simp [Zd1,Exp.children,Exp.kids,Exp.arms,Exp.kind,Exp.name,Exp.num,Exp.ty]
theorem Zej {g:Exp→Exp}{B:Nat}{l:List BindD}(h:∀ b∈l,(g b.body).weight≤B)(nm:Str):(Zbp g l nm).weight≤1+l.length*(B+1):=by
 induction l with
 | nil =>
  have:=ZbC 1 0 nm
  show (Exp.mk 1 0 nm 0 [] [] tz).weight≤1+0*(B+1)
  omega
 | cons b l ih =>
  have h1:=h b (by simp)
  have h2:=ih fun b hb=>h b (by simp [hb])
  rw [ZbV,ZaX]
  simp only [List.map_cons,List.map_nil,List.sum_cons,List.sum_nil,List.length_cons,Nat.succ_mul]
  omega
def ZrL (bs:List BindD):Str:=(bs.getLast?.map (·.name)).getD []
theorem ZjG {bs:List BindD}{b:BindD}{i:Nat}(h:bs[i]?=some b)(hi:i+1=bs.length):ZrL bs=b.name:=by
 unfold ZrL
 rw [List.getLast?_eq_getElem?,show bs.length-1=i by omega,h]
 rfl
def Zbj (g:Exp→Exp)(bs:List BindD):Exp:=if bs=[] then .mk 3 0 [] 0 [] [] tz else Zbp g bs (ZrL bs)
theorem Zhg (bs:List BindD):Zag (Zbj id bs)=Zbj Zag bs:=by
 unfold Zbj
 split
 ·rw [ZcG]
  simp [Zd1,Exp.children,Exp.kids,Exp.arms,Exp.kind,Exp.name,Exp.num,Exp.ty]
 ·exact ZeP _ _
theorem Zn9 (ds:List DataD)(bs:List BindD)(hb:bs.length≤1000)(hw:∀ b∈bs,b.body.weight≤1000000):(K A).call 28 [ZhJ ds bs] []=some (expV (Zbj Zag bs),[]):=by
 refine ZaW (vf:=v28) (by kernel_rfl) rfl (by simp) ?_
 unfold v28
 by_cases hz:bs=[]
 ·subst hz
  simp (disch:=first|omega|(simp;done)|(simp;omega)) [-getElem?_pos]
  simp [Zbj,expV,Zbu]
 ·obtain ⟨n,hn⟩:∃ n,bs.length=n+1:=⟨bs.length-1,by have:=List.length_pos_iff.2 hz;omega⟩
  obtain ⟨b0,hb0⟩:=Zaa (l:=bs) (i:=n) (by omega)
  have hlast:=ZjG hb0 hn.symm
  have hcl:Zbj Zag bs=Zbp Zag bs b0.name:=by unfold Zbj;rw [if_neg hz,hlast]
  rw [hcl]
  have hn0:¬((n:Int)+1=0):=by omega
  simp (disch:=first|omega|(simp;done)|(simp;omega)) [hn,hn0,hb0,hz,-getElem?_pos]
  refine Zaf (fun j s=>∃ (i:Nat) (cs:List W),i+j=n+1∧(cs=wc (Zbp Zag (bs.drop i) b0.name).row∨(cs=Zfz 1 b0.name∧Zbp Zag (bs.drop i) b0.name=.mk 1 0 b0.name 0 [] [] tz)) ∧
   s=⟨[(1,.sc (.ptr 64 0)),(2,.sc (.ptr 128 0)),(3,.sc (.ptr 1216 0)),(4,intV ((i:Int)-1))],[(64,some (.box [.c (.sl (Zah ds)),.c (.sl (ZaE bs))])),(128,some (.box zE)),(1216,some (.box cs))]⟩) (n+1)
   ⟨n+1,Zfz 1 b0.name,by omega,.inr ⟨rfl,by rw [List.drop_of_length_le (by omega)];rfl⟩,by simp⟩ ?_ ?_
  ·rintro j s hj ⟨i,cs,hij,hcs,rfl⟩
   obtain ⟨i,rfl⟩:∃ k,i=k+1:=⟨i-1,by omega⟩
   obtain ⟨b,hbi⟩:=Zaa (l:=bs) (i:=i) (by omega)
   have hst:=Zrk (A:=A) b.body (by have:=hw b (List.mem_of_getElem? hbi);omega)
   have hd:bs.drop i=b::bs.drop (i+1):=by
    rw [List.drop_eq_getElem_cons (by omega)]
    congr 1
    have:=List.getElem?_eq_getElem (l:=bs) (i:=i) (by omega)
    rw [hbi] at this
    exact (Option.some.inj this).symm
   have hlt:i<bs.length:=by omega
   have hcl2:Zbp Zag (bs.drop i) b0.name=.mk (if b.isRec then 7 else 6) 0 b.name 0 [Zag b.body,Zbp Zag (bs.drop (i+1)) b0.name] [] tz:=by rw [hd,ZbV]
   generalize hE:Zbp Zag (bs.drop (i+1)) b0.name=E at *
   unfold Zrn
   cases hr:b.isRec with
   | true =>
    simp only [hr,if_true] at hcl2
    rcases hcs with rfl|⟨rfl,rfl⟩
    ·simp (disch:=first|omega|(simp;done)|(simp;omega)) [hbi,hst,hr,hlt,-getElem?_pos]
     exact ⟨i,by omega,rfl,by rw [hcl2];simp [Zbk,wc]⟩
    ·simp (disch:=first|omega|(simp;done)|(simp;omega)) [hbi,hst,hr,hlt,-getElem?_pos]
     exact ⟨i,by omega,rfl,by rw [hcl2];simp [Zbk,Zbu,wc]⟩
   | false =>
    simp only [hr,Bool.false_eq_true,if_false] at hcl2
    rcases hcs with rfl|⟨rfl,rfl⟩
    ·simp (disch:=first|omega|(simp;done)|(simp;omega)) [hbi,hst,hr,hlt,-getElem?_pos]
     exact ⟨i,by omega,rfl,by rw [hcl2];simp [Zbk,wc]⟩
    ·simp (disch:=first|omega|(simp;done)|(simp;omega)) [hbi,hst,hr,hlt,-getElem?_pos]
     exact ⟨i,by omega,rfl,by rw [hcl2];simp [Zbk,Zbu,wc]⟩
  ·rintro s ⟨i,cs,hij,hcs,rfl⟩
   obtain rfl:i=0:=by omega
   rw [List.drop_zero] at hcs
   unfold Zrn
   rcases hcs with rfl|⟨rfl,hE⟩
   ·simp (disch:=first|omega|(simp;done)|(simp;omega)) [-getElem?_pos]
   ·simp (disch:=first|omega|(simp;done)|(simp;omega)) [hE,expV,Zbu,-getElem?_pos]
end Go.Vs.Tryz
