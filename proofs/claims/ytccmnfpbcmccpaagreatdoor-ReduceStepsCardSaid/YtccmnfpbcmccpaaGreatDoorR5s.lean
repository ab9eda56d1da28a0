/- Contexts and ranks by the reference, walked; constructors found. -/
import Derived.Test.YtccmnfpbcmccpaaGreatDoorR4s
set_option linter.unusedSimpArgs false
set_option linter.unusedVariables false
set_option linter.deprecated false
set_option maxRecDepth 9999
set_option maxHeartbeats 2000000
namespace Go.Vs.Tryz
open Go Go.Vs
variable {A:Zab}
def rlast (l:List Str)(s:Str):Int:=if s∈l then (l.length:Int)-1-ZbZ l.reverse s else -1
theorem Zlh {l:List Str}{i:Nat}(h:i<l.length):l.reverse[i]?=l[l.length-1-i]?:=List.getElem?_reverse h
def LookP (b:Bool)(r:V×List Obj):Prop:=∃c t,r=(.tu [.ag (wc (Zbu c t)),Zae b],[])
theorem Zwa (l:List EntD)(s:Str)(h:l.length<=1073741824):∃r,LookP (decide (s∈names l)) r/\(K A).call 184 [Zc5 l,strV s] []=some r:=by
 refine fnE v184 ?_;unfold v184;have hp:=Zkt (names l).reverse s;rw[List.length_reverse,names_len]at hp;simp(disch:=first|exact zd|fail);refine Zak (fun i=>⟨[(0,Zc5 l),(1,strV s),(4,.sc (.ptr 64 0)),(6,intV ((l.length:Int)-1-i))],[(64,some (.box [zi,zi,zs,zi,zi,.nil]))]⟩) (ZbZ (names l).reverse s) ?_ ?_ ?_
 .simp
 .intro i hi
  obtain⟨x,hx,hne⟩:=ZhS hi;have hlt:i<l.length:=by omega
  rw[Zlh (by simpa using hlt),names_get,names_len]at hx;obtain⟨e,he,rfl⟩:=qo.1 hx;have hc:(l.length:Int)-1-i=((l.length-1-i:Nat):Int):=by omega
  have hc2:(l.length:Int)-1-(i+1)=((l.length-1-i:Nat):Int)-1:=by omega
  unfold ZrJ;simp(disch:=first|exact zd|fail) [hc,hc2,he,hne,-getElem?_pos]
 .unfold ZrJ
  by_cases hm:ZbZ (names l).reverse s<l.length
  .have hx:=ZfX (l:=(names l).reverse) (s:=s) (by simpa using hm)
   have hmem:s∈names l:=by
    have:=ZcT.1 (show ZbZ (names l).reverse s<(names l).reverse.length by simpa using hm);simpa using this
   rw[Zlh (by simpa using hm),names_get,names_len]at hx;obtain⟨e,he,hes⟩:=qo.1 hx;have hc:(l.length:Int)-1-(ZbZ (names l).reverse s:Nat)=((l.length-1-ZbZ (names l).reverse s:Nat):Int):=(by omega);simp(disch:=first|exact zd|fail) [hc,he,hes,hmem,-getElem?_pos];exact⟨_,_,rfl⟩
  .have hn:s∉names l:=fun h=>hm (by have:=ZcT.2 (List.mem_reverse.2 h);simpa using this)
   have hc:(l.length:Int)-1-(ZbZ (names l).reverse s:Nat)=-1:=(by omega);simp(disch:=first|exact zd|fail) [hc,hn,-getElem?_pos];refine⟨0,tz,?_⟩;simp[Zbu,tz,Ty.row]
theorem Zvc (l:List EntD)(h:l.length<=1073741824):(K A).call 135 [Zc5 l] []=some (Zc5 (Zcs l l.length),[]):=by
 refine fnO v135 ?_;unfold v135;simp(disch:=first|exact zd|fail);refine Zak (fun i=>⟨[(0,Zc5 l),(3,.sc (.arr 129 (Zcs l i).length)),(4,intV i)],[(129,some (.arr 7 (wr (ZbO (Zcs l i))) 0))]⟩) l.length ?_ ?_ ?_
 .simp[Zcs]
 .intro i hi
  obtain⟨e,he⟩:=Zaa hi;obtain⟨_,⟨c,t,rfl⟩,hc⟩:=Zwa (A:=A) (l.drop (i+1)) e.name (by simp;omega);have hsl:=Zd5 l i;have hi':i+1<=l.length:=hi;unfold ZsM;by_cases hn:e.name∈names (l.drop (i+1))
  .simp(disch:=first|exact zd|fail) [he,hi,hc,hn,Zcs,-getElem?_pos]
  .simp(disch:=first|exact zd|fail) [he,hi,hc,hn,Zcs,-getElem?_pos]
 .unfold ZsM
  simp(disch:=first|exact zd|fail)
def Zb4 (d:DataD):List Str:=d.cons.map (·.name)
@[simp] theorem cnames_len (d:DataD):(Zb4 d).length=d.cons.length:=by simp[Zb4]
@[simp] theorem cnames_get (d:DataD) (i:Nat):(Zb4 d)[i]?=(d.cons[i]?).map (·.name):=by simp[Zb4]
def Zgc (ds:List DataD)(c:Str):Nat:=ds.findIdx fun d=>decide (c∈Zb4 d)
theorem ZtQ {ds:List DataD}{c:Str}(h:Zgc ds c<ds.length):∃d,ds[Zgc ds c]?=some d/\c∈Zb4 d:=by
 refine⟨ds[Zgc ds c],qh h,?_⟩;have h1:=List.findIdx_getElem (w:=h);exact of_decide_eq_true h1
def Zy4 (ds:List DataD)(c:Str):Int×Int×Bool:=match ds[Zgc ds c]? with
 |some d=>(Zgc ds c,ZbZ (Zb4 d) c,true)
 |none=>(0,0,false)
abbrev findV (r:Int×Int×Bool):V:=.tu [intV r.1,intV r.2.1,Zae r.2.2]
end Go.Vs.Tryz
namespace Go.Vs
open Go
section
variable {C:Ctx}
end
end Go.Vs
namespace Go.Vs.Tryz
open Go Go.Vs
variable {A:Zab}
def Zfr (ds:List DataD)(i:Nat):Nat:=((ds.take i).map fun d=>d.cons.length).sum
theorem ZiA {ds:List DataD}{i:Nat}{d:DataD}(h:ds[i]?=some d):Zfr ds (i+1)=Zfr ds i+d.cons.length:=by
 unfold Zfr;rw[Zam h,qaf,qaz];simp
def Zmz (ds:List DataD)(seen bound:List Str)(e:Exp):Int:=
 if e.kind=1 then (if e.name∈bound then seen.length+rlast bound e.name else rlast seen e.name)
 else if e.kind=2 then match Zy4 ds e.name with
  |(i,k,true)=>seen.length+bound.length+k+Zfr ds i.toNat
  |_=>-1
 else -1
variable {A:Zab}
theorem Zpy {l:List Str}{s:Str}{i:Nat}(h:l[i]?=some s)(hj:∀j x,i<j->l[j]?=some x->¬x=s):rlast l s=i:=by
 have hi:=(qd.1 h).1;have hmem:s∈l:=qa h;unfold rlast;rw[if_pos hmem];have hp:=ZcT.2 (List.mem_reverse.2 hmem);have hx:=ZfX hp;rw[List.length_reverse]at hp;rw[Zlh hp]at hx;have h1:¬i<l.length-1-ZbZ l.reverse s:=fun hlt=>hj _ s hlt hx rfl;have h2:¬l.length-1-i<ZbZ l.reverse s:=by
  intro hlt;obtain⟨x,hx2,hne⟩:=ZhS hlt;rw[Zlh (by omega),show l.length-1-(l.length-1-i)=i by omega,h]at hx2;cases hx2;exact hne rfl
 omega
def seenN (ctx:List EntD):List Str:=names (Zcs ctx ctx.length)
variable {A:Zab}
end Go.Vs.Tryz
namespace Go.Vs
open Go
mutual
def Ty.size:Ty->Nat
 |.mk _ _ _ _ a=>1+Ty.sizes a
def Ty.sizes:List Ty->Nat
 |[]=>0
 |t::r=>t.size+Ty.sizes r
end
theorem Ty.sizes_map:∀l:List Ty,Ty.sizes l=(l.map Ty.size).sum
 |[]=>by simp[Ty.sizes]
 |t::r=>by simp[Ty.sizes,Ty.sizes_map r]
theorem Ty.size_eq (t:Ty):t.size=1+(t.args.map Ty.size).sum:=by
 cases t;simp[Ty.size,Ty.args,Ty.sizes_map]
theorem Ty.size_pos (t:Ty):1<=t.size:=by
 rw[Ty.size_eq];omega
theorem ZcA {l:List Nat}{n:Nat}(h:n∈l):n<=l.sum:=by
 induction l with
 |nil=>cases h
 |cons a r ih=>
  simp only[qS];rcases qz.1 h with rfl|h
  .omega
  .have:=ih h
   omega
theorem Ty.arg_lt {t x:Ty}(h:x∈t.args):x.size<t.size:=by
 have:=ZcA (qaI (f:=Ty.size) h);rw[t.size_eq];omega
theorem Ty.len_le (l:List Ty):l.length<=(l.map Ty.size).sum:=by
 induction l with
 |nil=>simp
 |cons a r ih=>
  have:=a.size_pos;simp only[qG,qq,qS];omega
theorem Ty.args_lt (t:Ty):t.args.length<t.size:=by
 have:=Ty.len_le t.args;rw[t.size_eq];omega
theorem Ty.size_leaf {k:Int}{n:Str}{i h:Int}:(Ty.mk k n i h []).size=1:=by simp[Ty.size,Ty.sizes]
structure AssD where
 id:Int
 ty:Ty
def ZbY (a:AssD):List Cell:=.int .i64 a.id::a.ty.row
def Zcw (l:List AssD):List (List Cell):=l.map ZbY
@[simp] theorem assRow_len (a:AssD):(ZbY a).length=6:=by simp[ZbY]
@[simp] theorem assRows_len (l:List AssD):(Zcw l).length=l.length:=by simp[Zcw]
@[simp] theorem assRows_get (l:List AssD) (i:Nat):(Zcw l)[i]?=(l[i]?).map ZbY:=by simp[Zcw]
@[simp] theorem okRows_ass (l:List AssD):Zbb 6 (wr (Zcw l))=true:=ZbE l assRow_len
@[simp] theorem assRows_snoc (l:List AssD) (x:AssD):wr (Zcw l)++[wc (ZbY x)]=wr (Zcw (l++[x])):=by simp[Zcw,wr]
@[simp] theorem assRows0:Zcw []=[]:=rfl
section
variable (a:AssD)
@[simp] theorem cut_as0:cut (ZbY a) 0 1=some [.int .i64 a.id]:=by rw[ZbY,Ty.row_eq];rfl
@[simp] theorem cut_as1:cut (ZbY a) 1 5=some a.ty.row:=by rw[ZbY,Ty.row_eq];rfl
@[simp] theorem cut_as:cut (ZbY a) 0 6=some (ZbY a):=by rw[ZbY,Ty.row_eq];rfl
@[simp] theorem cutw_as0:cut (wc (ZbY a)) 0 1=some [.c (.int .i64 a.id)]:=by rw[ZbY,Ty.row_eq];rfl
@[simp] theorem cutw_as1:cut (wc (ZbY a)) 1 5=some (wc a.ty.row):=by rw[ZbY,Ty.row_eq];rfl
@[simp] theorem cutw_as:cut (wc (ZbY a)) 0 6=some (wc (ZbY a)):=by rw[ZbY,Ty.row_eq];rfl
@[simp] theorem flat_ass:(wc (ZbY a)).all ZcM=false:=by rw[ZbY,Ty.row_eq];simp[wc,ZcM]
end
end Go.Vs
namespace Go.Vs.Tryz
open Go Go.Vs
variable {A:Zab}
abbrev ZeQ (l:List Int):V:=.sc (.c (.sl (Za0 l)))
abbrev tysV (l:List Ty):V:=.sc (.c (.sl (Ty.rows l)))
abbrev ZfA (l:List AssD):V:=.sc (.c (.sl (Zcw l)))
abbrev schV (c:Int)(t:Ty):V:=.ag (wc (Zbu c t))
theorem Ztd (h i:Int):(K A).call 118 [intV h,intV i] []=some (tyV (.mk 3 [] i h []),[]):=by
 refine fnO v118 ?_;unfold v118;simp(disch:=first|exact zd|fail) [Ty.row]
theorem ZtW (i:Int):(K A).call 212 [intV i] []=some (tyV (.mk 1 [] i 0 []),[]):=by
 refine fnO v212 ?_;unfold v212;simp(disch:=first|exact zd|fail) [Ty.row]
theorem Zk7 (i:Int):(K A).call 169 [intV i] []=some (tyV (.mk 2 [] i 0 []),[]):=by
 refine fnO v169 ?_;unfold v169;simp(disch:=first|exact zd|fail) [Ty.row]
def ZxR (r:V×List Obj):Prop:=∃b,r=(Zae b,[])
theorem Zpa (t:Ty):(K A).call 65 [tyV t] []=some (schV 0 t,[]):=by
 refine fnO v65 ?_;unfold v65;simp(disch:=first|exact zd|fail) [Zbu,Ty.row_eq]
theorem ZlD (l:List EntD)(s:Str)(c:Int)(t:Ty)(h:l.length<=1073741):(K A).call 64 [Zc5 l,strV s,schV c t] []=some (Zc5 (l++[⟨s,c,t⟩]),[]):=by
 refine fnO v64 ?_;unfold v64;cases l with
 |nil=>simp(disch:=first|exact zd|fail) [ZbG,Zbu,ZbO]
 |cons a r=>
  have hn:ZbO (a::r)=ZbG a::ZbO r:=rfl;have hok:=okRows_ent (a::r);rw[hn,wr_cons]at hok;simp only[qG]at h;have he:(W.c (.str s)::wc (Zbu c t))=wc (ZbG ⟨s,c,t⟩):=rfl;simp(disch:=first|exact zd|fail) [hn,hok,he];rfl
variable {A:Zab}
def cmpI (a b:Int):Int:=if a<b then -1 else if b<a then 1 else 0
def orI:List Int->Int
 |[]=>0
 |a::r=>if a=0 then orI r else a
def kindM (e:Exp):Int:=if e.kind=4 then 0 else if e.kind=8 then 2 else 1
end Go.Vs.Tryz
namespace Go.Vs
open Go
section
variable {call:FuncId->List V->List Obj->Option (V×List Obj)}{L:Nat->Option Obj}{oid:Nat}
@[simp] theorem call1_clo2 {f:FuncId} {w0 w1:W} {args:List (Bool×V)}:Zd1 call L oid (.sc (.clo f [true,true] [[w0],[w1]])) args=Zk6 call L oid f (ZaY L (args++[(true,.sc w0),(true,.sc w1)])):=by
 rw[ZhH];rfl
@[simp] theorem call1_clo3 {f:FuncId} {w0 w1 w2:W} {args:List (Bool×V)}:Zd1 call L oid (.sc (.clo f [true,true,true] [[w0],[w1],[w2]])) args=Zk6 call L oid f (ZaY L (args++[(true,.sc w0),(true,.sc w1),(true,.sc w2)])):=by
 rw[ZhH];rfl
end
end Go.Vs
namespace Go.Vs.Tryz
open Go Go.Vs
variable {A:Zab}
variable {A:Zab}
def Zco (l:List Exp):Nat->List Exp
 |0=>l
 |i+1=>match (Zco l i)[i]?,(Zco l i)[l.length-1-i]? with
  |some x,some y=>((Zco l i).set i y).set (l.length-1-i) x
  |_,_=>Zco l i
@[simp] theorem swapTo_len (l:List Exp):∀i,(Zco l i).length=l.length
 |0=>rfl
 |i+1=>by
  have:=swapTo_len l i;simp only[Zco];split
  .simp[this]
  .exact this
theorem setRow_set {α:Type}:∀(l:List α)(i:Nat)(a:α),setRow l i a=l.set i a
 |[],_,_=>rfl
 |_::_,0,_=>rfl
 |b::r,n+1,a=>by simp only[setRow,List.set_cons_succ,setRow_set r n a]
theorem Zce (l:List Exp)(i:Nat)(x:Exp):setRow (wr (Exp.rows l)) i (wc x.row)=wr (Exp.rows (l.set i x)):=by
 rw[setRow_set];simp[Exp.rows_map,wr,qa0]
theorem Zqw (l:List Exp)(h:l.length<=1073741824):∃r,r=(.tu [],[.arr 11 (wr (Exp.rows (Zco l (l.length / 2)))) 0])/\(K A).call 80 [.sc (.arr 0 l.length)] [.arr 11 (wr (Exp.rows l)) 0]=some r:=by
 refine ZaD (fun r=>r=(.tu [],[.arr 11 (wr (Exp.rows (Zco l (l.length / 2)))) 0])) (vf:=v80) (by kernel_rfl) rfl (by simp) ?_;unfold v80;simp(disch:=first|exact zd|fail);refine Zad (fun i s=>s=⟨[(0,.sc (.arr 0 l.length)),(2,intV i),(3,intV (l.length-1-i))],[(0,some (.arr 11 (wr (Exp.rows (Zco l i))) 0))]⟩) (l.length / 2) (by simp[Zco]) ?_ ?_
 .rintro i s hi rfl
  have hn:((l.length:Int)-1-i)=((l.length-1-i:Nat):Int):=by omega
  obtain⟨x,hx⟩:=Zaa (l:=Zco l i) (i:=i) (by simp;omega);obtain⟨y,hy⟩:=Zaa (l:=Zco l i) (i:=l.length-1-i) (by simp;omega);have hlt:(i:Int)<((l.length-1-i:Nat):Int):=by omega
  have r1:=Zce (Zco l i) i y;have r2:=Zce ((Zco l i).set i y) (l.length-1-i) x;rw[hn];unfold ZAF;simp(disch:=first|exact zd|fail) [hx,hy,hlt,Zco,r1,r2,-getElem?_pos];omega
 .rintro s rfl
  have hlt:¬(l.length:Int) / 2<(l.length:Int)-1-(l.length:Int) / 2:=by omega
  unfold ZAF;simp(disch:=first|exact zd|fail) [hlt,-getElem?_pos]
theorem Ze5 (l:List Exp):∀i,2*i<=l.length->∀j,j<l.length->(Zco l i)[j]?=if j<i\/l.length<=j+i then l[l.length-1-j]? else l[j]?
 |0,_,j,hj=>by
  have:¬(j<0\/l.length<=j+0):=by omega
  simp only[Zco,if_neg this]
 |i+1,hi,j,hj=>by
  have h1:=Ze5 l i (by omega) i (by omega);have h2:=Ze5 l i (by omega) (l.length-1-i) (by omega);have h3:=Ze5 l i (by omega) j hj;rw[if_neg (by omega)]at h1;rw[if_neg (by omega)]at h2;obtain⟨x,hx⟩:=Zaa (l:=l) (i:=i) (by omega);obtain⟨y,hy⟩:=Zaa (l:=l) (i:=l.length-1-i) (by omega);rw[hx]at h1;rw[hy]at h2;simp only[Zco,h1,h2];by_cases e2:j=l.length-1-i
  .subst e2
   rw[qa9 (by simp;omega),if_pos (by omega),show l.length-1-(l.length-1-i)=i by omega,hx]
  .rw [qaC (by omega)]
   by_cases e1:j=i
   .subst e1
    rw[qa9 (by simp;omega),if_pos (by omega),hy]
   .rw [qaC (by omega),h3]
    by_cases hc:j<i\/l.length<=j+i
    .rw[if_pos hc,if_pos (by omega)]
    .rw[if_neg hc,if_neg (by omega)]
theorem Zqc (l:List Exp):Zco l (l.length / 2)=l.reverse:=by
 apply qC;intro j;by_cases hj:j<l.length
 .rw [Ze5 l _ (by omega) j hj,List.getElem?_reverse hj]
  by_cases hc:j<l.length / 2\/l.length<=j+l.length / 2
  .rw[if_pos hc]
  .rw[if_neg hc,show l.length-1-j=j by omega]
 .rw[qY (by simp;omega),qY (by simp;omega)]
variable {A:Zab}
def ZmI (c:UInt8):Bool:=(97<=c.toNat&&c.toNat<=122)||(65<=c.toNat&&c.toNat<=90)||(48<=c.toNat&&c.toNat<=57)||c.toNat==95
def keyWords:List Str:=[[100,97,116,97],[108,101,116],[114,101,99],[105,110],[99,97,115,101],[111,102],[101,110,100]]
def nameOk (lo hi:Nat)(s:Str):Prop:=s.length<=12/\(∃c,s[0]?=some c/\lo<=c.toNat/\c.toNat<=hi)/\(∀c∈s,ZmI c=true)/\s∉keyWords
theorem Zks (lo hi:Nat)(s:Str)(h:nameOk lo hi s):(K A).call 141 [strV s,.sc (.c (.int .u8 lo)),.sc (.c (.int .u8 hi))] []=some (Zae true,[]):=by
 refine fnO v141 ?_;obtain⟨h1,⟨c,hc,h2,h3⟩,h4,h5⟩:=h;simp only[keyWords,qz,qU,or_false,not_or]at h5;obtain⟨k1,k2,k3,k4,k5,k6,k7⟩:=h5;have hl:0<s.length:=(qd.1 hc).1;have e1:¬(s.length:Int)<1:=by omega
 have e2:¬(12:Int)<s.length:=by omega
 have e3:¬(c.toNat:Int)<lo:=by omega
 have e4:¬(hi:Int)<c.toNat:=by omega
 unfold v141;simp(disch:=first|exact zd|fail) [e1,e2,e3,e4,hc,-getElem?_pos];refine Zad (fun i t=>t=⟨[(0,strV s),(31,intV s.length),(32,intV i)],[]⟩) s.length (by simp) ?_ ?_
 .rintro i t hi rfl
  obtain⟨d,hd⟩:=Zaa hi;have hdo:=h4 d (qa hd);simp only[ZmI,qay,qc,decide_eq_true_eq,beq_iff_eq]at hdo;unfold Zsu;by_cases a1:97<=d.toNat
  .by_cases a2:d.toNat<=122
   .have b1:(97:Int)<=d.toNat:=by omega
    have b2:(d.toNat:Int)<=122:=(by omega);simp(disch:=first|exact zd|fail) [hi,hd,b1,b2,-getElem?_pos]
   .omega
  .have b1:¬(97:Int)<=d.toNat:=by omega
   by_cases a3:65<=d.toNat
   .have b3:(65:Int)<=d.toNat:=by omega
    by_cases a4:d.toNat<=90
    .have b4:(d.toNat:Int)<=90:=by omega
     simp(disch:=first|exact zd|fail) [hi,hd,b1,b3,b4,-getElem?_pos]
    .have b4:¬(d.toNat:Int)<=90:=by omega
     have b5:(d.toNat:Int)=95:=(by omega);simp(disch:=first|exact zd|fail) [hi,hd,b5,-getElem?_pos]
   .have b3:¬(65:Int)<=d.toNat:=by omega
    have b4:¬(d.toNat:Int)<48:=(by omega);have b5:¬(57:Int)<d.toNat:=(by omega);simp(disch:=first|exact zd|fail) [hi,hd,b1,b3,b4,b5,-getElem?_pos]
 .rintro t rfl
  unfold Zsu;simp(disch:=first|exact zd|fail) [k1,k2,k3,k4,k5,k6,k7,-getElem?_pos]
theorem ZfW (s:Str)(h:nameOk 97 122 s):(K A).call 92 [strV s] []=some (Zae true,[]):=by
 have h1:(K A).call 141 [strV s,.sc (.c (.int .u8 97)),.sc (.c (.int .u8 122))] []=some (Zae true,[]):=Zks (A:=A) 97 122 s h;have hs:¬s=[]:=by
  rintro rfl;obtain⟨_,⟨c,hc,_⟩,_⟩:=h;cases hc
 have hv:(K A).call 93 [tyV (.mk 5 s 0 0 [])] []=some (Zae true,[]):=by
  refine fnO v93 ?_;unfold v93;simp(disch:=first|exact zd|fail) [h1,hs,Ty.kind,Ty.name,Ty.id,Ty.home,Ty.args,-getElem?_pos]
 refine fnO v92 ?_;simp[tyV,Ty.row,Ty.rows]at hv;unfold v92;simp(disch:=first|exact zd|fail) [hv,-getElem?_pos]
theorem Zot (s:Str)(h:nameOk 65 90 s):(K A).call 91 [strV s] []=some (Zae true,[]):=by
 have h1:(K A).call 141 [strV s,.sc (.c (.int .u8 65)),.sc (.c (.int .u8 90))] []=some (Zae true,[]):=Zks (A:=A) 65 90 s h;have hs:¬s=[]:=by
  rintro rfl;obtain⟨_,⟨c,hc,_⟩,_⟩:=h;cases hc
 have hne:¬s=[45,62]:=by
  rintro rfl;obtain⟨_,⟨c,hc,h2,h3⟩,_⟩:=h;cases hc;simp at h2
 have hv:(K A).call 93 [tyV (.mk 4 s 0 0 [])] []=some (Zae true,[]):=by
  have hcon:(K A).call 142 [strV s,intV 0] []=some (Zae true,[]):=by
   refine fnO v142 ?_;unfold v142;by_cases hi:s=[73,110,116]
   .simp(disch:=first|exact zd|fail) [hi,-getElem?_pos]
   .simp(disch:=first|exact zd|fail) [hne,hi,h1,-getElem?_pos]
  have hall:(K A).call 143 [.sc (.c (.sl [])),.sc (.c (.fn 144 [] []))] []=some (Zae false,[]):=Zfq (n:=10) (by kernel_rfl);refine fnO v93 ?_;unfold v93;simp(disch:=first|exact zd|fail) [hcon,hall,hs,Ty.kind,Ty.name,Ty.id,Ty.home,Ty.args,-getElem?_pos]
 refine fnO v91 ?_;simp[tyV,Ty.row,Ty.rows]at hv;unfold v91;simp(disch:=first|exact zd|fail) [hv,-getElem?_pos]
end Go.Vs.Tryz
namespace Go.Vs
open Go
theorem Ty.ind {P:Ty->Prop}(h:∀t:Ty,(∀x∈t.args,P x)->P t)(t:Ty):P t:=by
 have:∀(n:Nat) (t:Ty),t.size<=n->P t:=by
  intro n
  induction n with
  |zero=>
   intro t ht;have:=t.size_pos;omega
  |succ n ih=>
   intro t ht;exact h t fun x hx=>ih x (by have:=Ty.arg_lt hx;omega)
 exact this t.size t (qe _)
mutual
def Ty.all (p:Ty->Prop):Ty->Prop
 |.mk k n i h a=>p (.mk k n i h a)/\Ty.alls p a
def Ty.alls (p:Ty->Prop):List Ty->Prop
 |[]=>True
 |t::r=>Ty.all p t/\Ty.alls p r
end
theorem Ty.alls_iff {p:Ty->Prop}:∀{l:List Ty},Ty.alls p l↔∀x∈l,Ty.all p x
 |[]=>by simp[Ty.alls]
 |t::r=>by simp[Ty.alls,Ty.alls_iff (l:=r)]
theorem Ty.all_iff {p:Ty->Prop}{t:Ty}:Ty.all p t↔p t/\∀x∈t.args,Ty.all p x:=by
 cases t;simp[Ty.all,Ty.args,Ty.alls_iff]
theorem Ty.all.one {p:Ty->Prop}{t:Ty}(h:Ty.all p t):p t:=(Ty.all_iff.1 h).1
theorem Ty.all.arg {p:Ty->Prop}{t x:Ty}(h:Ty.all p t)(hx:x∈t.args):Ty.all p x:=(Ty.all_iff.1 h).2 x hx
theorem Ty.all.mono {p q:Ty->Prop}(hpq:∀t,p t->q t)(t:Ty):Ty.all p t->Ty.all q t:=by
 induction t using Ty.ind<;>grind[Ty.all_iff]
mutual
def Ty.map (f:Ty->Option Ty):Ty->Ty
 |.mk k n i h a=>match f (.mk k n i h a)with
  |some u=>u
  |none=>.mk k n i h (Ty.maps f a)
def Ty.maps (f:Ty->Option Ty):List Ty->List Ty
 |[]=>[]
 |t::r=>Ty.map f t::Ty.maps f r
end
theorem Ty.maps_map {f:Ty->Option Ty}:∀(l:List Ty),Ty.maps f l=l.map (Ty.map f)
 |[]=>by rfl
 |t::r=>by simp[Ty.maps,Ty.maps_map r]
theorem Ty.map_some {f:Ty->Option Ty}{t u:Ty}(h:f t=some u):Ty.map f t=u:=by
 cases t;simp only[Ty.map,h]
theorem Ty.map_none {f:Ty->Option Ty}{t:Ty}(h:f t=none):Ty.map f t=.mk t.kind t.name t.id t.home (t.args.map (Ty.map f)):=by
 cases t;grind[Ty.map,Ty.maps_map,Ty.kind,Ty.name,Ty.id,Ty.home,Ty.args]
theorem Ty.map_all {f:Ty->Option Ty}{p q:Ty->Prop}(h1:∀t u,Ty.all p t->f t=some u->Ty.all q u)
 (h2:∀(t:Ty) (a:List Ty),p t->f t=none->a.length=t.args.length->q (.mk t.kind t.name t.id t.home a)) (t:Ty):Ty.all p t->Ty.all q (Ty.map f t):=by
 induction t using Ty.ind with
 |h t ih=>
  intro h;cases hf:f t<;>grind[Ty.map_some,Ty.map_none,Ty.all_iff,Ty.args]
theorem Zkb {m:Nat}:∀{l:List Ty}{g:Ty->Ty},(∀x∈l,(g x).size<=x.size*m)->((l.map g).map Ty.size).sum<=(l.map Ty.size).sum*m
 |[],_,_=>by simp
 |a::r,g,h=>by
  have h1:=h a (by simp);have h2:=Zkb (l:=r) (g:=g) fun x hx=>h x (by grind);simp only[qq,qS,qaZ];omega
theorem Ty.map_size {f:Ty->Option Ty}{m:Nat}(hm:1<=m)(h1:∀t u,f t=some u->u.size<=t.size*m)(t:Ty):(Ty.map f t).size<=t.size*m:=by
 induction t using Ty.ind with
 |h t ih=>
  cases hf:f t with
  |some u=>grind[Ty.map_some]
  |none=>
   rw[Ty.map_none hf,Ty.size_eq,t.size_eq];have:=Zkb (l:=t.args) (g:=Ty.map f) ih;show 1+((t.args.map (Ty.map f)).map Ty.size).sum<=(1+(t.args.map Ty.size).sum)*m;grind
def ZfI (s:Str)(n:Nat):Prop:=(s=[45,62]/\n=2)\/(s=[73,110,116]/\n=0)\/(s≠[45,62]/\s≠[73,110,116]/\Tryz.nameOk 65 90 s/\n<=4)
def vldN (c:Nat)(t:Ty):Prop:=(t.kind=2->t.id<c/\t.args=[])/\(t.kind=4->t.id=0/\t.home=0/\ZfI t.name t.args.length)/\(t.kind=5->t.id=0/\t.home=0/\t.args=[]/\Tryz.nameOk 97 122 t.name)/\1<=t.kind/\t.kind<=5
def tyN (n c:Nat)(t:Ty):Prop:=(t.kind=1->0<=t.id/\t.id<n/\t.args=[])/\(t.kind=2->0<=t.id)/\(t.kind=3->t.args=[])/\vldN c t
def tyB (n c:Nat)(t:Ty):Prop:=Ty.all (tyN n c) t
def tyS (n:Nat)(t:Ty):Prop:=tyB n 0 t
theorem Zrw {n c:Nat}{t:Ty}:tyB n c t↔tyN n c t/\∀x∈t.args,tyB n c x:=Ty.all_iff
theorem tyB.one {n c:Nat}{t:Ty}(h:tyB n c t):tyN n c t:=Ty.all.one h
theorem tyB.arg {n c:Nat}{t x:Ty}(h:tyB n c t)(hx:x∈t.args):tyB n c x:=Ty.all.arg h hx
theorem tyB.mono {n m c d:Nat}{t:Ty}(h:tyB n c t)(hnm:n<=m)(hcd:c<=d):tyB m d t:=
 Ty.all.mono (fun t ⟨h1,h2,h3,h4,h5⟩=>⟨fun hk=>⟨(h1 hk).1,by omega,(h1 hk).2.2⟩,h2,h3,fun hk=>⟨by omega,(h4 hk).2⟩,h5⟩) t h
theorem Zii {n:Nat}{t:Ty}:tyS n t↔tyN n 0 t/\∀x∈t.args,tyS n x:=Ty.all_iff
theorem tyS.one {n:Nat}{t:Ty}(h:tyS n t):tyN n 0 t:=Ty.all.one h
theorem tyS.arg {n:Nat}{t x:Ty}(h:tyS n t)(hx:x∈t.args):tyS n x:=Ty.all.arg h hx
theorem tyS.mono {n m:Nat}{t:Ty}(h:tyS n t)(hnm:n<=m):tyS m t:=tyB.mono h hnm (qe 0)
theorem tyS.up {n c:Nat}{t:Ty}(h:tyS n t):tyB n c t:=tyB.mono h (qe n) (qad c)
theorem tyN.len {n c:Nat}{t:Ty}{a:List Ty}(h:tyN n c t)(ha:a.length=t.args.length):tyN n c (.mk t.kind t.name t.id t.home a):=by
 have he:t.args=[]->a=[]:=fun h=>qL.1 (by grind);obtain⟨h1,h2,h3,h4,h5,h6,h7⟩:=h;refine⟨fun hk=>⟨(h1 hk).1,(h1 hk).2.1,he (h1 hk).2.2⟩,h2,fun hk=>he (h3 hk),fun hk=>⟨(h4 hk).1,he (h4 hk).2⟩,fun hk=>⟨(h5 hk).1,(h5 hk).2.1,?_⟩,fun hk=>⟨(h6 hk).1,(h6 hk).2.1,he (h6 hk).2.2.1,(h6 hk).2.2.2⟩,h7⟩;show ZfI t.name a.length;rw[ha];exact(h5 hk).2.2
theorem tyN.noBound {n c d:Nat}{t:Ty}(h:tyN n c t)(hk:t.kind≠2):tyN n d t:=by
 obtain⟨h1,h2,h3,h4,h5⟩:=h;exact⟨h1,h2,h3,fun h=>absurd h hk,h5⟩
theorem tyN.noVar {n m c:Nat}{t:Ty}(h:tyN n c t)(hk:t.kind≠1):tyN m c t:=by
 obtain⟨h1,h2⟩:=h;exact⟨fun h=>absurd h hk,h2⟩
theorem Zdm:ZfI [45,62] 2:=.inl ⟨rfl,rfl⟩
theorem ZnX {n c:Nat}{s:Str}{l:List Ty}(hs:ZfI s l.length)(h:∀x∈l,tyB n c x):tyB n c (.mk 4 s 0 0 l):=
 Zrw.2 ⟨⟨fun hk=>absurd (show(4:Int)=1 from hk) (by decide),fun hk=>absurd (show(4:Int)=2 from hk) (by decide),fun hk=>absurd (show(4:Int)=3 from hk) (by decide),
  fun hk=>absurd (show(4:Int)=2 from hk) (by decide),fun _=>⟨rfl,rfl,hs⟩,fun hk=>absurd (show(4:Int)=5 from hk) (by decide),by show(1:Int)<=4;decide,by show(4:Int)<=5;decide⟩,fun x hx=>h x hx⟩
theorem ZkC {n:Nat}{s:Str}{l:List Ty}(hs:ZfI s l.length)(h:∀x∈l,tyS n x):tyS n (.mk 4 s 0 0 l):=ZnX hs h
theorem Zuu {n:Nat}:tyS n (.mk 4 [73,110,116] 0 0 []):=ZkC (.inr (.inl ⟨rfl,rfl⟩)) fun x hx=>by cases hx
theorem ZiO {n i:Nat}(h:i<n):tyS n (.mk 1 [] i 0 []):=
 Zii.2 ⟨⟨fun _=>⟨by show(0:Int)<=i;omega,by show(i:Int)<n;omega,rfl⟩,fun hk=>absurd (show(1:Int)=2 from hk) (by decide),fun hk=>absurd (show(1:Int)=3 from hk) (by decide),
  fun hk=>absurd (show(1:Int)=2 from hk) (by decide),fun hk=>absurd (show(1:Int)=4 from hk) (by decide),fun hk=>absurd (show(1:Int)=5 from hk) (by decide),by show(1:Int)<=1;decide,by show(1:Int)<=5;decide⟩,fun x hx=>by cases hx⟩
theorem Ziu {n c i:Nat}(h:i<c):tyB n c (.mk 2 [] i 0 []):=
 Zrw.2 ⟨⟨fun hk=>absurd (show(2:Int)=1 from hk) (by decide),fun _=>by show(0:Int)<=i;omega,fun hk=>absurd (show(2:Int)=3 from hk) (by decide),
  fun _=>⟨by show(i:Int)<c;omega,rfl⟩,fun hk=>absurd (show(2:Int)=4 from hk) (by decide),fun hk=>absurd (show(2:Int)=5 from hk) (by decide),by show(1:Int)<=2;decide,by show(2:Int)<=5;decide⟩,fun x hx=>by cases hx⟩
theorem ZlT {n:Nat}{i h:Int}:tyS n (.mk 3 [] i h []):=
 Zii.2 ⟨⟨fun hk=>absurd (show(3:Int)=1 from hk) (by decide),fun hk=>absurd (show(3:Int)=2 from hk) (by decide),fun _=>rfl,
  fun hk=>absurd (show(3:Int)=2 from hk) (by decide),fun hk=>absurd (show(3:Int)=4 from hk) (by decide),fun hk=>absurd (show(3:Int)=5 from hk) (by decide),by show(1:Int)<=3;decide,by show(3:Int)<=5;decide⟩,fun x hx=>by cases hx⟩
def ZqR (args:List Ty)(t:Ty):Option Ty:=if t.kind=2/\0<=t.id/\t.id<args.length then args[t.id.toNat]? else none
def Zfo (args:List Ty):Ty->Ty:=Ty.map (ZqR args)
def ZlA (s:List AssD)(t:Ty):Ty:=match s.find? (fun a=>decide (a.id=t.id))with
 |some a=>a.ty
 |none=>t
def Zgl (s:List AssD)(t:Ty):Option Ty:=if t.kind=1 then some (ZlA s t) else none
def ZcI (s:List AssD):Ty->Ty:=Ty.map (Zgl s)
def idxS (l:List Str)(s:Str):Int:=match l.findIdx? (fun x=>decide (x=s))with
 |some i=>i
 |none=>-1
def Zrl (l:List Str)(t:Ty):Option Ty:=if t.kind=5 then some (if idxS l t.name>=0 then .mk 2 [] (idxS l t.name) 0 [] else t) else none
def ZdZ (l:List Str):Ty->Ty:=Ty.map (Zrl l)
def Zil (t:Ty):Option Ty:=if t.kind=3/\t.home=99 then some (.mk 1 [] (900+t.id) 0 []) else none
def ZeA:Ty->Ty:=Ty.map Zil
theorem Zs5 {n:Nat}{args:List Ty}(h:∀x∈args,tyS n x){t:Ty}(ht:tyB n args.length t):tyS n (Zfo args t):=by
 refine Ty.map_all (p:=tyN n args.length) (q:=tyN n 0) ?_ ?_ t ht
 .intro t u _ hf
  unfold ZqR at hf;split at hf
  .exact h u (qa hf)
  grind
 .intro t a hp hf ha
  refine(hp.noBound fun hk=>?_).len ha;have h0:=hp.2.1 hk;have h1:=(hp.2.2.2.1 hk).1;grind[ZqR]
theorem Zj4 {m:Nat}(hm:1<=m){args:List Ty}(h:∀x∈args,x.size<=m)(t:Ty):(Zfo args t).size<=t.size*m:=by
 refine Ty.map_size hm ?_ t;intro t u hf;unfold ZqR at hf;split at hf
 .have h1:=h u (qa hf)
  have h2:=t.size_pos;have:=qA m h2;omega
 grind
theorem ZAx (l:List Str)(s:Str):idxS l s<l.length:=by
 grind[idxS,qaD]
theorem ZvC {n:Nat}{l:List Str}{t:Ty}(ht:tyS n t):tyB n l.length (ZdZ l t):=by
 refine Ty.map_all (p:=tyN n 0) (q:=tyN n l.length) ?_ ?_ t ht
 .intro t u hp hf
  unfold Zrl at hf;split at hf
  .cases hf
   split
   .rename_i hi
    obtain⟨i,hi2⟩:∃i:Nat,idxS l t.name=i:=⟨(idxS l t.name).toNat,by omega⟩;have:=ZAx l t.name;rw[hi2]at this |-;exact Ziu (by omega)
   .exact tyB.mono hp (qe n) (qad _)
  grind
 .intro t a hp _ ha
  exact(hp.noBound fun hk=>by have h0:=hp.2.1 hk;have h1:=(hp.2.2.2.1 hk).1;omega).len ha
theorem ZjW (l:List Str)(t:Ty):(ZdZ l t).size<=t.size:=by
 have h:=Ty.map_size (f:=Zrl l) (m:=1) (qe _) ?_ t
 .unfold ZdZ
  omega
 .intro t u hf
  unfold Zrl at hf;split at hf
  .cases hf
   split
   .have:=t.size_pos
    grind[Ty.size_leaf]
   simp
  grind
def Zf0 (l:List Int)(t:Ty):Prop:=Ty.all (fun u=>u.kind=1->u.id∈l) t
theorem Zxg {n:Nat}{l:List Int}(t:Ty):tyS n t->Zf0 l t->Ty.all (fun u=>tyN n 0 u/\(u.kind=1->u.id∈l)) t:=by
 induction t using Ty.ind with
 |h t ih=>
  intro h1 h2;exact Ty.all_iff.2 ⟨⟨h1.one,Ty.all.one h2⟩,fun x hx=>ih x hx (h1.arg hx) (Ty.all.arg h2 hx)⟩
theorem ZmW {n m c:Nat}{l:List Int}{s:List AssD}(hs:∀i∈l,∃a∈s,a.id=i)(hm:∀a∈s,tyB m c a.ty){t:Ty}(ht:tyS n t)(hv:Zf0 l t):tyB m c (ZcI s t):=by
 refine Ty.map_all (p:=fun u=>tyN n 0 u/\(u.kind=1->u.id∈l)) (q:=tyN m c) ?_ ?_ t (Zxg t ht hv)
 .intro t u hp hf
  unfold Zgl at hf;split at hf
  .rename_i hk
   cases hf;obtain⟨a,ha,hai⟩:=hs _ (hp.one.2 hk);unfold ZlA;split
   .rename_i b hb
    exact hm b (qaw hb)
   grind
  grind
 .intro t a ⟨hp,_⟩ hf ha
  have hk:t.kind≠1:=by
   grind[Zgl]
  exact((hp.noVar hk).noBound fun hk=>by have h0:=hp.2.1 hk;have h1:=(hp.2.2.2.1 hk).1;omega).len ha
theorem Zgx {m:Nat}(hm:1<=m){s:List AssD}(h:∀a∈s,a.ty.size<=m)(t:Ty):(ZcI s t).size<=t.size*m:=by
 refine Ty.map_size hm ?_ t;intro t u hf;have h2:=t.size_pos;unfold Zgl at hf;split at hf
 .cases hf
  unfold ZlA;split
  .rename_i b hb
   have h1:=h b (qaw hb);have:=qA m h2;omega
  .have:=Nat.mul_le_mul_left t.size hm
   omega
 grind
theorem ZpU {s:List AssD}{c:Nat}(t:Ty):tyB 0 c t->ZcI s t=t:=by
 induction t using Ty.ind with
 |h t ih=>
  intro h;have hk:t.kind≠1:=fun hk=>by
   have:=(h.one.1 hk);omega
  have hf:Zgl s t=none:=by grind[Zgl]
  unfold ZcI;have e:t.args.map (Ty.map (Zgl s))=t.args:=(qJ (g:=id) fun x hx=>ih x hx (h.arg hx)).trans (List.map_id _);rw[Ty.map_none hf,e];cases t;rfl
theorem Zp8 (t:Ty):(ZeA t).size<=t.size:=by
 have h:=Ty.map_size (f:=Zil) (m:=1) (qe _) ?_ t
 .unfold ZeA
  omega
 .intro t u hf
  have:=t.size_pos;grind[Zil,Ty.size_leaf]
def ZzA (l:List Int)(t:Ty):Prop:=Ty.all (fun u=>u.kind=3/\u.home=99->0<=u.id/\900+u.id∈l) t
theorem ZzU {l:List Int}{n:Nat}(hl:∀i∈l,i<n)(t:Ty):tyS 0 t->ZzA l t->tyS n (ZeA t)/\Zf0 l (ZeA t):=by
 induction t using Ty.ind with
 |h t ih=>
  intro h1 h2;by_cases hk:t.kind=3/\t.home=99
  .have hf:Zil t=some (.mk 1 [] (900+t.id) 0 []):=by grind [Zil]
   obtain⟨h3,h4⟩:=Ty.all.one h2 hk;have h5:=hl _ h4;unfold ZeA;rw[Ty.map_some hf];obtain⟨i,hi⟩:∃i:Nat,900+t.id=i:=⟨(900+t.id).toNat,by omega⟩;rw[hi]at h4 h5 |-;exact⟨ZiO (by omega),Ty.all_iff.2 ⟨fun _=>h4,fun x hx=>by cases hx⟩⟩
  .have hf:Zil t=none:=by grind [Zil]
   have hk1:t.kind≠1:=fun hk=>by
    have:=(h1.one.1 hk);omega
   unfold ZeA;rw[Ty.map_none hf];refine⟨Zii.2 ⟨(h1.one.noVar hk1).len (by simp),?_⟩,Ty.all_iff.2 ⟨fun h=>absurd h hk1,?_⟩⟩
   .intro x hx
    obtain⟨y,hy,rfl⟩:=qH.1 (show x∈t.args.map (Ty.map Zil)from hx);exact(ih y hy (h1.arg hy) (Ty.all.arg h2 hy)).1
   .intro x hx
    obtain⟨y,hy,rfl⟩:=qH.1 (show x∈t.args.map (Ty.map Zil)from hx);exact(ih y hy (h1.arg hy) (Ty.all.arg h2 hy)).2
def leafIn (k:Int)(l:List Ty)(t:Ty):Prop:=Ty.all (fun u=>u.kind=k->u.args=[]->u∈l) t
theorem leafIn.mono {k:Int}{l m:List Ty}(h:∀x∈l,x∈m){t:Ty}(ht:leafIn k l t):leafIn k m t:=Ty.all.mono (fun _ h1 h2 h3=>h _ (h1 h2 h3)) t ht
end Go.Vs
namespace Go.Vs.Tryz
open Go Go.Vs
variable {A:Zab}
theorem Zvf (l m:List Ty)(hl:l.length<=1073741824)(ih:∀x∈l,∀b,∃r,ZxR r/\(K A).call 52 [tyV x,tyV b] []=some r):∃r,ZxR r/\(K A).call 107 [tysV l,tysV m] []=some r:=by
 refine fnE v107 ?_;unfold v107;by_cases hn:l.length=m.length
 .simp (disch:=first|exact zd|fail) [hn]
  refine Zad (fun i s=>s=⟨[(0,tysV l),(1,tysV m),(5,intV i)],[]⟩) l.length (by simp) ?_ ?_
  .rintro i s hi rfl
   obtain⟨x,hx⟩:=Zaa hi;obtain⟨y,hy⟩:=Zaa (l:=m) (i:=i) (by omega);obtain⟨_,⟨b,rfl⟩,hc⟩:=ih x (qa hx) y;unfold Zlx;cases b with
   |true=>simp(disch:=first|exact zd|fail) [hi,hx,hy,hc,-getElem?_pos]
   |false=>
    simp(disch:=first|exact zd|fail) [hi,hx,hy,hc,-getElem?_pos];exact⟨false,rfl⟩
  .rintro s rfl
   unfold Zlx;simp(disch:=first|exact zd|fail);exact⟨true,rfl⟩
 .have hn':¬(l.length:Int)=m.length:=by omega
  simp(disch:=first|exact zd|fail) [hn,hn'];exact⟨false,rfl⟩
theorem Zt6:∀(n:Nat)(a b:Ty),a.size<=n->n<=1073741824->∃r,ZxR r/\(K A).call 52 [tyV a,tyV b] []=some r:=by
 intro n
 induction n with
 |zero=>
  intro a b ha;have:=a.size_pos;omega
 |succ n ih=>
  intro a b ha hn;have hal:=a.args_lt;obtain⟨_,⟨v,rfl⟩,hc⟩:=Zvf (A:=A) a.args b.args (by omega) (fun x hx b=>ih x b (by have:=Ty.arg_lt hx;omega) (by omega));refine fnE v52 ?_;unfold v52;by_cases h1:a.kind=b.kind
  .by_cases h2:a.name=b.name
   .by_cases h3:a.id=b.id
    .by_cases h4:a.home=b.home
     .simp (disch:=first|exact zd|fail) [h1,h2,h3,h4,hc]
      exact⟨v,rfl⟩
     .simp (disch:=first|exact zd|fail) [h1,h2,h3,h4,hc]
      exact⟨false,rfl⟩
    .simp (disch:=first|exact zd|fail) [h1,h2,h3,hc]
     exact⟨false,rfl⟩
   .simp (disch:=first|exact zd|fail) [h1,h2,hc]
    exact⟨false,rfl⟩
  .simp (disch:=first|exact zd|fail) [h1,hc]
   exact⟨false,rfl⟩
def LeafP (n m:Nat)(r:V×List Obj):Prop:=∃out:List Ty,n<=out.length/\out.length<=m/\(∀x∈out,x.size<=1073741824)/\r=(.sc (.arr 0 out.length),[.arr 5 (wr (Ty.rows out)) 0])
def VarsP (m:Nat)(r:V×List Obj):Prop:=∃ids:List Int,ids.length<=m/\r=(ZeQ ids,[])
variable {A:Zab}
def TyP (r:V×List Obj):Prop:=∃t:Ty,r=(tyV t,[])
def CloseP (r:V×List Obj):Prop:=∃(c:Int)(t:Ty),r=(schV c t,[])
theorem Zfd {m:Nat}:∀{l:List Ty},(∀x∈l,x.size<=m)->(l.map Ty.size).sum<=l.length*m
 |[],_=>by simp
 |a::r,h=>by
  have h1:=h a (by simp);have h2:=Zfd (l:=r) fun x hx=>h x (by simp[hx]);simp only[qq,qS,qG,Nat.succ_mul];omega
def TypeS (L:List Int)(m:Nat)(r:V×List Obj):Prop:=∃t J,t.size<=m/\J<=L.length/\r=(tyV t,[ZaK L J])
def TypeJ (L:List Int)(ds:List DataD)(ls:List Ty)(dd:DataD)(d i:Nat)(s:St):Prop:=∃tys J,tys.length=i/\(∀x∈tys,x.size<=5 ^ d)/\J<=L.length/\
 s=⟨[(0,.sc (.ptr 0 0)),(1,Zar ds),(2,tysV ls),(3,intV (d+1)),(8,.sc (.ptr 64 0)),(10,.sc (.ptr 3392 0)),(11,.sc (.arr 3521 i)),(12,intV i)],
  [(0,some (ZaK L J)),(64,some (.box [zi,zs,zi,zi,.nil])),(3392,some (.box (wc (ZaF dd)))),(3521,some (.arr 5 (wr (Ty.rows tys)) 0))]⟩
variable {A:Zab}
theorem ZdU (t:Ty):(∃a b,t.args=[a,b]/\(K A).call 84 [tyV t] []=some (.tu [tyV a,tyV b,Zae true],[]))\/(K A).call 84 [tyV t] []=some (.tu [tyV (.mk 0 [] 0 0 []),tyV (.mk 0 [] 0 0 []),Zae false],[]):=by
 by_cases h:t.kind=4/\t.name=[45,62]/\t.args.length=2
 .obtain ⟨h1,h2,h3⟩:=h
  left;obtain⟨a,b,hab⟩:∃a b,t.args=[a,b]:=by
   match hl:t.args,h3 with
   |[a,b],_=>exact⟨a,b,rfl⟩
  refine⟨a,b,hab,?_⟩;have hr:Ty.rows [a,b]=[a.row,b.row]:=by simp[Ty.rows]
  refine fnO v84 ?_;unfold v84;simp(disch:=first|exact zd|fail) [h1,h2,hab,hr]
 .right
  refine fnO v84 ?_;unfold v84;by_cases h1:t.kind=4
  .by_cases h2:t.name=[45,62]
   .have h3:¬t.args.length=2:=fun h3=>h ⟨h1,h2,h3⟩
    have h3':¬(t.args.length:Int)=2:=(by omega);simp(disch:=first|exact zd|fail) [h1,h2,h3,h3',Ty.row]
   .simp(disch:=first|exact zd|fail) [h1,h2,Ty.row]
  .simp(disch:=first|exact zd|fail) [h1,Ty.row]
def HasK (k:Int)(t:Ty)(r:V×List Obj):Prop:=∃b:Bool,(b=false->Ty.all (fun u=>u.kind≠k) t)/\r=(Zae b,[])
theorem Zj2 (k:Int)(t:Ty):t.size<=1073741824->∃r,HasK k t r/\(K A).call 88 [tyV t,intV k] []=some r:=by
 induction t using Ty.ind with
 |h t ih=>
 intro ht;have hal:=t.args_lt;refine fnE v88 ?_;unfold v88;by_cases h1:t.kind=k
 .simp (disch:=first|exact zd|fail) [h1]
  exact⟨true,fun h=>(by cases h),rfl⟩
 .simp (disch:=first|exact zd|fail) [h1]
  refine Zad (fun i s=>(∀(j:Nat) y,j<i->t.args[j]?=some y->Ty.all (fun u=>u.kind≠k) y)/\s=⟨[(1,intV k),(2,.sc (.ptr 64 0)),(5,intV i)],[(64,some (.box (wc t.row)))]⟩) t.args.length ⟨by omega,by simp⟩ ?_ ?_
  .rintro i s hi ⟨hno,rfl⟩
   obtain⟨x,hx⟩:=Zaa hi;have hxs:=Ty.arg_lt (qa hx);obtain⟨_,⟨b,hb,rfl⟩,hc⟩:=ih x (qa hx) (by omega);unfold ZAa;cases b with
   |true=>
    simp(disch:=first|exact zd|fail) [hi,hx,hc,-getElem?_pos];exact⟨true,fun h=>(by cases h),rfl⟩
   |false=>
    simp(disch:=first|exact zd|fail) [hi,hx,hc,-getElem?_pos];intro j y hj hy;by_cases hji:j<i
    .exact hno j y hji hy
    .obtain rfl:j=i:=by omega
     rw[hx]at hy;cases hy;exact hb rfl
  .rintro s ⟨hno,rfl⟩
   unfold ZAa;simp(disch:=first|exact zd|fail) [-getElem?_pos];refine⟨false,fun _=>Ty.all_iff.2 ⟨h1,fun y hy=>?_⟩,rfl⟩;obtain⟨j,hj,he⟩:=qM hy;exact hno j y hj (by rw[qh hj,he])
theorem ZAA {l:List Str}{s:Str}{i:Nat}(h:l[i]?=some s)(hn:∀j,j<i->l[j]?≠some s):idxS l s=i:=by
 unfold idxS;have:l.findIdx? (fun x=>decide (x=s))=some i:=by
  rw[qaD];obtain⟨hi,he⟩:=qd.1 h;refine⟨hi,by simpa using he,fun j hj=>?_⟩;have:=hn j hj;rw[qh (by omega)]at this;simpa using this
 rw[this]
theorem ZvM {l:List Str}{s:Str}(hn:∀j:Nat,j<l.length->l[j]?≠some s):idxS l s=-1:=by
 unfold idxS;have:l.findIdx? (fun x=>decide (x=s))=none:=by
  rw[List.findIdx?_eq_none_iff];intro x hx;obtain⟨j,hj,rfl⟩:=qM hx;have:=hn j hj;rw[qh hj]at this;simpa using this
 rw[this]
theorem ZxQ (l:List Str)(s:Str)(h:l.length<=1073741824):(K A).call 168 [Za3 l,strV s] []=some (intV (idxS l s),[]):=by
 refine fnO v168 ?_;unfold v168;simp(disch:=first|exact zd|fail);refine Zad (fun i t=>(∀j,j<i->l[j]?≠some s)/\t=⟨[(0,Za3 l),(1,strV s),(5,intV i)],[]⟩) l.length ⟨by simp,by simp⟩ ?_ ?_
 .rintro i t hi ⟨hn,rfl⟩
  obtain⟨x,hx⟩:=Zaa hi;unfold ZuW;by_cases hxs:x=s
  .subst hxs
   have:=ZAA hx hn;simp(disch:=first|exact zd|fail) [hi,hx,this,-getElem?_pos]
  .simp (disch:=first|exact zd|fail) [hi,hx,hxs,-getElem?_pos]
   intro j hj;by_cases hji:j<i
   .exact hn j hji
   .obtain rfl:j=i:=by omega
    rw[hx];simpa using hxs
 .rintro t ⟨hn,rfl⟩
  have:=ZvM hn;unfold ZuW;simp(disch:=first|exact zd|fail) [this,-getElem?_pos]
theorem Zgq (t:Ty)(l:List Ty):(Ty.mk t.kind t.name t.id t.home l).row=[.int .i64 t.kind,.str t.name,.int .i64 t.id,.int .i64 t.home,.sl (Ty.rows l)]:=by rw[Ty.row]
theorem Zun (l:List Str)(hl:l.length<=1073741824)(t:Ty):t.size<=1073741824->(K A).call 117 [tyV t,Za3 l] []=some (tyV (ZdZ l t),[]):=by
 induction t using Ty.ind with
 |h t ih=>
 intro ht;have hal:=t.args_lt;refine fnO v117 ?_;unfold v117;by_cases h1:t.kind=5
 .have hx:=ZxQ (A:=A) l t.name hl
  have hb:=Zk7 (A:=A) (idxS l t.name);have hm:ZdZ l t=if idxS l t.name>=0 then .mk 2 [] (idxS l t.name) 0 [] else t:=Ty.map_some (by unfold Zrl;rw[if_pos h1])
  by_cases h2:idxS l t.name>=0
  .rw [if_pos h2] at hm
   simp(disch:=first|exact zd|fail) [h1,hx,h2,hb,hm]
  .rw [if_neg h2] at hm
   simp(disch:=first|exact zd|fail) [h1,hx,h2,hm]
 .have hm:ZdZ l t=.mk t.kind t.name t.id t.home (t.args.map (ZdZ l)):=Ty.map_none (by unfold Zrl;rw [if_neg h1])
  simp(disch:=first|exact zd|fail) [h1];simp(disch:=first|exact zd|fail) [Ty.row_eq t];refine Zad (fun i st=>st=⟨[(1,Za3 l),(2,.sc (.ptr 64 0)),(4,.sc (.ptr 128 0)),(6,.sc (.ptr 1216 0)),(7,intV i)],
   [(64,some (.box [.c (.int .i64 t.kind),.c (.str t.name),.c (.int .i64 t.id),.c (.int .i64 t.home),.c (.sl (Ty.rows t.args))])),(128,some (.box [zi,zs,zi,zi,.nil])),
     (1216,some (.box [.c (.int .i64 t.kind),.c (.str t.name),.c (.int .i64 t.id),.c (.int .i64 t.home),.arr 1409 i])),(1409,some (.arr 5 (wr (Ty.rows ((t.args.map (ZdZ l)).take i))) 0))]⟩) t.args.length (by simp) ?_ ?_
  .rintro i st hi rfl
   obtain⟨x,hx⟩:=Zaa hi;have hxs:=Ty.arg_lt (qa hx);have hc:=ih x (qa hx) (by omega);have hmx:(t.args.map (ZdZ l))[i]?=some (ZdZ l x):=(by rw[qi,hx];rfl);have hlen:((t.args.map (ZdZ l)).take i).length=i:=(by simp;omega);unfold ZtX;simp(disch:=first|exact zd|fail) [hi,hx,hc,hlen,Zam hmx,-getElem?_pos]
  .rintro st rfl
   have htk:(t.args.map (ZdZ l)).take t.args.length=t.args.map (ZdZ l):=qf (by simp);unfold ZtX;simp(disch:=first|exact zd|fail) [htk,hm,Zgq,-getElem?_pos]
variable {A:Zab}
theorem Zsv (args:List Ty)(hl:args.length<=1073741824)(t:Ty):t.size<=1073741824->(K A).call 119 [tyV t,tysV args] []=some (tyV (Zfo args t),[]):=by
 induction t using Ty.ind with
 |h t ih=>
 intro ht;have hal:=t.args_lt;refine fnO v119 ?_;unfold v119;by_cases h1:t.kind=2/\0<=t.id/\t.id<args.length
 .obtain ⟨ha,hb,hc⟩:=h1
  obtain⟨k,hk⟩:∃k:Nat,t.id=k:=⟨t.id.toNat,by omega⟩;obtain⟨x,hx⟩:=Zaa (l:=args) (i:=k) (by omega);have hm:Zfo args t=x:=Ty.map_some (by unfold ZqR;rw[if_pos ⟨ha,hb,hc⟩,hk];simpa using hx);have hk2:(k:Int)<args.length:=by omega
  simp(disch:=first|exact zd|fail) [ha,hk,hk2,hx,hm,-getElem?_pos]
 .have hm:Zfo args t=.mk t.kind t.name t.id t.home (t.args.map (Zfo args)):=Ty.map_none (by unfold ZqR;rw [if_neg h1])
  have fin:wp (K A) (.loop ZpD) (Zb5 0 (Zdt (K A) (.seq (.region [] [o 48 (.ldD true 5 (tv 5)),on (.store 5 (tv 4) (tv 48) [])] [] [4]) .ret) (Zg0 false 0 [.cell 4 true 5] (tyV (Zfo args t),[]))))
   ⟨[(1,tysV args),(2,.sc (.ptr 64 0)),(4,.sc (.ptr 128 0)),(5,.sc (.ptr 1600 0)),(6,intV 0)],
     [(64,some (.box [.c (.int .i64 t.kind),.c (.str t.name),.c (.int .i64 t.id),.c (.int .i64 t.home),.c (.sl (Ty.rows t.args))])),(128,some (.box [zi,zs,zi,zi,.nil])),
       (1600,some (.box [.c (.int .i64 t.kind),.c (.str t.name),.c (.int .i64 t.id),.c (.int .i64 t.home),.arr 1793 0])),(1793,some (.arr 5 [] 0))]⟩:=by
   refine Zad (fun i st=>st=⟨[(1,tysV args),(2,.sc (.ptr 64 0)),(4,.sc (.ptr 128 0)),(5,.sc (.ptr 1600 0)),(6,intV i)],
    [(64,some (.box [.c (.int .i64 t.kind),.c (.str t.name),.c (.int .i64 t.id),.c (.int .i64 t.home),.c (.sl (Ty.rows t.args))])),(128,some (.box [zi,zs,zi,zi,.nil])),
      (1600,some (.box [.c (.int .i64 t.kind),.c (.str t.name),.c (.int .i64 t.id),.c (.int .i64 t.home),.arr 1793 i])),(1793,some (.arr 5 (wr (Ty.rows ((t.args.map (Zfo args)).take i))) 0))]⟩) t.args.length (by simp) ?_ ?_
   .rintro i st hi rfl
    obtain⟨x,hx⟩:=Zaa hi;have hxs:=Ty.arg_lt (qa hx);have hc:=ih x (qa hx) (by omega);have hmx:(t.args.map (Zfo args))[i]?=some (Zfo args x):=(by rw[qi,hx];rfl);have hlen:((t.args.map (Zfo args)).take i).length=i:=(by simp;omega);unfold ZpD;simp(disch:=first|exact zd|fail) [hi,hx,hc,hlen,Zam hmx,-getElem?_pos]
   .rintro st rfl
    have htk:(t.args.map (Zfo args)).take t.args.length=t.args.map (Zfo args):=qf (by simp);unfold ZpD;simp(disch:=first|exact zd|fail) [htk,hm,Zgq,-getElem?_pos]
  by_cases ha:t.kind=2
  .by_cases hb:0<=t.id
   .have hc:¬t.id<args.length:=fun hc=>h1 ⟨ha,hb,hc⟩
    simp(disch:=first|exact zd|fail) [ha,hb,hc];simp(disch:=first|exact zd|fail) [Ty.row_eq t];exact fin
   .simp (disch:=first|exact zd|fail) [ha,hb]
    simp(disch:=first|exact zd|fail) [Ty.row_eq t];exact fin
  .simp (disch:=first|exact zd|fail) [ha]
   simp(disch:=first|exact zd|fail) [Ty.row_eq t];exact fin
def rigB (t:Ty):Prop:=Ty.all (fun u=>u.kind=3/\u.home=99->0<=u.id/\u.id<=1000) t
theorem ZAH (t:Ty):t.size<=1073741824->rigB t->(K A).call 188 [tyV t] []=some (tyV (ZeA t),[]):=by
 induction t using Ty.ind with
 |h t ih=>
 intro ht hr;have hal:=t.args_lt;refine fnO v188 ?_;unfold v188;by_cases h1:t.kind=3/\t.home=99
 .obtain ⟨ha,hb⟩:=h1
  have hv:=ZtW (A:=A) (900+t.id);have hm:ZeA t=.mk 1 [] (900+t.id) 0 []:=Ty.map_some (by unfold Zil;rw[if_pos ⟨ha,hb⟩]);obtain⟨hr1,hr2⟩:=Ty.all.one hr ⟨ha,hb⟩;simp(disch:=first|exact zd|fail) [ha,hb,hv,hm]
 .have hm:ZeA t=.mk t.kind t.name t.id t.home (t.args.map ZeA):=Ty.map_none (by unfold Zil;rw [if_neg h1])
  have fin:wp (K A) (.loop Zon) (Zb5 0 (Zdt (K A) (.seq (.region [] [o 37 (.ldD true 5 (tv 3)),on (.store 5 (tv 2) (tv 37) [])] [] [2]) .ret) (Zg0 false 0 [.cell 2 true 5] (tyV (ZeA t),[]))))
   ⟨[(1,.sc (.ptr 64 0)),(2,.sc (.ptr 128 0)),(3,.sc (.ptr 1088 0)),(4,intV 0)],
     [(64,some (.box [.c (.int .i64 t.kind),.c (.str t.name),.c (.int .i64 t.id),.c (.int .i64 t.home),.c (.sl (Ty.rows t.args))])),(128,some (.box [zi,zs,zi,zi,.nil])),
       (1088,some (.box [.c (.int .i64 t.kind),.c (.str t.name),.c (.int .i64 t.id),.c (.int .i64 t.home),.arr 1281 0])),(1281,some (.arr 5 [] 0))]⟩:=by
   refine Zad (fun i st=>st=⟨[(1,.sc (.ptr 64 0)),(2,.sc (.ptr 128 0)),(3,.sc (.ptr 1088 0)),(4,intV i)],
    [(64,some (.box [.c (.int .i64 t.kind),.c (.str t.name),.c (.int .i64 t.id),.c (.int .i64 t.home),.c (.sl (Ty.rows t.args))])),(128,some (.box [zi,zs,zi,zi,.nil])),
      (1088,some (.box [.c (.int .i64 t.kind),.c (.str t.name),.c (.int .i64 t.id),.c (.int .i64 t.home),.arr 1281 i])),(1281,some (.arr 5 (wr (Ty.rows ((t.args.map ZeA).take i))) 0))]⟩) t.args.length (by simp) ?_ ?_
   .rintro i st hi rfl
    obtain⟨x,hx⟩:=Zaa hi;have hxs:=Ty.arg_lt (qa hx);have hc:=ih x (qa hx) (by omega) (Ty.all.arg hr (qa hx));have hmx:(t.args.map ZeA)[i]?=some (ZeA x):=(by rw[qi,hx];rfl);have hlen:((t.args.map ZeA).take i).length=i:=(by simp;omega);unfold Zon;simp(disch:=first|exact zd|fail) [hi,hx,hc,hlen,Zam hmx,-getElem?_pos]
   .rintro st rfl
    have htk:(t.args.map ZeA).take t.args.length=t.args.map ZeA:=qf (by simp);unfold Zon;simp(disch:=first|exact zd|fail) [htk,hm,Zgq,-getElem?_pos]
  by_cases ha:t.kind=3
  .have hb:¬t.home=99:=fun hb=>h1 ⟨ha,hb⟩
   simp(disch:=first|exact zd|fail) [ha,hb];simp(disch:=first|exact zd|fail) [Ty.row_eq t];exact fin
  .simp (disch:=first|exact zd|fail) [ha]
   simp(disch:=first|exact zd|fail) [Ty.row_eq t];exact fin
variable {A:Zab}
def IffB (P:Prop)(r:V×List Obj):Prop:=∃b:Bool,(b=true↔P)/\r=(Zae b,[])
theorem IffB.yes {P:Prop}(h:P):IffB P (Zae true,[]):=⟨true,by simp[h],rfl⟩
theorem IffB.no {P:Prop}(h:¬P):IffB P (Zae false,[]):=⟨false,by simp[h],rfl⟩
theorem Ty.ext {a b:Ty}(h1:a.kind=b.kind)(h2:a.name=b.name)(h3:a.id=b.id)(h4:a.home=b.home)(h5:a.args=b.args):a=b:=by
 cases a;cases b;grind[Ty.kind,Ty.name,Ty.id,Ty.home,Ty.args]
theorem Zzd {α:Type}{l m:List α}(hn:l.length=m.length)(h:∀(i:Nat)(x y:α),l[i]?=some x->m[i]?=some y->x=y):l=m:=by
 refine qC fun i=>?_;grind
theorem teq134 (l m:List Ty)(hl:l.length<=1073741824)(ih:∀x∈l,∀b,∃r,IffB (x=b) r/\(K A).call 52 [tyV x,tyV b] []=some r):∃r,IffB (l=m) r/\(K A).call 107 [tysV l,tysV m] []=some r:=by
 refine ZaD _ (vf:=v107) (by rfl) rfl (by simp) ?_;unfold v107;by_cases hn:l.length=m.length
 .simp (disch:=first|exact zd|fail) [hn]
  refine Zad (fun i s=>(∀(j:Nat) x y,j<i->l[j]?=some x->m[j]?=some y->x=y)/\s=⟨[(0,tysV l),(1,tysV m),(5,intV i)],[]⟩) l.length ⟨by omega,by simp⟩ ?_ ?_
  .rintro i s hi ⟨hs,rfl⟩
   obtain⟨x,hx⟩:=Zaa hi;obtain⟨y,hy⟩:=Zaa (l:=m) (i:=i) (by omega);obtain⟨_,⟨b,hb,rfl⟩,hc⟩:=ih x (qa hx) y;unfold Zlx;cases b with
   |true=>
    have hxy:x=y:=hb.1 rfl;simp(disch:=first|exact zd|fail) [hi,hx,hy,hc,-getElem?_pos];grind
   |false=>
    have hne:l≠m:=by
     grind
    simp(disch:=first|exact zd|fail) [hi,hx,hy,hc,-getElem?_pos];exact IffB.no hne
  .rintro s ⟨hs,rfl⟩
   have he:l=m:=Zzd hn fun i x y hx hy=>hs i x y (qd.1 hx).1 hx hy;unfold Zlx;simp(disch:=first|exact zd|fail);exact IffB.yes he
 .have hn':¬(l.length:Int)=m.length:=by omega
  have hne:l≠m:=fun h=>hn (by rw[h]);simp(disch:=first|exact zd|fail) [hn,hn'];exact IffB.no hne
theorem teq85:∀(n:Nat)(a b:Ty),a.size<=n->n<=1073741824->∃r,IffB (a=b) r/\(K A).call 52 [tyV a,tyV b] []=some r:=by
 intro n
 induction n with
 |zero=>
  intro a b ha;have:=a.size_pos;omega
 |succ n ih=>
  intro a b ha hn;have hal:=a.args_lt;obtain⟨_,⟨v,hv,rfl⟩,hc⟩:=teq134 (A:=A) a.args b.args (by omega) (fun x hx b=>ih x b (by have:=Ty.arg_lt hx;omega) (by omega));refine ZaD _ (vf:=v52) (by rfl) rfl (by simp) ?_;unfold v52;by_cases h1:a.kind=b.kind
  .by_cases h2:a.name=b.name
   .by_cases h3:a.id=b.id
    .by_cases h4:a.home=b.home
     .simp (disch:=first|exact zd|fail) [h1,h2,h3,h4,hc]
      exact⟨v,hv.trans ⟨fun h5=>Ty.ext h1 h2 h3 h4 h5,fun h=>by rw[h]⟩,rfl⟩
     .simp (disch:=first|exact zd|fail) [h1,h2,h3,h4,hc]
      grind[IffB.no]
    .simp (disch:=first|exact zd|fail) [h1,h2,h3,hc]
     grind[IffB.no]
   .simp (disch:=first|exact zd|fail) [h1,h2,hc]
    grind[IffB.no]
  .simp (disch:=first|exact zd|fail) [h1,hc]
   grind[IffB.no]
end Go.Vs.Tryz
