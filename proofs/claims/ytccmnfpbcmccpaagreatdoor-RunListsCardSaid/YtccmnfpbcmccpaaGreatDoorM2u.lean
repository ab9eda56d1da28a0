/- The value semantics, 13: make and append. -/
import Derived.Test.YtccmnfpbcmccpaaGreatDoorM1u
import Derived.Lib.ConvBytes
set_option linter.unusedSimpArgs false
set_option linter.unusedVariables false
set_option linter.deprecated false
namespace Go.Vs
open Go
section
variable {P:Program}{C:Ctx}{N:Nat}{w0:World}{ω0:Nat->Nat}{S:Fr}{E:Nat->Option V}{L:Nat->Option Obj}{a:Act}{w:World}{ω:Nat->Nat}{β:Nat->Option Nat}
variable {o:Oper}{v:V}
theorem Ou (z:Array Value)(hz:0<z.size):∀m,((Array.range (m*z.size)).map fun q=>z[q % z.size]!).toList=(List.replicate m z.toList).flatten:=by
 intro m;apply qE;intro i;have hl:∀m,((List.replicate m z.toList).flatten).length=m*z.size:=by
  simp
 by_cases hi:i<m*z.size
 .have hmod:i % z.size<z.size:=Nat.mod_lt _ hz
  have h1:((Array.range (m*z.size)).map fun q=>z[q % z.size]!).toList[i]?=some (z[i % z.size]!):=by
   grind
  rw[h1]
  induction m generalizing i<;>grind[qal,qH,Nat.mod_eq_sub_mod]
 grind
theorem RWlist.flatReplicate {zero:List W}{zs:List Value}(h:RWlist w ω β L zero zs):∀m,RWlist w ω β L (List.replicate m zero).flatten (List.replicate m zs).flatten
 |0=>by simp[RWlist]
 |m+1=>by rw[List.replicate_succ,List.replicate_succ,qG,qG];exact h.append (RWlist.flatReplicate h m)
theorem Xg (r:Rel C.gl N w0 ω0 S E L a w ω β){t e:TypeId}{i:TypeInfo}{z:Value}{zero:List W}{x y:Operand}{x':Opd}{oid:Nat}(ho:o.op=.makeSlice t x y)(hx:mOpd x x'=true)(hy:mOpd y x'=true)
 (ht:P.underlying t=some (.slice e)) (hi:P.info? e=some i) (hz:i.zero=some z) (hc:Cq z.cells.toList zero=true) (hzs:z.cells.size=i.size) {u:Upd}
 (h:Ae C E L oid (.mkS i.size i.bytes zero x')=some (v,u)):Makes P C.gl N w0 ω0 S E L o a w v u:=by
 have h1:=Ay r hx;have h2:=Ay r hy;simp only[Ae]at h;split at h
 .rename_i m hk hm
  cases hb:(Nat.ble (m*i.bytes) CT&&zero.length==i.size&&Nat.blt 0 i.size&&Nat.ble m A5)with
  |false=>grind
  |true=>
   rw[hb]at h;simp only[cond_true,qc,qh]at h;obtain⟨rfl,rfl⟩:=h;simp only[qe,beq_iff_eq]at hb;obtain⟨⟨⟨hb1,hzl⟩,hs⟩,hb2⟩:=hb;have hb1:=qi hb1;have hb2:=qi hb2;have hs:0<i.size:=qi (show Nat.ble (0+1) i.size=true from hs);obtain⟨k,hval⟩:∃k,x'.val C E=.sc (.c (.int k m)):=by
    unfold Ki at hm;grind
   rw[hval]at h1 h2;simp only[RV,RV1,RW,RD]at h1 h2;have hw:IntKind.i64.wrap (m:Int)=m:=by
    grind[A5,IntWalk.i64_in]
   have hbytes:¬((i.bytes:Int)*(m:Int)>2 ^ 48):=by
    grind[CT]
   have run:(execOp a.eval o).run P w=.ok (.value (.slice (some ⟨w.heap.size,0,none⟩) m m)) (w.alloc (.cells ((Array.range (m*i.size)).map fun q=>(if m*i.size=0 then (#[]:Array Value) else z.cells)[q % (if m*i.size=0 then (#[]:Array Value) else z.cells).size]!) e)):=by
    simp only[execOp,ho,Instr.makeSlice,qt,run_underlying ht,qk,h1,h2,asInt,asIntOf,qw,typeInfo,run_program,hi,hw,qau];have hneg:¬((m:Int)<0):=(by omega);simp only[hneg,hbytes,decide_false,Bool.or_false,gt_iff_lt,Int.lt_irrefl,qu,if_false,qt,run_askRoom,qk,Dm hi];by_cases h0:m*i.size=0
    .simp only [h0,if_true,qw,qk,newRow,qt,run_newObj]
     rfl
    .simp only [h0,if_false,zeroValue,typeInfo,qt,run_program,hi,hz,qw,qk,newRow,run_newObj]
     rfl
   have hcells:((Array.range (m*i.size)).map fun q=>(if m*i.size=0 then (#[]:Array Value) else z.cells)[q % (if m*i.size=0 then (#[]:Array Value) else z.cells).size]!).toList=(List.replicate m z.cells.toList).flatten:=by
    grind[Ou]
   obtain⟨ω',β',r2,g2⟩:=r.newArr (cap:=m) (rows:=List.replicate m zero) hk hs (by grind) (cs:=(Array.range (m*i.size)).map fun q=>(if m*i.size=0 then (#[]:Array Value) else z.cells)[q % (if m*i.size=0 then (#[]:Array Value) else z.cells).size]!) e
    (by simp) (by simp) hb2 (by
      grind[qa2,RWlist.flatReplicate,Ff])
   simp only[List.length_replicate]at g2;exact⟨_,_,_,ω',β',run,.inl rfl,r2,g2⟩
 grind
theorem GN (r:Rel C.gl N w0 ω0 S E L a w ω β){y:V}{vv:Value}(hr:RV w ω β L y vv){ys:List (List W)}{s:Nat}(h:Bd L y=some ys)(hs:∀r∈ys,r.length=s):
 ∃base cap,vv=.slice base ys.length cap/\(ys=[]\/∃A news,base=some A/\RWlist w ω β L ys.flatten news/\news.length=ys.length*s/\∀(j:Nat) (u:Value),news[j]?=some u->w.cell? (A.add j)=some u):=by
 have hlen:∀ys:List (List W),(∀r∈ys,r.length=s)->ys.flatten.length=ys.length*s:=by
  intro ys
  induction ys<;>grind
 have pub:∀rows:List (List Cell),(∀r∈rows,r.length=s)->RD w ω (.sl rows) vv->∃base cap,vv=.slice base (rows.map (·.map W.c)).length cap/\
  (rows.map (·.map W.c)=[]\/∃A news,base=some A/\RWlist w ω β L (rows.map (·.map W.c)).flatten news/\news.length=(rows.map (·.map W.c)).length*s/\∀(j:Nat) (u:Value),news[j]?=some u->w.cell? (A.add j)=some u):=by
  intro rows hrs h;simp only[RD]at h;obtain⟨base,cap,h1,_,_,h2⟩:=h;refine⟨base,cap,by grind,?_⟩;rcases h2 with rfl|⟨b,o',s',rfl,h3,h4⟩
  simp
  .by_cases hne:rows=[]
   grind;right;have hs':s'=s:=by
    cases rows<;>grind[RDrows]
   subst hs';have hflat:∀(rows:List (List Cell)) (o':Nat),RDrows w ω b s' o' rows->RDcells w ω b o' rows.flatten:=by
    intro rows
    induction rows with
    |nil=>grind[RDcells]
    |cons x xs ih=>
     intro o' h;simp only[RDrows]at h;rw[qG];have h5:=ih _ h.2.2;obtain⟨v1,g1,g2⟩:=h.2.1.list;obtain⟨v2,g3,g4⟩:=h5.list;have hx:v1.length=s':=(by rw[<-g1.length];omega);refine RDcells.mk (vs:=v1++v2) ?_ ?_
     .have:=RWlist.append (RDlist.to (β:=β) (L:=L) g1) (RDlist.to g3)
      rw[<-qaD]at this;exact RDlist.of this
     grind
   obtain⟨news,g1,g2⟩:=(hflat rows o' h4).list;refine⟨⟨b,o',none⟩,news,rfl,?_,?_,?_⟩;grind[RDlist.to]
   .rw [<-g1.length]
    grind
   .intro j u hu
    rw[DO];exact(g2 j u hu).1
 unfold Bd at h;split at h
 .rename_i rows
  simp only[qc]at h;subst h;exact pub rows (by simp_all) (by grind[RV,RV1,RW])
 grind[RV,RV1,RW];grind[RV,RV1,RW]
 .rename_i rows
  simp only[qc]at h;subst h;simp only[RV,RV1,RW]at hr;simp_all
 .rename_i k n
  split at h
  .rename_i s' rows p hL
   cases hb:(rows.length==n)with
   |false=>grind
   |true=>
    simp only[hb,cond_true,qc]at h;subst h;simp only[RV,RV1,RW]at hr;obtain⟨s1,rows1,p1,h1,h2,_,h3⟩:=hr;rw[hL]at h1;cases h1;have hn:n=rows.length:=(by grind:rows.length=n).symm;subst hn;obtain⟨f1,f2,f3,f4⟩:=r.obj k _ hL;rcases h3 rfl with ⟨b,cap,cur,t,h4,h5,h6,h7⟩|⟨h4,h5,base,h6⟩
    .refine ⟨_,cap,h5,?_⟩
     by_cases hne:rows=[];grind;right;rcases f4 with ⟨b',cap',cur',t',g2,g3,g4,g5,g6,g7,g8⟩|⟨g2,_⟩
     .rw [h4] at g2
      cases g2;rw[h6]at g3;cases g3;have hss:s'=s:=by
       cases rows<;>grind
      subst hss;refine⟨_,_,rfl,g7,?_,?_⟩
      .rw[<-g7.length];grind
      .intro j u hu
       rw[DO];rw[qX]at hu;split at hu
       .have:=BO (i:=j) h6
        grind[at?]
       grind
     grind
    grind
  grind
 .rename_i k M lo n
  split at h
  .rename_i s' rows p hL
   cases hb:(rows.length==M)with
   |false=>grind
   |true=>
    simp only[hb,cond_true]at h;simp only[RV,RV1,RW]at hr;obtain⟨s1,rows1,p1,h1,h2,_,h3⟩:=hr;rw[hL]at h1;cases h1;have hn:M=rows.length:=(by grind:rows.length=M).symm;subst hn;unfold cut at h;cases hb2:Nat.ble (lo+n) rows.length with
    |false=>grind
    |true=>
     simp only[hb2,cond_true,qc]at h;have hle:=qi hb2;have hyl:ys.length=n:=(by grind);obtain⟨f1,f2,f3,f4⟩:=r.obj k _ hL;rcases h3 rfl hle with ⟨h4,base,cap,h5,_⟩|⟨b,cap,cur,t,h4,h5,h6,h7,h8,h9⟩
     grind
     .refine ⟨_,cap,by rw [hyl];exact h5,?_⟩
      by_cases hne:ys=[];grind;right;rcases f4 with ⟨b',cap',cur',t',g2,g3,g4,g5,g6,g7,g8⟩|⟨g2,_⟩
      .rw [h4] at g2
       cases g2;rw[h8]at g3;cases g3;have hss:s'=s:=by
        cases hys:ys<;>grind
       subst hss;have hd:∀(m:Nat) (rows:List (List W)),(∀r∈rows,r.length=s')->(rows.drop m).flatten=rows.flatten.drop (m*s'):=by
        intro m
        induction m with
        |zero=>simp
        |succ m ih=>
         intro rows hrs;cases rows with
         |nil=>simp
         |cons x xs=>
          rw[qaL,ih xs (fun r hr=>hrs r (by grind)),qG];have hx:=hrs x (by simp);rw[show(m+1)*s'=x.length+m*s' from by grind,<-List.drop_drop];simp
       have ht:∀(m:Nat) (rows:List (List W)),(∀r∈rows,r.length=s')->(rows.take m).flatten=rows.flatten.take (m*s'):=by
        intro m
        induction m with
        |zero=>simp
        |succ m ih=>
         intro rows hrs;cases rows with
         |nil=>simp
         |cons x xs=>
          rw[qaM,qG,ih xs (fun r hr=>hrs r (by grind)),qG];grind[qaH]
       have hyf:RWlist w ω β L ys.flatten (((cur.toList.take (rows.length*s')).drop (lo*s')).take (n*s')):=by
        rw[<-h,ht _ _ (fun r hr=>f2 r (List.mem_of_mem_drop hr)),hd _ _ f2];exact(g7.drop _).take _
       refine⟨_,_,rfl,hyf,?_,?_⟩
       .rw[<-hyf.length];grind
       .intro j u hu
        rw[DO];rw[qX]at hu;split at hu
        .rw [qac,qX] at hu
         split at hu
         .have:=BO (i:=lo*s'+j) h8
          grind[at?]
         grind
        grind
      grind
  grind
 grind
end
section
variable {P:Program}{C:Ctx}{N:Nat}{w0:World}{ω0:Nat->Nat}{S:Fr}{E:Nat->Option V}{L:Nat->Option Obj}{a:Act}{w:World}{ω:Nat->Nat}{β:Nat->Option Nat}
variable {o:Oper}{v:V}
theorem Jq {t ty e:TypeId}{i:TypeInfo}(ht:P.underlying t=some (.slice e))(hi:P.info? e=some i){base yb:Option Addr}{n cap yc:Nat}(hn:n<=cap):
 (Builtin.append_ #[t,t] ty #[.slice base n cap,.slice yb 0 yc]).run P w=.ok (.slice base n cap) w:=by
 have hf:(Builtin.firstCells i.size 0 (.slice yb 0 yc)).run P w=.ok #[] w:=by
  cases yb with
  |none=>rfl
  |some b=>
   have:=run_loadCells_list (P:=P) w b [] (by simp);grind[Builtin.firstCells]
 cases base<;>simp[Builtin.append_,run_underlying ht,sizeOf,typeInfo,hi,Builtin.lenOf,hn,hf,storeCells]
theorem ZaG {t ty e:TypeId}{i:TypeInfo}(ht:P.underlying t=some (.slice e))(hi:P.info? e=some i){g sLen sCap:Nat}{cur:Array Value}{te:TypeId}(hg:w.heap[g]?=some (.cells cur te (0,0)))
 {A:Addr}{m c:Nat}{news:List Value}(hl:news.length=m*i.size) (hnews:∀(j:Nat) (u:Value),news[j]?=some u->w.cell? (A.add j)=some u) (h1:∀u∈news,u.oneCell'=true)
 (hroom:sLen+m<=sCap) (hfit:sLen*i.size+news.length<=cur.size):
 (Builtin.append_ #[t,t] ty #[.slice (some ⟨g,0,none⟩) sLen sCap,.slice (some A) m c]).run P w=
   .ok (.slice (some ⟨g,0,none⟩) (sLen+m) sCap) (w.setRow g (cur.toList.take (sLen*i.size)++news++cur.toList.drop (sLen*i.size+news.length)).toArray):=by
 have hf:=run_firstCells_some (P:=P) w i.size m A m c news hl hnews;have hst:=run_storeCells_at P g (sLen*i.size) te news 0 cur w hg (by omega) h1;simp only[qa6]at hst;simp[Builtin.append_,run_underlying ht,sizeOf,typeInfo,hi,Builtin.lenOf,hroom,hf,Addr.add_lit,hst]
theorem Tr.heapEq {w':World}(h:w'.heap=w.heap)(k:Nat):Tr w β w' β L L k:=by
 grind[Tr]
theorem RWlist.drew {xs:List W}{vs:List Value}(h:RWlist w ω β L xs vs):RWlist w.drew ω β L xs vs:=
 RWlist.step (w:=w) (w':=w.drew) (ω:=ω) (ω':=ω) (β:=β) (β':=β) (L:=L) (L':=L) ⟨fun _ _ hi _ hv=>⟨hv,hi⟩⟩ (fun k=>Tr.heapEq rfl k) xs h
theorem E4 {t u:TypeId}{x y:Operand}(ho:o.op=.call { callee:=.builtin .append,args:=#[x,y],argTypes:=#[t,u] }){vv:Value}{w':World}
 (h:(Builtin.append_ #[t,u] o.type #[a.eval x,a.eval y]).run P w=.ok vv w'):(execOp a.eval o).run P w=.ok (.value vv) w':=by
 unfold execOp;simp only[ho,resolve,invoke,builtin,qt,qw,qk,List.map_toArray,qv,qaf,h]
theorem Mx {ys:List (List W)}{s:Nat}(h:ys.all (fun r=>r.length==s&&r.all Am)=true):(∀r∈ys,r.length=s)/\ys.flatten.all Am=true:=by
 grind
theorem Oa {s:Nat}:∀{rows:List (List W)}{n:Nat},(∀r∈rows,r.length=s)->(rows.drop n).flatten=rows.flatten.drop (n*s)
 |[],n,_=>by simp
 |x::xs,0,_=>by simp
 |x::xs,n+1,h=>by
  have hx:=h x (by simp);rw[qaL,Oa (fun r hr=>h r (by grind)),qG,List.drop_append,hx];grind[qag]
theorem Nw {s:Nat}:∀{rows:List (List W)}{n:Nat},(∀r∈rows,r.length=s)->(rows.take n).flatten=rows.flatten.take (n*s)
 |[],n,_=>by simp
 |x::xs,0,_=>by simp
 |x::xs,n+1,h=>by
  have hx:=h x (by simp);rw[qaM,qG,Nw (fun r hr=>h r (by grind)),qG,List.take_append,hx];grind[qn]
theorem S2 {α:Type}(xs ns rest:List α){k:Nat}(h:(xs++ns).length=k):(xs++ns++rest).take k=xs++ns:=by
 grind
theorem KY (r:Rel C.gl N w0 ω0 S E L a w ω β){t e:TypeId}{i:TypeInfo}{z:Value}{x y:Operand}{x' y':Opd}{oid:Nat}{mk:Bool}(ho:o.op=.call { callee:=.builtin .append,args:=#[x,y],argTypes:=#[t,t] })
 (hx:mOpd x x'=true) (hy:mOpd y y'=true) (ht:P.underlying t=some (.slice e)) (hi:P.info? e=some i) (hz:i.zero=some z) (hzs:z.cells.size=i.size) (hs:0<i.size) {u:Upd}
 (h:Ae C E L oid (.app i.size i.bytes mk x' y')=some (v,u)):Makes P C.gl N w0 ω0 S E L o a w v u:=by
 have h1:=Ay r hx;have h2:=Ay r hy;simp only[Ae]at h;unfold Dz at h;split at h
 .cases h
 .rename_i ys hys
  cases hall:ys.all (fun r=>r.length==i.size&&r.all Am)with
  |false=>rw[hall]at h;simp at h
  |true=>
   rw[hall]at h;simp only[cond_true]at h;obtain⟨hrows,hnu⟩:=Mx hall;obtain⟨yb,yc,hyv,hread⟩:=GN r h2 hys hrows;have grown:∀(vs:List Value) (n:Nat) (news:List Value),vs.length=n*i.size->news.length=ys.length*i.size->∀(k:Nat),n+ys.length<=k->
    (vs.toArray++news.toArray++Builtin.zeroCells z.cells (k-(n+ys.length))).size=k*i.size/\
    (vs.toArray++news.toArray++Builtin.zeroCells z.cells (k-(n+ys.length))).toList.take ((n+ys.length)*i.size)=vs++news:=by
    intro vs n news hv hn k hk;constructor
    .simp only [Array.size_append,List.size_toArray,size_zeroCells,hzs,hv,hn,<-qaH]
     congr 1;omega
    .simp only [Array.toList_append]
     rw[S2];rw[qI,hv,hn,qaH]
   split at h
   .rename_i k n hv
    rw[hv]at h1;split at h
    .rename_i s' rows p hL
     cases hb:(rows.length==n&&s'==i.size && !mk&&Nat.ble (n+ys.length) A5&&Nat.ble ((n+ys.length)*i.bytes) CT)with
     |false=>rw[hb]at h;simp at h
     |true=>
      rw[hb]at h;simp only[cond_true,qc,qh]at h;obtain⟨rfl,rfl⟩:=h;simp only[qe,beq_iff_eq]at hb;obtain⟨⟨⟨⟨hn,hs'⟩,_⟩,hb1⟩,hb2⟩:=hb;subst hs' hn;have hb1:=qi hb1;have hb2:=qi hb2;have hb1':rows.length+ys.length<=9223372036854775807:=hb1;have hb2':(rows.length+ys.length)*i.bytes<=140737488355328:=hb2;obtain⟨f1,f2,f3,f4⟩:=r.obj k _ hL;simp only[RV,RV1,RW]at h1;obtain⟨s1,rows1,p1,e1,e2,_,e3⟩:=h1;rw[hL]at e1
      cases e1;have hnewrows:∀r∈rows++ys,r.length=i.size:=by
       grind
      have hflat:(rows++ys).flatten=rows.flatten++ys.flatten:=(by simp);by_cases hy0:ys=[]
      .subst hy0
       simp only[qJ,qR,qa6]at *
       have hsl:∃base cap,a.eval x=.slice base rows.length cap/\rows.length<=cap:=by
        rcases e3 trivial with ⟨b,cap,cur,ty,g1,g2,g3,g4⟩|⟨g1,g2,base,g3⟩<;>grind[qaq]
       obtain⟨base,cap,hxv,hcap⟩:=hsl;have hrun:=Jq (P:=P) (w:=w) (ty:=o.type) (yb:=yb) (yc:=yc) (base:=base) ht hi hcap;rw[<-hxv,<-hyv]at hrun;have eL:updO L k (some (.arr i.size rows p))=L:=by
        grind[B0,DD]
       refine⟨_,a.eval x,w,ω,β,E4 ho hrun,.inl rfl,?_,?_⟩;grind[updL]
       .simp only [updL,eL,RV,RV1,RW]
        grind
      .have hm:0<ys.length:=by grind
       rcases hread with hread|⟨A,news,rfl,hnr,hnl,hnat⟩
       grind;have hone:=hnr.oneCells hnu;rcases e3 rfl with ⟨b,cap,cur,ty,g1,g2,g3,g4⟩|⟨g1,g2,base,g3⟩
       .rcases f4 with ⟨b',cap',cur',t',k2,k3,k4,k5,k6,k7,k8⟩|⟨k2,_⟩
        .rw [g1] at k2;cases k2;rw [g3] at k3;cases k3
         have hcc:cap=cap':=qaq f1 (g4.symm.trans k4);subst hcc;by_cases hroom:rows.length+ys.length<=cap
         .have hfit:rows.length*i.size+news.length<=cur.size:=by rw [hnl,g4,<-qaH];exact qQ _ hroom
          have hrun:=ZaG (P:=P) (ty:=o.type) (c:=yc) ht hi g3 hnl hnat hone hroom hfit;rw[<-g2,<-hyv]at hrun;have hpsz:p*i.size<=rows.length*i.size:=qQ _ f3;have hpub:∀q,q<ω b->(cur.toList.take (rows.length*i.size)++news++cur.toList.drop (rows.length*i.size+news.length)).toArray[q]?=cur[q]?:=by
           intro q hq;rw[k8]at hq;have hlt:q<(cur.toList.take (rows.length*i.size)).length:=by
            grind
           rw[List.getElem?_toArray,qW,qK hlt,qX];grind
          obtain⟨r2,t2⟩:=r.write (o':=.arr i.size (rows++ys) p) hL g1 cur (cur.toList.take (rows.length*i.size)++news++cur.toList.drop (rows.length*i.size+news.length)).toArray ty g3
           (by simp only[List.size_toArray,qI,qY,qaa,qak];omega) (p*i.size) (by omega) hpub ⟨rfl,by simp⟩
           (fun tr hh=>by
             refine⟨f1,hnewrows,by grind,.inl ⟨b,cap,_,ty,g1,hh,?_,by grind,k6,?_,by simp[setN]⟩⟩;grind[qI,qY]
             .have gr:Grows w ω (w.setRow b (cur.toList.take (rows.length*i.size)++news++cur.toList.drop (rows.length*i.size+news.length)).toArray) (setN ω b (p*i.size)):=⟨fun b' q hq v hv=>by
               grind[BO,setN,GG]⟩
              have hst:=RWlist.step gr tr _ (k7.append hnr);grind[S2,qI,qY,qaH])
          refine⟨_,_,_,_,_,E4 ho hrun,.inl rfl,r2,?_⟩;simp only[updL,RV,RV1,RW];refine⟨i.size,rows++ys,p,B0 _ _ _,by simp,⟨_,_,_,rfl⟩,fun _=>.inl ⟨b,cap,_,ty,g1,rfl,setRow_heap w b cur _ ty _ g3,?_⟩⟩;grind[qI,qY]
         .have holds:∀j v,(cur.toList.take (rows.length*i.size))[j]?=some v->w.cell? ((⟨b,0,none⟩:Addr).add j)=some v:=by
           intro j q hq;rw[DO];rw[qX]at hq;split at hq
           .have:=BO (i:=j) g3
            grind[at?]
           grind
          have holl:(cur.toList.take (rows.length*i.size)).length=rows.length*i.size:=by
           simp_all
          have hrun:=run_append_grow (P:=P) w t o.type e i z ht hi hz ⟨b,0,none⟩ rows.length cap _ holl holds A ys.length yc news hnl hnat (by omega) (by omega) (growslice_fits (by omega) hb2');rw[<-g2,<-hyv]at hrun;have hge:=grownCap_ge w (rows.length+ys.length) cap e;have hcm:=grownCap_le_maxLen w (rows.length+ys.length) cap e hb1';obtain⟨q1,q2⟩:=grown _ rows.length news holl hnl _ hge
          have rd:Rel C.gl N w0 ω0 S E L a w.drew ω β:=r.heapEq rfl rfl rfl rfl;obtain⟨r2,t2⟩:=rd.move (k:=k) (s:=i.size) (rows:=rows) (rows':=rows++ys) (p:=p) (p':=p) hL (by grind) ((cur.toList.take (rows.length*i.size)).toArray++news.toArray++Builtin.zeroCells z.cells (grownCap w (rows.length+ys.length) cap e-(rows.length+ys.length))) e (p*i.size)
           (fun tr=>⟨f1,hnewrows,by grind,.inl ⟨w.heap.size,_,_,e,by simp[setN],heap_alloc_new w.drew _,q1,by grind,hcm,by
             rw[hflat,qI,q2];exact RWlist.step (Grows.alloc w.drew ω _ _) tr _ (k7.append hnr).drew,by simp[setN]⟩⟩)
          refine⟨_,_,_,_,_,E4 ho hrun,.inl rfl,r2,?_⟩;simp only[updL,RV,RV1,RW];exact⟨i.size,rows++ys,p,B0 _ _ _,by simp,⟨_,_,_,rfl⟩,fun _=>.inl ⟨w.heap.size,_,_,e,by simp[setN],rfl,heap_alloc_new w.drew _,q1⟩⟩
        .rw[g1]at k2;cases k2
       .have hr0:rows=[]:=List.eq_nil_of_length_eq_zero g2
        subst hr0;simp only[qR,qaw,qae]at *
        have hp0:p=0:=(by omega);subst hp0;have hrun:(Builtin.append_ #[t,t] o.type #[.slice base 0 0,.slice (some A) ys.length yc]).run P w=.ok (.slice (some ⟨w.heap.size,0,none⟩) ys.length (grownCap w ys.length 0 e)) (w.drew.alloc (.cells (news.toArray++Builtin.zeroCells z.cells (grownCap w ys.length 0 e-ys.length)) e)):=by
         cases base with
         |none=>exact run_append_nil (P:=P) w t o.type e i z ht hi hz A ys.length yc news hnl hnat hm (by omega) (by omega)
         |some b=>
          have:=run_append_grow (P:=P) w t o.type e i z ht hi hz b 0 0 [] (by simp) (by simp) A ys.length yc news hnl hnat (by omega) (by omega) (growslice_fits (by omega) (by simpa using hb2'));simpa using this
        rw[<-g3,<-hyv]at hrun;have hge:=grownCap_ge w ys.length 0 e;have hcm:=grownCap_le_maxLen w ys.length 0 e hb1';obtain⟨q1,q2⟩:=grown [] 0 news (by simp) hnl _ (by simpa using hge);simp only[qaw,qae,Array.empty_append]at q1 q2;have rd:Rel C.gl N w0 ω0 S E L a w.drew ω β:=r.heapEq rfl rfl rfl rfl
        obtain⟨r2,t2⟩:=rd.move (k:=k) (s:=i.size) (rows:=[]) (rows':=ys) (p:=0) (p':=0) hL (by simpa using hm) (news.toArray++Builtin.zeroCells z.cells (grownCap w ys.length 0 e-ys.length)) e 0
         (fun tr=>⟨f1,hrows,qai _,.inl ⟨w.heap.size,_,_,e,by simp[setN],heap_alloc_new w.drew _,q1,hge,hcm,by
           rw[q2];exact RWlist.step (Grows.alloc w.drew ω _ _) tr _ hnr.drew,by simp[setN]⟩⟩)
        refine⟨_,_,_,_,_,E4 ho hrun,.inl rfl,r2,?_⟩;simp only[updL,RV,RV1,RW];exact⟨i.size,ys,0,B0 _ _ _,qg _,⟨_,_,_,rfl⟩,fun _=>.inl ⟨w.heap.size,_,_,e,by simp[setN],rfl,heap_alloc_new w.drew _,q1⟩⟩
    .cases h
   .split at h
    .cases h
    .rename_i rows0 hrows0
     split at h
     .cases h
     .rename_i hk
      cases hb:(mk&&(rows0.isEmpty || !ys.isEmpty)&&rows0.all (fun r=>r.length==i.size)&&Nat.ble (rows0.length+ys.length) A5&&Nat.ble ((rows0.length+ys.length)*i.bytes) CT)with
      |false=>rw[hb]at h;simp at h
      |true=>
       rw[hb]at h;simp only[cond_true,qc,qh]at h;obtain⟨rfl,rfl⟩:=h;simp only[qe,qar,qaA,qa5]at hb;obtain⟨⟨⟨⟨_,hb0⟩,hbr⟩,hb1⟩,hb2⟩:=hb;have hb1:=qi hb1;have hb2:=qi hb2;have hb1':rows0.length+ys.length<=9223372036854775807:=hb1;have hb2':(rows0.length+ys.length)*i.bytes<=140737488355328:=hb2;have hr0:∀r∈rows0,r.length=i.size:=by
        intro r hr;simpa using qx.1 hbr r hr
       have hr0':∀r∈rows0.map (·.map W.c),r.length=i.size:=by
        intro r hr;obtain⟨q,hq,rfl⟩:=qL.1 hr;simpa using hr0 q hq
       obtain⟨base,hxv,hold⟩:∃base,a.eval x=.slice base rows0.length rows0.length/\(rows0=[]\/∃A olds,base=some A/\RWlist w ω β L (rows0.map (·.map W.c)).flatten olds/\olds.length=rows0.length*i.size/\∀(j:Nat) (u:Value),olds[j]?=some u->w.cell? (A.add j)=some u):=by
        split at hrows0
        .rename_i hv
         simp only[qc]at hrows0;subst hrows0;rw[hv]at h1;simp only[RV,RV1,RW]at h1;exact⟨none,h1,.inl rfl⟩
        .rename_i rows hv
         simp only[qc]at hrows0;subst hrows0;rw[hv]at h1;obtain⟨b1,c1,g1,g2⟩:=GN r h1 (ys:=rows.map (·.map W.c)) (s:=i.size) (by simp[Bd]) hr0';simp only[RV,RV1,RW]at h1;obtain⟨_,b2,n2,g3⟩:=h1;rw[g3]at g1;simp only[qbc,qba]at g1;obtain⟨rfl,rfl,_⟩:=g1;refine⟨b2,g3,?_⟩;rcases g2 with g2|⟨A,news,g2,g4,g5,g6⟩
         .left;simpa using g2
         .right;exact⟨A,news,g2,g4,by simpa using g5,g6⟩
        .cases hrows0
       by_cases hy0:ys=[]
       .have hz0:rows0=[]:=by
         rcases hb0 with hb0|hb0
         .exact hb0
         .rw[hy0]at hb0;simp at hb0
        subst hy0 hz0;simp only[qR,qa6,qaf,qae]at *
        have hrun:=Jq (P:=P) (w:=w) (ty:=o.type) (yb:=yb) (yc:=yc) (base:=base) ht hi (qg 0);rw[<-hxv,<-hyv]at hrun;obtain⟨r2,t2⟩:=r.newNil hk hs;refine⟨_,a.eval x,w,ω,_,E4 ho hrun,.inl rfl,r2,?_⟩;simp only[updL,RV,RV1,RW];exact⟨i.size,[],0,B0 _ _ _,by simp,⟨_,_,_,hxv⟩,fun _=>.inr ⟨by simp[setN],rfl,base,hxv⟩⟩
       .have hm:0<ys.length:=by cases ys with
         |nil=>exact absurd rfl hy0
         |cons _ _=>simp
        rcases hread with hread|⟨A,news,rfl,hnr,hnl,hnat⟩
        .exact absurd hread hy0
        obtain⟨olds,hor,hol,hrun⟩:∃olds:List Value,RWlist w ω β L (rows0.map (·.map W.c)).flatten olds/\olds.length=rows0.length*i.size/\
         (Builtin.append_ #[t,t] o.type #[.slice base rows0.length rows0.length,.slice (some A) ys.length yc]).run P w=.ok (.slice (some ⟨w.heap.size,0,none⟩) (rows0.length+ys.length) (grownCap w (rows0.length+ys.length) rows0.length e))
           (w.drew.alloc (.cells (olds.toArray++news.toArray++Builtin.zeroCells z.cells (grownCap w (rows0.length+ys.length) rows0.length e-(rows0.length+ys.length))) e)):=by
         rcases hold with rfl|⟨B,olds,rfl,g1,g2,g3⟩
         .refine ⟨[],by simp [RWlist],by simp,?_⟩
          simp only[qR,qaw]at hb1' hb2' |-;cases base with
          |none=>
           have:=run_append_nil (P:=P) w t o.type e i z ht hi hz A ys.length yc news hnl hnat hm (by omega) (by omega);simpa using this
          |some b=>
           have:=run_append_grow (P:=P) w t o.type e i z ht hi hz b 0 0 [] (by simp) (by simp) A ys.length yc news hnl hnat (by omega) (by omega) (growslice_fits (by omega) (by simpa using hb2'));simpa using this
         .exact⟨olds,g1,g2,run_append_grow (P:=P) w t o.type e i z ht hi hz B rows0.length rows0.length olds g2 g3 A ys.length yc news hnl hnat (by omega) (by omega) (growslice_fits (by omega) hb2')⟩
        rw[<-hxv,<-hyv]at hrun;have hge:=grownCap_ge w (rows0.length+ys.length) rows0.length e;have hcm:=grownCap_le_maxLen w (rows0.length+ys.length) rows0.length e hb1';obtain⟨q1,q2⟩:=grown olds rows0.length news hol hnl _ hge;have rd:Rel C.gl N w0 ω0 S E L a w.drew ω β:=r.heapEq rfl rfl rfl rfl;have hlen:(rows0.map (·.map W.c)++ys).length=rows0.length+ys.length:=(by simp)
        obtain⟨ω',β',r2,h3⟩:=rd.newArr (rows:=rows0.map (·.map W.c)++ys) (cap:=grownCap w (rows0.length+ys.length) rows0.length e) hk hs (by
         grind) (cs:=olds.toArray++news.toArray++Builtin.zeroCells z.cells (grownCap w (rows0.length+ys.length) rows0.length e-(rows0.length+ys.length))) e q1 (by omega) hcm (by
         rw[hlen,q2,List.flatten_append];exact(hor.append hnr).drew)
        rw[hlen]at h3;exact⟨_,_,_,ω',β',E4 ho hrun,.inl rfl,r2,h3⟩
theorem ZbX {t u ty e:TypeId}{i:TypeInfo}(ht:P.underlying t=some (.slice e))(hi:P.info? e=some i){g dLen dCap:Nat}{cur:Array Value}{te:TypeId}(hg:w.heap[g]?=some (.cells cur te (0,0)))
 {A:Addr}{m q c:Nat}{news:List Value}(hl:news.length=m*i.size) (hnews:∀(j:Nat) (u:Value),news[j]?=some u->w.cell? (A.add j)=some u) (h1:∀u∈news,u.oneCell'=true)
 (hmin:Nat.min q dLen=m) (hfit:news.length<=cur.size):
 (Builtin.copy_ #[t,u] ty #[.slice (some ⟨g,0,none⟩) dLen dCap,.slice (some A) q c]).run P w=
   .ok (.int .i64 m) (w.setRow g (news++cur.toList.drop news.length).toArray):=by
 have hf:=run_firstCells_some (P:=P) w i.size m A q c news hl hnews;have hst:=run_storeCells_at P g 0 te news 0 cur w hg (by omega) h1;simp only[qa6,qaw,List.take_zero,qae]at hst;simp[Builtin.copy_,run_underlying ht,sizeOf,typeInfo,hi,Builtin.lenOf,hmin,hf,hst,goInt]
theorem YU {t u ty e:TypeId}{i:TypeInfo}(ht:P.underlying t=some (.slice e))(hi:P.info? e=some i){base yb:Option Addr}{n cap q yc:Nat}(hmin:Nat.min q n=0):
 (Builtin.copy_ #[t,u] ty #[.slice base n cap,.slice yb q yc]).run P w=.ok (.int .i64 0) w:=by
 have hf:(Builtin.firstCells i.size 0 (.slice yb q yc)).run P w=.ok #[] w:=by
  cases yb with
  |none=>rfl
  |some b=>
   have:=run_loadCells_list (P:=P) w b [] (by simp);grind[Builtin.firstCells]
 cases base<;>simp[Builtin.copy_,run_underlying ht,sizeOf,typeInfo,hi,Builtin.lenOf,hmin,hf,storeCells,goInt]
theorem OZ {t u:TypeId}{x y:Operand}(ho:o.op=.call { callee:=.builtin .copy,args:=#[x,y],argTypes:=#[t,u] }){vv:Value}{w':World}
 (h:(Builtin.copy_ #[t,u] o.type #[a.eval x,a.eval y]).run P w=.ok vv w'):(execOp a.eval o).run P w=.ok (.value vv) w':=by
 unfold execOp;simp only[ho,resolve,invoke,builtin,qt,qw,qk,List.map_toArray,qv,qaf,h]
theorem Zbx (r:Rel C.gl N w0 ω0 S E L a w ω β){t e:TypeId}{i:TypeInfo}{x y:Operand}{x' y':Opd}{oid:Nat}(ho:o.op=.call { callee:=.builtin .copy,args:=#[x,y],argTypes:=#[t,t] })
 (hx:mOpd x x'=true) (hy:mOpd y y'=true) (ht:P.underlying t=some (.slice e)) (hi:P.info? e=some i) {u:Upd}
 (h:Ae C E L oid (.cp i.size x' y')=some (v,u)):Makes P C.gl N w0 ω0 S E L o a w v u:=by
 have h1:=Ay r hx;have h2:=Ay r hy;simp only[Ae]at h;unfold FA at h;split at h;grind
 .rename_i ys hys
  cases hall:ys.all (fun r=>r.length==i.size&&r.all Am)with
  |false=>grind
  |true=>
   rw[hall]at h;simp only[cond_true]at h;obtain⟨hrows,hnu⟩:=Mx hall;obtain⟨yb,yc,hyv,hread⟩:=GN r h2 hys hrows;split at h
   .rename_i k n hv
    rw[hv]at h1;split at h
    .rename_i s' rows p hL
     cases hb:(rows.length==n&&s'==i.size&&p==0)with
     |false=>grind
     |true=>
      rw[hb]at h;simp only[cond_true,qc,qh]at h;obtain⟨rfl,rfl⟩:=h;simp only[qe,beq_iff_eq]at hb;obtain⟨⟨hn,hs'⟩,hp⟩:=hb;subst hs' hn hp;obtain⟨f1,f2,f3,f4⟩:=r.obj k _ hL;have hmin:Nat.min ys.length rows.length=(ys.take rows.length).length:=(by grind);have hb1:(ys.take rows.length).length<=rows.length:=(by grind)
      have hread':ys.take rows.length=[]\/∃A news,yb=some A/\RWlist w ω β L (ys.take rows.length).flatten news/\news.length=(ys.take rows.length).length*i.size/\∀(j:Nat) (u:Value),news[j]?=some u->w.cell? (A.add j)=some u:=by
       rcases hread with h0|⟨A,news,h1,h2,h3,h4⟩
       grind
       .refine .inr ⟨A,news.take (rows.length*i.size),h1,?_,?_,fun j u hj=>h4 j u ?_⟩
        .have:=h2.take (rows.length*i.size)
         grind[Nw]
        simp_all;grind
      have hall':(ys.take rows.length).all (fun r=>r.length==i.size&&r.all Am)=true:=qx.2 fun r hr=>qx.1 hall r (q8 hr);obtain⟨hrows',hnu'⟩:=Mx hall';clear hread hrows hnu hall hall';generalize hQ:ys.length=Q at hyv hmin;generalize ys.take rows.length=ys at *
      have hread:=hread';have hrows:=hrows';have hnu:=hnu';simp only[RV,RV1,RW]at h1;obtain⟨s1,rows1,p1,e1,e2,_,e3⟩:=h1;rw[hL]at e1;cases e1;by_cases hy0:ys=[]
      .subst hy0
       have hsl:∃base cap,a.eval x=.slice base rows.length cap:=by
        rcases e3 rfl with ⟨b,cap,cur,ty,g1,g2,g3,g4⟩|⟨g1,g2,base,g3⟩<;>grind
       obtain⟨base,cap,hxv⟩:=hsl;have hrun:=YU (P:=P) (w:=w) (u:=t) (ty:=o.type) (yb:=yb) (yc:=yc) (base:=base) (n:=rows.length) (cap:=cap) ht hi (by simpa using hmin);rw[<-hxv,<-hyv]at hrun;refine⟨_,_,w,ω,β,OZ ho hrun,.inl rfl,?_,?_⟩<;>grind[updL,RV,RV1,RW,RD]
      .have hm:0<ys.length:=by grind
       have hemp:ys.isEmpty=false:=(by grind);rcases hread with hread|⟨A,news,rfl,hnr,hnl,hnat⟩
       grind;have hone:=hnr.oneCells hnu;rcases e3 rfl with ⟨b,cap,cur,ty,g1,g2,g3,g4⟩|⟨g1,g2,base,g3⟩
       .rcases f4 with ⟨b',cap',cur',t',k2,k3,k4,k5,k6,k7,k8⟩|⟨k2,_⟩
        .rw [g1] at k2;cases k2;rw [g3] at k3;cases k3
         have hcc:cap=cap':=qaq f1 (g4.symm.trans k4);subst hcc;have hfit:news.length<=cur.size:=(by rw[hnl,g4];exact qQ _ (by omega));have hrun:=ZbX (P:=P) (u:=t) (ty:=o.type) (c:=yc) (dCap:=cap) ht hi g3 hnl hnat hone hmin hfit;rw[<-g2,<-hyv]at hrun;have hnewrows:∀r∈ys++rows.drop ys.length,r.length=i.size:=by
          grind
         have hlen:(ys++rows.drop ys.length).length=rows.length:=(by grind);obtain⟨r2,t2⟩:=r.write (o':=.arr i.size (ys++rows.drop ys.length) 0) hL g1 cur (news++cur.toList.drop news.length).toArray ty g3
          (by grind) 0 (by omega) (fun q hq=>by omega) ⟨rfl,by omega⟩
          (fun tr hh=>by
            refine⟨f1,hnewrows,qai _,.inl ⟨b,cap,_,ty,g1,hh,?_,by omega,k6,?_,by simp[setN]⟩⟩;grind
            .have gr:Grows w ω (w.setRow b (news++cur.toList.drop news.length).toArray) (setN ω b 0):=⟨fun b' q hq v hv=>by
              grind[GG,setN]⟩
             have hflat:(ys++rows.drop ys.length).flatten=ys.flatten++(rows.flatten).drop news.length:=by
              grind[Oa]
             have k7':RWlist w ω β L (rows.flatten.drop news.length) ((cur.toList.take (rows.length*i.size)).drop news.length):=k7.drop _;have hst:=RWlist.step gr tr _ (hnr.append k7');grind[qQ,List.take_append,qn,List.drop_take])
         rw[hemp];simp only[cond_false];refine⟨_,_,_,_,_,OZ ho hrun,.inl rfl,r2,?_⟩;rfl
        grind
       omega
    grind
   grind
theorem ZcF {t e ty:TypeId}{i:TypeInfo}{z:Value}(ht:P.underlying t=some (.slice e))(hi:P.info? e=some i)(hz:i.zero=some z)(hzs:z.cells.size=i.size)(hs:0<i.size){g lo n cap:Nat}{cur:Array Value}{te:TypeId}(hg:w.heap[g]?=some (.cells cur te (0,0)))
 (hn:0<n) (hfit:(lo+n)*i.size<=cur.size) (h1:∀u∈z.cells.toList,u.oneCell'=true):
 (Builtin.clear_ #[t] ty #[.slice (some ⟨g,lo*i.size,none⟩) n cap]).run P w=
   .ok (.tuple #[]) (w.setRow g (cur.toList.take (lo*i.size)++(List.replicate n z.cells.toList).flatten++cur.toList.drop (lo*i.size+n*i.size)).toArray):=by
 have hzc:(Builtin.zeroCells z.cells n).toList=(List.replicate n z.cells.toList).flatten:=Ou z.cells (by omega) n;have hlen:((List.replicate n z.cells.toList).flatten).length=n*i.size:=by simp_all
 have hst:=run_storeCells_at P g (lo*i.size) te (List.replicate n z.cells.toList).flatten 0 cur w hg (by grind) (fun u hu=>by
  grind[List.mem_flatten])
 simp only[qa6,hlen]at hst;obtain⟨m,rfl⟩:∃m,n=m+1:=⟨n-1,by omega⟩;simp[Builtin.clear_,run_underlying ht,zeroValue,typeInfo,hi,hz,hzc,hst]
theorem ZW {t:TypeId}{x:Operand}(ho:o.op=.call { callee:=.builtin .clear,args:=#[x],argTypes:=#[t] }){vv:Value}{w':World}
 (h:(Builtin.clear_ #[t] o.type #[a.eval x]).run P w=.ok vv w'):(execOp a.eval o).run P w=.ok (.value vv) w':=by
 unfold execOp;simp only[ho,resolve,invoke,builtin,qt,qw,qk,List.map_toArray,qv,qaf,h]
theorem ZbK (r:Rel C.gl N w0 ω0 S E L a w ω β){t e:TypeId}{i:TypeInfo}{z:Value}{zero:List W}{x:Operand}{x':Opd}{oid:Nat}(ho:o.op=.call { callee:=.builtin .clear,args:=#[x],argTypes:=#[t] })
 (hx:mOpd x x'=true) (ht:P.underlying t=some (.slice e)) (hi:P.info? e=some i) (hz:i.zero=some z) (hc:Cq z.cells.toList zero=true) (hzs:z.cells.size=i.size) (hs:0<i.size) {u:Upd}
 (h:Ae C E L oid (.clr i.size zero x')=some (v,u)):Makes P C.gl N w0 ω0 S E L o a w v u:=by
 have h1:=Ay r hx;simp only[Ae]at h;split at h
 .rename_i k M lo n hv
  rw[hv]at h1;split at h
  .rename_i s' rows p hL
   cases hb:(rows.length==M&&s'==i.size&&zero.length==i.size&&zero.all Am&&Nat.ble (lo+n) M&&Nat.ble p lo&&Nat.blt 0 n)with
   |false=>grind
   |true=>
    rw[hb]at h;simp only[cond_true,qc,qh]at h;obtain⟨rfl,rfl⟩:=h;simp only[qe,beq_iff_eq]at hb;obtain⟨⟨⟨⟨⟨⟨hn,hs'⟩,hzl⟩,hnu⟩,hb1⟩,hb2⟩,hb3⟩:=hb;subst hs' hn;have hb1:=qi hb1;have hb2:=qi hb2;have hb3:0<n:=qi (show Nat.ble (0+1) n=true from hb3);obtain⟨f1,f2,f3,f4⟩:=r.obj k _ hL;simp only[RV,RV1,RW]at h1;obtain⟨s1,rows1,p1,e1,e2,_,e3⟩:=h1;rw[hL]at e1;cases e1
    rcases e3 rfl hb1 with ⟨h0,_⟩|⟨b,cap,cur,ty,g1,g2,g3,g4,g5,g6⟩
    omega
    .rcases f4 with ⟨b',cap',cur',t',k2,k3,k4,k5,k6,k7,k8⟩|⟨k2,_⟩
     .rw [g1] at k2;cases k2;rw [g5] at k3;cases k3
      have hle:rows.length*i.size<=cur.size:=(by rw[k4];exact qQ _ k5);have hle2:(lo+n)*i.size<=rows.length*i.size:=qQ _ hb1;have hlo:lo*i.size+n*i.size=(lo+n)*i.size:=(qaH lo n i.size).symm;have hone:=(Ff (w:=w) (ω:=ω) (β:=β) (L:=L) hc).oneCells hnu;have hrun:=ZcF (P:=P) (ty:=o.type) (cap:=cap) ht hi hz hzs hs g5 hb3 (qr hle2 hle) hone;rw[<-g2]at hrun
      have hflen:((List.replicate n z.cells.toList).flatten).length=n*i.size:=(by simp_all);have hnewrows:∀r∈rows.take lo++List.replicate n zero++rows.drop (lo+n),r.length=i.size:=by
       grind
      have hlen:(rows.take lo++List.replicate n zero++rows.drop (lo+n)).length=rows.length:=(by grind);have hsize:(cur.toList.take (lo*i.size)++(List.replicate n z.cells.toList).flatten++cur.toList.drop (lo*i.size+n*i.size)).length=cur.size:=by
       grind
      obtain⟨r2,t2⟩:=r.write (o':=.arr i.size (rows.take lo++List.replicate n zero++rows.drop (lo+n)) p) hL g1 cur (cur.toList.take (lo*i.size)++(List.replicate n z.cells.toList).flatten++cur.toList.drop (lo*i.size+n*i.size)).toArray ty g5
       (by omega) (p*i.size) (by omega) (fun q hq=>by
         rw[k8]at hq;have:p*i.size<=lo*i.size:=qQ _ hb2;grind) ⟨rfl,by omega⟩
       (fun tr hh=>by
         refine⟨f1,hnewrows,by omega,.inl ⟨b,cap',_,ty,g1,hh,?_,by omega,k6,?_,by simp[setN]⟩⟩;grind
         .have gr:Grows w ω (w.setRow b (cur.toList.take (lo*i.size)++(List.replicate n z.cells.toList).flatten++cur.toList.drop (lo*i.size+n*i.size)).toArray) (setN ω b (p*i.size)):=⟨fun b' q hq v hv=>by
           by_cases hb':b'=b
           .subst hb'
            rw[k8]at hq;have hpl:p*i.size<=lo*i.size:=qQ _ hb2;refine⟨?_,by simp[setN];omega⟩;rw[BO hh,<-qah,qW,qK (by grind),qX,if_pos (by omega),qah,<-BO g5];omega
           grind[GG,setN]⟩
          have hflat:(rows.take lo++List.replicate n zero++rows.drop (lo+n)).flatten=rows.flatten.take (lo*i.size)++((List.replicate n zero).flatten++rows.flatten.drop ((lo+n)*i.size)):=by
           grind[Nw,Oa]
          have kA:=k7.take (lo*i.size);have kB:=k7.drop ((lo+n)*i.size);have hst:=RWlist.step gr tr _ (kA.append ((RWlist.flatReplicate (Ff hc) n).append kB));rw[hflat];have e:(cur.toList.take (lo*i.size)++(List.replicate n z.cells.toList).flatten++cur.toList.drop (lo*i.size+n*i.size)).toArray.toList.take ((rows.take lo++List.replicate n zero++rows.drop (lo+n)).length*i.size)=
           (cur.toList.take (rows.length*i.size)).take (lo*i.size)++((List.replicate n z.cells.toList).flatten++(cur.toList.take (rows.length*i.size)).drop ((lo+n)*i.size)):=by
           rw[hlen,hlo,List.toList_toArray,qW,List.take_append,List.take_append];simp only[qY,qak,hflen,List.take_take,List.drop_take];grind[qn]
          grind)
      refine⟨_,_,_,_,_,ZW ho hrun,.inl rfl,r2,?_⟩;simp[updL,RV,RV1,RW]
     grind
  grind
 grind
theorem P6 {b:Nat}:∀{l:List UInt8}{o:Nat},(∀j x,l[j]?=some x->at? w b (o+j)=some (.int .u8 x.toNat)/\o+j<ω b)->RDrows w ω b 1 o (l.map fun x=>[Cell.int .u8 x.toNat])
 |[],_,_=>by simp[RDrows]
 |x::l,o,h=>by
  simp only[qv,RDrows,List.length_singleton,RDcells,and_true,true_and];obtain⟨h1,h2⟩:=h 0 x rfl;refine⟨⟨by omega,_,by simpa using h1,by rfl⟩,P6 fun j y hj=>?_⟩;have:=h (j+1) y (by grind);grind
theorem Z1 (r:Rel C.gl N w0 ω0 S E L a w ω β){src dst e:TypeId}{x:Operand}{x':Opd}{oid:Nat}(ho:o.op=.convert src dst x)(hx:mOpd x x'=true)(hs:(P.underlying src).isSome=true)(hd:P.underlying dst=some (.slice e))(he:P.underlying e=some (.int .u8)){u:Upd}
 (h:Ae C E L oid (.cvB x')=some (v,u)):Makes P C.gl N w0 ω0 S E L o a w v u:=by
 have h1:=Ay r hx;simp only[Ae]at h;split at h
 .rename_i s hv
  cases hb:Nat.ble s.length A5 with
  |false=>grind
  |true=>
   rw[hb]at h;simp only[cond_true,qc,qh]at h;obtain⟨rfl,rfl⟩:=h;have hb:=qi hb;rw[hv]at h1;simp only[RV,RV1,RW,RD]at h1;obtain⟨arr,h1,rfl⟩:=h1;have hlen:arr.data.toList.length=arr.size:=(by rfl);obtain⟨us,hs⟩:=qa1.1 hs;have hrun:=Lib.run_convert_string_bytes (P:=P) w src dst e arr hs hd he;rw[<-h1]at hrun;have hcm:=grownCap_le_maxLen w arr.size 0 e (by rw[<-hlen];exact hb)
   have hge:=grownCap_ge w arr.size 0 e;have hfree:∀b,b<w.heap.size->b≠w.heap.size:=fun b hb e=>by omega
   have gg:Grows w ω (Lib.bytesWorld w e arr) (setN ω w.heap.size arr.size):=⟨fun b i hi q hq=>by
    have hblt:b<w.heap.size:=block_lt_of_cell hq;refine⟨?_,by simp only[setN,if_neg (hfree b hblt)];exact hi⟩;simpa[at?,World.cell?,Lib.bytesWorld_at_old w e arr b hblt]using hq⟩
   have hr:=(r.step (fun _=>False) (w':=Lib.bytesWorld w e arr) (ω':=setN ω w.heap.size arr.size) (β':=β) (L':=L) gg (by grind[Lib.bytesWorld_size])
    (by rfl) (by rfl) (by rfl)
    (fun b hb _=>⟨Lib.bytesWorld_at_old w e arr b hb,by grind[setN]⟩) (fun k _=>⟨rfl,fun _=>rfl⟩) (fun _ h=>h.elim) (fun _ _ h=>h.elim) (fun _ h=>h.elim) (fun _ _ _ h=>h.elim)).1
   refine⟨_,.slice (some ⟨w.heap.size,0,none⟩) arr.size (grownCap w arr.size 0 e),_,_,β,by simp only[execOp,ho,qt,hrun,qk,qw],.inl rfl,hr,?_⟩;simp only[updL,RV,RV1,RW,RD];refine⟨some ⟨w.heap.size,0,none⟩,_,by simp,by grind,hcm,.inr ⟨w.heap.size,0,1,rfl,Nat.one_pos,P6 fun j y hj=>?_⟩⟩;grind[setN,Lib.bytesWorld_cell,at?]
 grind
theorem YA (r:Rel C.gl N w0 ω0 S E L a w ω β){t:TypeId}{i:TypeInfo}{z:Value}{zero:List W}{n oid:Nat}(ho:o.op=.alloc t)(hi:P.info? t=some i)(hz:i.zero=some z)
 (hc:Cq z.cells.toList (List.replicate n zero).flatten=true) (hs:0<zero.length) {u:Upd}(h:Ae C E L oid (.newA n zero)=some (v,u)):Makes P C.gl N w0 ω0 S E L o a w v u:=by
 simp only[Ae]at h;split at h;grind
 .rename_i hk
  cases hb:Nat.ble n A5 with
  |false=>grind
  |true=>
   rw[hb]at h;simp only[cond_true,qc,qh]at h;obtain⟨rfl,rfl⟩:=h;have hb:=qi hb;have hcells:=Ff (w:=w) (ω:=ω) (β:=β) (L:=L) hc;have hfl:(List.replicate n zero).flatten.length=n*zero.length:=(by simp);have hsz:z.cells.size=n*zero.length:=by
    have:=hcells.length;grind
   obtain⟨ω',β',r2,h2⟩:=r.newArr (cap:=n) (rows:=List.replicate n zero) hk hs (fun q hq=>by grind) (cs:=z.cells) t hsz (by simp) hb (by
    grind[qn])
   refine⟨.value (.pointer (some ⟨w.heap.size,0,none⟩)),.pointer (some ⟨w.heap.size,0,none⟩),w.alloc (.cells z.cells t),ω',β',?_,.inl rfl,r2,?_⟩
   .simp only[execOp,ho,Instr.alloc,qt,zeroValue,typeInfo,run_program,qk,hi,qw,hz,NO]
   .simp only [RV,RV1,RW] at h2 |-
    obtain⟨s',rows',p',e1,e2,_,e3⟩:=h2;have e4:=e1;rw[B0]at e4;cases e4;refine⟨_,_,_,e1,by simp,⟨_,rfl⟩,fun _ hn=>?_⟩;rcases e3 rfl with ⟨b,cap,cur,ty,g1,g2,_⟩|⟨_,g2,_⟩<;>grind
theorem Zcb (r:Rel C.gl N w0 ω0 S E L a w ω β){x:Operand}{x':Opd}{t e:TypeId}{i:TypeInfo}{n oid:Nat}{lo hi:Option Operand}{lo' hi':Option Opd}(ho:o.op=.slice t x lo hi none)(hx:mOpd x x'=true)
 (hlo:mOpt lo lo'=true) (hhi:mOpt hi hi'=true) (ht:P.underlying t=some (.array n e)) (hi0:P.info? e=some i) {u:Upd}
 (h:Ae C E L oid (.slA i.size n x' lo' hi')=some (v,u)):u=[]/\Gives P o a w ω β L v:=by
 have h1:=Ay r hx;simp only[Ae]at h;split at h
 .rename_i k N j off hv
  rw[hv]at h1;split at h
  .rename_i s' rows p hL
   split at h;grind
   .rename_i hh hhh
    split at h;grind
    .rename_i l hl
     cases hb:(N==n&&j==0&&off==0&&rows.length==N&&s'==i.size&&Nat.blt 0 N)with
     |false=>grind
     |true=>
      rw[hb]at h;simp only[cond_true,qc,qh]at h;obtain⟨rfl,rfl⟩:=h;simp only[qe,beq_iff_eq]at hb;obtain⟨⟨⟨⟨⟨rfl,rfl⟩,rfl⟩,hn⟩,rfl⟩,hpos⟩:=hb;have hpos:0<N:=qi (show Nat.ble (0+1) N=true from hpos);obtain⟨b3,b4⟩:=C4 r hhi hhh;obtain⟨b5,b6⟩:=C4 r hlo hl;obtain⟨f1,f2,f3,f4⟩:=r.obj k _ hL;simp only[RV,RV1,RW]at h1;obtain⟨s1,rows1,p1,e1,e2,_,e3⟩:=h1;rw[hL]at e1;cases e1;obtain⟨b,g1,g2⟩:=e3 hn.symm hpos
      rcases f4 with ⟨b',cap',cur',t',k2,k3,k4,k5,k6,k7,k8⟩|⟨k2,_⟩
      .rw [g1] at k2
       cases k2;have hbd:=Em (P:=P) (w:=w) (isS:=false) (len:=N) (cap:=N) (l:=l) (h:=hh) (m:=N) (mx:=none) (.inl ⟨rfl,rfl⟩) (qg _) b3 (qg _) b5 (qg _) (by simp);have hg2:a.eval x=.pointer (some ⟨b,0,none⟩):=(by grind);refine⟨rfl,.slice (some (if N=l then ⟨b,0,none⟩ else (Addr.add ⟨b,0,none⟩ (l*i.size)))) (hh-l) (N-l),?_,?_⟩
       .simp only[execOp,ho,hg2,qt,Instr.sliceAt,run_underlying ht,qk,hbd,Dm hi0,qw,Instr.sureAddr,Option.map_none]
       .simp only [RV,RV1,RW]
        refine⟨i.size,rows,p,hL,by omega,⟨_,_,_,rfl⟩,fun _ _=>?_⟩;by_cases hz:hh=l
        .left
         exact⟨by omega,_,N-l,by rw[show hh-l=0 from by omega],by omega⟩
        .right
         refine⟨b,N-l,cur',t',g1,?_,by omega,by omega,k3,?_⟩;grind[DO]
         .rw [k4,show l+(N-l)=N from by omega]
          exact qQ _ (by omega)
      grind
  grind
 grind
theorem OP {α γ:Type}{f:α->Option γ}:∀{l:List α}{r:List γ},Ad f l=some r->∀x∈l,∃y,f x=some y
 |[],_,_,x,hx=>by grind
 |a::l,r,h,x,hx=>by
  simp only[Ad]at h;split at h;grind
  .rename_i q hq
   split at h;grind
   .rename_i qs hqs
    rcases qD.1 hx with rfl|hx
    grind
    .exact OP hqs x hx
theorem TP:∀{l:List UInt8}{ys:List (List W)}{news:List Value},Ad Eo ys=some l->RWlist w ω β L ys.flatten news->ys.length=l.length/\news=l.map (fun x=>Value.int .u8 (x.toNat:Int))
 |l,[],news,h,hr=>by
  grind[Ad,RWlist]
 |l,y::ys,news,h,hr=>by
  simp only[Ad]at h;split at h;grind
  .rename_i q hq
   split at h;grind
   .rename_i qs hqs
    cases h;unfold Eo at hq;split at hq
    .rename_i m
     cases hb:(decide (0<=m)&&decide (m<256))with
     |false=>grind
     |true=>
      rw[hb]at hq;simp only[cond_true,qc]at hq;subst hq;simp only[qe,decide_eq_true_eq]at hb;cases news with
      |nil=>simp[RWlist]at hr
      |cons u us=>
       simp only[qG,q9,qae,RWlist,RW,RD]at hr;obtain⟨h1,h2⟩:=TP (ys:=ys) hqs hr.2;grind[UInt8.toNat_ofNat']
    grind
theorem Y6 (r:Rel C.gl N w0 ω0 S E L a w ω β){src dst e:TypeId}{x:Operand}{x':Opd}{oid:Nat}(ho:o.op=.convert src dst x)(hx:mOpd x x'=true)(hs:P.underlying src=some (.slice e))(he:P.underlying e=some (.int .u8))(hd:P.underlying dst=some .string){u:Upd}
 (h:Ae C E L oid (.cvS x')=some (v,u)):u=[]/\Gives P o a w ω β L v:=by
 have h1:=Ay r hx;simp only[Ae]at h;split at h;grind
 .rename_i rows hrows
  cases hb:rows.isEmpty with
  |true=>grind
  |false=>
   rw[hb]at h;simp only[cond_false]at h;cases hl:Ad Eo rows with
   |none=>grind
   |some l=>
    rw[hl]at h;simp only[qp,qc,qh]at h;obtain⟨rfl,rfl⟩:=h;have hone:∀q∈rows,q.length=1:=by
     intro q hq;obtain⟨c,hc⟩:=OP hl q hq;unfold Eo at hc;split at hc
     .rfl
     .cases hc
    obtain⟨base,cap,hv,hread⟩:=GN r h1 hrows hone;rcases hread with h0|⟨A,news,h2,h3,h4,h5⟩
    grind
    .subst h2
     obtain⟨k1,k2⟩:=TP (ys:=rows) hl h3;have hrun:=run_convert_bytes_back (P:=P) w src dst e A cap l hs he hd (fun j hj=>h5 j _ (by grind));refine⟨rfl,.string ⟨l.toArray⟩,?_,?_⟩
     .simp only [execOp,ho,qt]
      rw[hv,k1,hrun];simp only[qk,qw]
     .simp only [RV,RV1,RW,RD]
      exact⟨_,rfl,by simp⟩
end
def tyOk (P:Program)(t:TypeId)(n:Nat):Bool:=(P.underlying t).isSome&&(match P.info? t with | some i=>i.size==n | none=>false)
def Sq (P:Program)(t:TypeId)(parts:List (Nat×Operand))(ps:List (Nat×Nat×Opd)):Bool:=
 match P.underlying t with
 |some (.struct fs)=>(match PG P fs with | some l=>E5 (fun j=>l[j]?) parts ps | none=>false)
 |some (.array _ e)=>(match P.info? e with | some ie=>E5 (fun j=>some (j*ie.size,ie.size)) parts ps | none=>false)
 |_=>false
def DI (P:Program)(t:TypeId):Option TypeId:=match P.underlying t with
 |some (.slice e)=>some e
 |_=>none
def mOp (P:Program)(op:Op):VOp->Bool
 |.mv x=>match op with | .move y=>mOpd y x | .assign y=>mOpd y x | _=>false
 |.pick c x y=>match op with | .pick c' x' y'=>mOpd c' c&&mOpd x' x&&mOpd y' y | _=>false
 |.bin b tag x y=>match op with | .binOp b' t x' y' _=>b==b'&&mOpd x' x&&mOpd y' y&&mTag P t y' tag | _=>false
 |.un b x=>match op with | .unOp b' _ x'=>b==b'&&mOpd x' x | _=>false
 |.new cells own=>match op with
  |.alloc t=>(match P.info? t with | some i=>(match i.zero with | some z=>Cq z.cells.toList cells | none=>false) | none=>false)&&own.all (fun p=>Nat.blt 0 p.2)
  |_=>false
 |.box x=>match op with | .box _ x'=>mOpd x' x | _=>false
 |.build zero ps=>match op with
  |.build t parts=>(match P.info? t with | some i=>(match i.zero with | some z=>Cq z.cells.toList zero | none=>false) | none=>false)&&Sq P t parts.toList ps
  |_=>false
 |.mkSl s xs=>match op with
  |.buildSlice t len parts=>(match DI P t with
   |some e=>(match P.info? e with | some i=>i.size==s&&i.zero.isSome | none=>false)
   |none=>false)&&Nat.blt 0 s&&Nat.ble (len*s) (2 ^ 24)&&mRow 0 parts.toList xs&&xs.length==len
  |_=>false
 |.load ag n x=>match op with | .load t x'=>mOpd x' x&&tyOk P t n&&AJ P t==ag | _=>false
 |.store n x y own=>match op with | .store t x' y'=>mOpd x' x&&mOpd y' y&&tyOk P t n&&own.all (fun p=>Nat.blt 0 p.2) | _=>false
 |.fld off x=>match op with
  |.fieldAddr t x' f=>mOpd x' x&&(match P.underlying t with
   |some (.struct fs)=>(match fs[f]? with | some fd=>fd.offset==off&&(match P.info? fd.type with | some i=>i.size != 0 | none=>false) | none=>false)
   |_=>false)
  |_=>false
 |.part ag off n x=>match op with
  |.field t x' f=>mOpd x' x&&(match P.underlying t with
   |some (.struct fs)=>(match fs[f]? with | some fd=>fd.offset==off&&tyOk P fd.type n&&AJ P fd.type==ag | none=>false)
   |_=>false)
  |_=>false
 |.idxA s x i=>match op with
  |.indexAddr t x' i'=>mOpd x' x&&mOpd i' i&&(match DI P t with | some e=>(match P.info? e with | some q=>q.size==s | none=>false) | none=>false)
  |_=>false
 |.idxAA s len x i=>match op with
  |.indexAddr t x' i'=>mOpd x' x&&mOpd i' i&&(match P.underlying t with | some (.array len' e)=>len'==len&&(match P.info? e with | some q=>q.size==s | none=>false) | _=>false)
  |_=>false
 |.idxS x i=>match op with
  |.index t x' i'=>mOpd x' x&&mOpd i' i&&(match P.underlying t with | some .string=>true | _=>false)
  |_=>false
 |.slS x lo hi=>match op with
  |.slice t x' lo' hi' none=>mOpd x' x&&mOpt lo' lo&&mOpt hi' hi&&(match P.underlying t with | some .string=>true | _=>false)
  |_=>false
 |.sl s x lo hi mx=>match op with
  |.slice t x' lo' hi' mx'=>mOpd x' x&&mOpt lo' lo&&mOpt hi' hi&&mOpt mx' mx&&(!mx'.isSome||hi'.isSome)&&(match DI P t with | some e=>(match P.info? e with | some q=>q.size==s | none=>false) | none=>false)
  |_=>false
 |.len str x=>match op with
  |.call { callee:=.builtin .len,args:=⟨[x']⟩,argTypes:=⟨[t]⟩ }=>mOpd x' x&&(match P.underlying t,str with | some .string,true=>true | some (.slice _),false=>true | _,_=>false)
  |_=>false
 |.mx x y=>match op with
  |.call { callee:=.builtin .max,args:=⟨[x',y']⟩,argTypes:=_ }=>mOpd x' x&&mOpd y' y
  |_=>false
 |.mn x y=>match op with
  |.call { callee:=.builtin .min,args:=⟨[x',y']⟩,argTypes:=_ }=>mOpd x' x&&mOpd y' y
  |_=>false
 |.app s bytes _ x y=>match op with
  |.call { callee:=.builtin .append,args:=⟨[x',y']⟩,argTypes:=⟨[t,u]⟩ }=>mOpd x' x&&mOpd y' y&&t==u&&Nat.blt 0 s&&(match DI P t with
   |some e=>(match P.info? e with | some q=>q.size==s&&q.bytes==bytes&&(match q.zero with | some z=>z.cells.size==s | none=>false) | none=>false)
   |none=>false)
  |_=>false
 |.mkS s bytes zero x=>match op with
  |.makeSlice t x' y'=>mOpd x' x&&mOpd y' x&&(match DI P t with
   |some e=>(match P.info? e with | some q=>q.size==s&&q.bytes==bytes&&(match q.zero with | some z=>z.cells.size==s&&Cq z.cells.toList zero | none=>false) | none=>false)
   |none=>false)
  |_=>false
 |.fn f xs=>match op with
  |.makeFunc (.func g) ⟨[]⟩ ys=>f==g&&mAll ys.toList xs
  |_=>false
 |.call _ _ _=>false
 |.ext i x=>match op with | .extract x' j=>mOpd x' x&&i==j | _=>false
 |.cvI k x=>match op with
  |.convert src dst x'=>mOpd x' x&&(match P.underlying src with | some (.int _)=>true | _=>false)&&(match P.underlying dst with | some (.int k')=>k==k' | _=>false)
  |_=>false
 |.ifc t x=>match op with
  |.makeInterface t' x'=>t==t'&&mOpd x' x&&(match P.underlying t with | some (.interface _)=>false | some _=>true | none=>false)
  |_=>false
 |.cp s x y=>match op with
  |.call { callee:=.builtin .copy,args:=⟨[x',y']⟩,argTypes:=⟨[t,u]⟩ }=>mOpd x' x&&mOpd y' y&&t==u&&(match DI P t with | some e=>(match P.info? e with | some i=>i.size==s | none=>false) | none=>false)
  |_=>false
 |.appN s bytes y=>match op with
  |.call { callee:=.builtin .append,args:=⟨[x',y']⟩,argTypes:=⟨[t,u]⟩ }=>mOpd x' (.k (.sc .nil))&&mOpd y' y&&t==u&&Nat.blt 0 s&&(match DI P t with
   |some e=>(match P.info? e with | some q=>q.size==s&&q.bytes==bytes&&(match q.zero with | some z=>z.cells.size==s | none=>false) | none=>false)
   |none=>false)
  |_=>false
 |.mkE=>match op with
  |.buildSlice t 0 ⟨[]⟩=>(match DI P t with | some e=>(match P.info? e with | some _=>true | none=>false) | none=>false)
  |_=>false
 |.appF s bytes x y=>match op with
  |.call { callee:=.builtin .append,args:=⟨[x',y']⟩,argTypes:=⟨[t,u]⟩ }=>mOpd x' x&&mOpd y' y&&t==u&&Nat.blt 0 s&&(match DI P t with
   |some e=>(match P.info? e with | some q=>q.size==s&&q.bytes==bytes&&(match q.zero with | some z=>z.cells.size==s | none=>false) | none=>false)
   |none=>false)
  |_=>false
 |.cvB x=>match op with
  |.convert src dst x'=>mOpd x' x&&(P.underlying src).isSome&&(match P.underlying dst with | some (.slice e)=>(match P.underlying e with | some (.int .u8)=>true | _=>false) | _=>false)
  |_=>false
 |.clr s zero x=>match op with
  |.call { callee:=.builtin .clear,args:=⟨[x']⟩,argTypes:=⟨[t]⟩ }=>mOpd x' x&&Nat.blt 0 s&&(match DI P t with
   |some e=>(match P.info? e with | some q=>q.size==s&&(match q.zero with | some z=>z.cells.size==s&&Cq z.cells.toList zero | none=>false) | none=>false)
   |none=>false)
  |_=>false
 |.newA n zero=>match op with
  |.alloc t=>(match P.info? t with | some i=>(match i.zero with | some z=>Cq z.cells.toList (List.replicate n zero).flatten | none=>false) | none=>false)&&Nat.blt 0 zero.length
  |_=>false
 |.slA s n x lo hi=>match op with
  |.slice t x' lo' hi' none=>mOpd x' x&&mOpt lo' lo&&mOpt hi' hi&&(match P.underlying t with
   |some (.array m e)=>m==n&&(match P.info? e with | some q=>q.size==s | none=>false)
   |_=>false)
  |_=>false
 |.cvS x=>match op with
  |.convert src dst x'=>mOpd x' x&&(match P.underlying dst with | some .string=>true | _=>false)&&(match P.underlying src with | some (.slice e)=>(match P.underlying e with | some (.int .u8)=>true | _=>false) | _=>false)
  |_=>false
 |.ldD ..=>false
 |.mvD ..=>false
 |.bldD ..=>false
 |.bad=>match op with | .defer _=>false | _=>true
 |.nn x=>match op with | .nilCheck x'=>mOpd x' x | _=>false
section
variable {P:Program}{C:Ctx}{N:Nat}{w0:World}{ω0:Nat->Nat}{S:Fr}{E:Nat->Option V}{L:Nat->Option Obj}{a:Act}{w:World}{ω:Nat->Nat}{β:Nat->Option Nat}
variable {o:Oper}{v:V}
theorem Ky {t:TypeId}{n:Nat}(h:tyOk P t n=true):(P.underlying t).isSome=true/\∃i,P.info? t=some i/\i.size=n:=by
 grind[tyOk]
theorem DB {t e:TypeId}(h:DI P t=some e):P.underlying t=some (.slice e):=by
 grind[DI]
theorem JR {own:List (Nat×Nat)}(h:own.all (fun p=>Nat.blt 0 p.2)=true):∀p∈own,0<p.2:=by
 intro p hp;have:=qx.1 h p hp;simp_all
theorem Ib (r:Rel C.gl N w0 ω0 S E L a w ω β){vop:VOp}{oid:Nat}(hm:mOp P o.op vop=true){u:Upd}(h:Ae C E L oid vop=some (v,u)):Makes P C.gl N w0 ω0 S E L o a w v u:=by
 cases vop with
 |mv x=>
  simp only[mOp]at hm;simp only[Ae,qc,qh]at h;obtain⟨rfl,rfl⟩:=h;split at hm
  .rename_i y ho;exact(T8 r (.inl ho) hm rfl).makes r
  .rename_i y ho;exact(T8 r (.inr ho) hm rfl).makes r
  grind
 |pick c x y=>
  simp only[mOp]at hm;split at hm
  .rename_i c' x' y' ho
   simp only[qe]at hm;simp only[Ae]at h;split at h
   .rename_i t ht
    simp only[qc,qh]at h;obtain⟨rfl,rfl⟩:=h;exact(YS r ho hm.1.1 hm.1.2 hm.2 ht rfl).makes r
   grind
  grind
 |bin b tag x y=>
  simp only[mOp]at hm;split at hm
  .rename_i b' t x' y' t' ho
   simp only[qe,beq_iff_eq]at hm;obtain⟨⟨⟨rfl,hx⟩,hy⟩,ht⟩:=hm;simp only[Ae]at h;split at h
   .rename_i p q hp hq
    cases hb:binW b tag p q with
    |none=>grind
    |some c=>
     simp only[hb,qp,qc,qh]at h;obtain⟨rfl,rfl⟩:=h;exact(Yk r ho hx hy ht hp hq hb rfl).makes r
   grind
  grind
 |un b x=>
  simp only[mOp]at hm;split at hm
  .rename_i b' t x' ho
   simp only[qe,beq_iff_eq]at hm;obtain⟨rfl,hx⟩:=hm;simp only[Ae]at h;split at h
   .rename_i p hp
    cases hb:unW b p with
    |none=>grind
    |some c=>
     simp only[hb,qp,qc,qh]at h;obtain⟨rfl,rfl⟩:=h;exact(Zd r ho hx hp hb rfl).makes r
   grind
  grind
 |new cells own=>
  simp only[mOp]at hm;split at hm
  .rename_i t ho
   simp only[qe]at hm;obtain⟨h1,h2⟩:=hm;split at h1
   .rename_i i hi
    split at h1
    .rename_i z hz
     exact Xv r ho hi hz h1 (JR h2) h
    grind
   grind
  grind
 |box x=>
  simp only[mOp]at hm;grind[Zb1]
 |build zero ps=>
  simp only[mOp]at hm;split at hm
  .rename_i t parts ho
   simp only[qe]at hm;obtain⟨h1,h2⟩:=hm;split at h1
   .rename_i i hi
    split at h1
    .rename_i z hz
     simp only[Ae]at h;split at h;grind
     .rename_i qs hqs
      cases hf:BR zero qs with
      |none=>grind
      |some cs=>
       simp only[hf,qp,qc,qh]at h;obtain⟨rfl,rfl⟩:=h;unfold Sq at h2;split at h2
       .rename_i fs hu
        split at h2
        .rename_i l hl
         exact(Rr r ho hi hz h1 (.inl ⟨fs,l,hu,hl,rfl⟩) h2 hqs hf rfl).makes r
        grind
       .rename_i n e hu
        split at h2
        .rename_i ie hie
         exact(Rr r ho hi hz h1 (.inr ⟨n,e,ie,hu,hie,rfl⟩) h2 hqs hf rfl).makes r
        grind
       grind
    grind
   grind
  grind
 |mkSl s xs=>
  simp only[mOp]at hm;split at hm
  .rename_i t len parts ho
   simp only[qe,beq_iff_eq]at hm;obtain⟨⟨⟨⟨h1,h2⟩,h3⟩,h4⟩,h5⟩:=hm;split at h1
   .rename_i e he
    split at h1
    .rename_i i hi
     simp only[qe,beq_iff_eq]at h1;obtain⟨rfl,hz⟩:=h1;obtain⟨z,hz⟩:=qa1.1 hz;exact Ws r ho (DB he) hi hz (qi (show Nat.ble (0+1) i.size=true from h2)) (qi h3) h4 h5 h
    grind
   grind
  grind
 |load ag n x=>
  simp only[mOp]at hm;split at hm
  .rename_i t x' ho
   simp only[qe,beq_iff_eq]at hm;obtain⟨⟨h1,h2⟩,rfl⟩:=hm;obtain⟨hu,i,hi,rfl⟩:=Ky h2;obtain⟨rfl,hg⟩:=WJ r ho h1 hu hi (u:=u) h;exact hg.makes r
  grind
 |store n x y own=>
  simp only[mOp]at hm;split at hm
  .rename_i t x' y' ho
   simp only[qe]at hm;obtain⟨⟨⟨h1,h2⟩,h3⟩,h4⟩:=hm;obtain⟨hu,i,hi,rfl⟩:=Ky h3;exact Vu r ho h1 h2 hi (JR h4) h
  grind
 |fld off x=>
  simp only[mOp]at hm;split at hm
  .rename_i t x' f ho
   simp only[qe]at hm;obtain⟨h1,h2⟩:=hm;split at h2
   .rename_i fs hu
    split at h2
    .rename_i fd hf
     simp only[qe,beq_iff_eq]at h2;obtain⟨rfl,h3⟩:=h2;split at h3
     .rename_i i hi
      have hu0:u=[]:=by
       simp only[Ae]at h;unfold onBy at h;grind
      subst hu0;exact(Zax r ho h1 hu hf hi (by grind) h).makes r
     grind
    grind
   grind
  grind
 |part ag off n x=>
  simp only[mOp]at hm;split at hm
  .rename_i t x' f ho
   simp only[qe]at hm;obtain⟨h1,h2⟩:=hm;split at h2
   .rename_i fs hu
    split at h2
    .rename_i fd hf
     simp only[qe,beq_iff_eq]at h2;obtain⟨⟨rfl,h3⟩,rfl⟩:=h2;obtain⟨hu2,i,hi,rfl⟩:=Ky h3;simp only[Ae]at h;split at h
     .rename_i cs hcs
      split at h
      .rename_i ds hds
       cases hav:asV (AJ P fd.type) ds with
       |none=>grind
       |some v'=>
        simp only[hav,qp,qc,qh]at h;obtain⟨rfl,rfl⟩:=h;exact(Uv r ho h1 hu hf hu2 hi hcs hds hav).makes r
      grind
     grind
    grind
   grind
  grind
 |idxA s x i=>
  simp only[mOp]at hm;split at hm
  .rename_i t x' i' ho
   simp only[qe]at hm;obtain⟨⟨h1,h2⟩,h3⟩:=hm;split at h3
   .rename_i e he
    split at h3
    .rename_i q hq
     have:q.size=s:=(by grind);subst this;obtain⟨rfl,hg⟩:=ZU r ho h1 h2 (DB he) hq (u:=u) h;exact hg.makes r
    grind
   grind
  grind
 |idxAA s len x i=>
  simp only[mOp]at hm;split at hm
  .rename_i t x' i' ho
   simp only[qe]at hm;obtain⟨⟨h1,h2⟩,h3⟩:=hm;split at h3
   .rename_i len' e hu
    simp only[qe,beq_iff_eq]at h3;obtain⟨rfl,h3⟩:=h3;split at h3
    .rename_i q hq
     have:q.size=s:=(by grind);subst this;simp only[Ae]at h;split at h;grind
     .rename_i j hj
      have hu0:u=[]:=by
       unfold onBy at h;grind
      subst hu0;exact(Zbo r ho h1 h2 hu hq hj h).makes r
    grind
   grind
  grind
 |idxS x i=>
  simp only[mOp]at hm;split at hm
  .rename_i t x' i' ho
   simp only[qe]at hm;obtain⟨⟨h1,h2⟩,h3⟩:=hm;split at h3
   .rename_i hu
    simp only[Ae]at h;split at h
    .rename_i s hs
     split at h
     .rename_i j hj
      cases hb:s[j]? with
      |none=>grind
      |some b=>
       simp only[hb,qp,qc,qh]at h;obtain⟨rfl,rfl⟩:=h;exact(Xm r ho h1 h2 hu hs hj hb rfl).makes r
     grind
    grind
   grind
  grind
 |slS x lo hi=>
  simp only[mOp]at hm;split at hm
  .rename_i t x' lo' hi' ho
   simp only[qe]at hm;obtain⟨⟨⟨h1,h2⟩,h3⟩,h4⟩:=hm;split at h4
   .rename_i hu
    simp only[Ae]at h;split at h
    .rename_i s hs
     split at h;grind
     .rename_i hh hhh
      cases hl:AK (lo.map (·.val C E)) 0 hh with
      |none=>grind
      |some l=>
       simp only[hl,qp,qc,qh]at h;obtain⟨rfl,rfl⟩:=h;exact(W0 r ho h1 h2 h3 hu hs hhh hl rfl).makes r
    grind
   grind
  grind
 |sl s x lo hi mx=>
  simp only[mOp]at hm;split at hm
  .rename_i t x' lo' hi' mx' ho
   simp only[qe]at hm;obtain⟨⟨⟨⟨⟨h1,h2⟩,h3⟩,h4⟩,h5⟩,h6⟩:=hm;split at h6
   .rename_i e he
    split at h6
    .rename_i q hq
     have:q.size=s:=(by grind);subst this;obtain⟨rfl,hg⟩:=ZaC r ho h1 h2 h3 h4 (by grind) (DB he) hq (u:=u) h;exact hg.makes r
    grind
   grind
  grind
 |len str x=>
  simp only[mOp]at hm;split at hm
  .rename_i x' t ho
   simp only[qe]at hm;obtain⟨h1,h2⟩:=hm;simp only[Ae]at h;cases hb:(C1 (x.val C E)==str)with
   |false=>grind
   |true=>
    simp only[hb,cond_true]at h;cases hn:lenV L (x.val C E)with
    |none=>grind
    |some n=>
     rw[hn]at h;cases h;exact(Za0 r ho h1 h2 (by grind) hn rfl).makes r
  grind
 |mx x y=>
  simp only[mOp]at hm;split at hm
  .rename_i x' y' ts ho
   simp only[qe]at hm;simp only[Ae]at h;split at h
   .rename_i k p j q hp hq
    simp only[qc,qh]at h;obtain⟨rfl,rfl⟩:=h;exact(Uf r (.inl rfl) ho hm.1 hm.2 hp hq (by simp)).makes r
   grind
  grind
 |mn x y=>
  simp only[mOp]at hm;split at hm
  .rename_i x' y' ts ho
   simp only[qe]at hm;simp only[Ae]at h;split at h
   .rename_i k p j q hp hq
    simp only[qc,qh]at h;obtain⟨rfl,rfl⟩:=h;exact(Uf r (.inr rfl) ho hm.1 hm.2 hp hq (by simp)).makes r
   grind
  grind
 |app s bytes mk x y=>
  simp only[mOp]at hm;split at hm
  .rename_i x' y' t u' ho
   simp only[qe,beq_iff_eq]at hm;obtain⟨⟨⟨⟨h1,h2⟩,rfl⟩,h3⟩,h4⟩:=hm;split at h4
   .rename_i e he
    split at h4
    .rename_i q hq
     simp only[qe,beq_iff_eq]at h4;obtain⟨⟨rfl,rfl⟩,h5⟩:=h4;split at h5
     .rename_i z hz
      exact KY r ho h1 h2 (DB he) hq hz (by grind) (qi (show Nat.ble (0+1) q.size=true from h3)) h
     grind
    grind
   grind
  grind
 |mkS s bytes zero x=>
  simp only[mOp]at hm;split at hm
  .rename_i t x' y' ho
   simp only[qe]at hm;obtain⟨⟨h1,h2⟩,h4⟩:=hm;split at h4
   .rename_i e he
    split at h4
    .rename_i q hq
     simp only[qe,beq_iff_eq]at h4;obtain⟨⟨rfl,rfl⟩,h5⟩:=h4;split at h5
     .rename_i z hz
      simp only[qe,beq_iff_eq]at h5;exact Xg r ho h1 h2 (DB he) hq hz h5.2 h5.1 h
     grind
    grind
   grind
  grind
 |fn f xs=>
  simp only[mOp]at hm;split at hm
  .rename_i g ys ho
   simp only[qe,beq_iff_eq]at hm;obtain⟨rfl,h1⟩:=hm;obtain⟨rfl,hg⟩:=WR r ho h1 (u:=u) h;exact hg.makes r
  grind
 |call f args own=>simp[mOp]at hm
 |ext i x=>
  simp only[mOp]at hm;split at hm
  .rename_i x' j ho
   simp only[qe,beq_iff_eq]at hm;obtain⟨h1,rfl⟩:=hm;simp only[Ae]at h;split at h
   .rename_i l hl
    cases hi:l[i]? with
    |none=>grind
    |some v'=>
     simp only[hi,qp,qc,qh]at h;obtain⟨rfl,rfl⟩:=h;exact(VN r ho h1 hl hi).makes r
   grind
  grind
 |cvI k x=>
  simp only[mOp]at hm;split at hm
  .rename_i src dst x' ho
   simp only[qe]at hm;obtain⟨⟨h1,h2⟩,h3⟩:=hm;split at h2
   .rename_i k0 hs
    split at h3
    .rename_i k' hd
     have:k=k':=(by grind);subst this;simp only[Ae]at h;split at h
     .rename_i j n hn
      simp only[qc,qh]at h;obtain⟨rfl,rfl⟩:=h;exact(Y3 r ho h1 hs hd hn rfl).makes r
     grind
    grind
   grind
  grind
 |ifc t x=>
  simp only[mOp]at hm;split at hm
  .rename_i t' x' ho
   simp only[qe,beq_iff_eq]at hm;obtain⟨⟨rfl,h1⟩,h2⟩:=hm;simp only[Ae]at h;have hu0:u=[]:=by
    grind
   subst hu0;exact(Wp r ho h1 h2 h).makes r
  grind
 |cp s x y=>
  simp only[mOp]at hm;split at hm
  .rename_i x' y' t u' ho
   simp only[qe,beq_iff_eq]at hm;obtain⟨⟨⟨h1,h2⟩,rfl⟩,h4⟩:=hm;split at h4
   .rename_i e he
    split at h4
    .rename_i q hq
     simp only[beq_iff_eq]at h4;subst h4;exact Zbx r ho h1 h2 (DB he) hq h
    grind
   grind
  grind
 |appN s bytes y=>
  simp only[mOp]at hm;split at hm
  .rename_i x' y' t u' ho
   simp only[qe,beq_iff_eq]at hm;obtain⟨⟨⟨⟨h1,h2⟩,rfl⟩,h3⟩,h4⟩:=hm;split at h4
   .rename_i e he
    split at h4
    .rename_i q hq
     simp only[qe,beq_iff_eq]at h4;obtain⟨⟨rfl,rfl⟩,h5⟩:=h4;split at h5
     .rename_i z hz
      simp only[Ae]at h;split at h
      .rename_i hrows
       simp only[qc,qh]at h;obtain⟨rfl,rfl⟩:=h;have hx:=Ay r h1;have hy:=Ay r h2;simp only[Opd.val,RV,RV1,RW]at hx;obtain⟨yb,yc,hyv,_⟩:=GN r hy hrows (s:=q.size) (by simp);have hrun:=Jq (P:=P) (w:=w) (ty:=o.type) (yb:=yb) (yc:=yc) (base:=none) (n:=0) (cap:=0) (DB he) hq (qg _);simp only[qR]at hyv;rw[<-hx,<-hyv]at hrun;exact⟨_,_,w,ω,β,E4 ho hrun,.inl rfl,r,by grind[RV,RV1,RW]⟩
      .exact KY (mk:=true) (x':=.k (.sc .nil)) (y':=y) r ho h1 h2 (DB he) hq hz (by grind) (qi (show Nat.ble (0+1) q.size=true from h3)) (by simp only[Ae,Opd.val];exact h)
     grind
    grind
   grind
  grind
 |mkE=>
  simp only[mOp]at hm;split at hm
  .rename_i t ho
   split at hm
   .rename_i e he
    split at hm
    .rename_i q hq
     simp only[Ae,qc,qh]at h;obtain⟨rfl,rfl⟩:=h;have run:(execOp a.eval o).run P w=.ok (.value (.slice (some ⟨w.heap.size,0,none⟩) 0 0)) (w.alloc (.cells #[] e)):=by
      simp only[execOp,ho,Instr.buildSlice,qt,run_underlying (DB he),qk,Dm hq,Nat.zero_mul];simp[Instr.fill,qt,newRow,run_newObj,Result.andThen,show Array.range 0=(#[]:Array Nat) by rfl]
     exact⟨_,_,_,_,β,run,.inl rfl,r.allocFree #[] e,⟨⟨_,0,rfl,by simp,by simp,.inl rfl⟩,_,0,rfl⟩⟩
    grind
   grind
  grind
 |appF s bytes x y=>
  simp only[mOp]at hm;split at hm
  .rename_i x' y' t u' ho
   simp only[qe,beq_iff_eq]at hm;obtain⟨⟨⟨⟨h1,h2⟩,rfl⟩,h3⟩,h4⟩:=hm;split at h4
   .rename_i e he
    split at h4
    .rename_i q hq
     simp only[qe,beq_iff_eq]at h4;obtain⟨⟨rfl,rfl⟩,h5⟩:=h4;split at h5
     .rename_i z hz
      simp only[Ae]at h;split at h
      .rename_i rows0 hxf
       have hx:=Ay r h1;rw[hxf]at hx;simp only[RV,RV1,RW]at hx;split at h
       .rename_i hrows
        simp only[qc,qh]at h;obtain⟨rfl,rfl⟩:=h;have hy:=Ay r h2;obtain⟨yb,yc,hyv,_⟩:=GN r hy hrows (s:=q.size) (by simp);have hx':=hx;simp only[RD]at hx';obtain⟨⟨base,cap,hxv,_⟩,base',n,hxn⟩:=hx';have hcap:rows0.length<=cap:=by
         omega
        have hrun:=Jq (P:=P) (w:=w) (ty:=o.type) (yb:=yb) (yc:=yc) (base:=base) (n:=rows0.length) (cap:=cap) (DB he) hq hcap;simp only[qR]at hyv;rw[<-hxv,<-hyv]at hrun;exact⟨_,_,w,ω,β,E4 ho hrun,.inl rfl,r,by grind[RV,RV1,RW]⟩
       .exact KY (mk:=true) (x':=x) (y':=y) r ho h1 h2 (DB he) hq hz (by grind) (qi (show Nat.ble (0+1) q.size=true from h3)) (by simp only[Ae,hxf];exact h)
      grind
     grind
    grind
   grind
  grind
 |cvB x=>
  simp only[mOp]at hm;grind[Z1]
 |newA n zero=>
  simp only[mOp]at hm;split at hm
  .rename_i t ho
   simp only[qe]at hm;obtain⟨h1,h2⟩:=hm;split at h1
   .rename_i i hi
    split at h1
    .rename_i z hz
     exact YA r ho hi hz h1 (qi (show Nat.ble (0+1) zero.length=true from h2)) h
    grind
   grind
  grind
 |slA s n x lo hi=>
  simp only[mOp]at hm;split at hm
  .rename_i t x' lo' hi' ho
   simp only[qe]at hm;obtain⟨⟨⟨h1,h2⟩,h3⟩,h4⟩:=hm;split at h4
   .rename_i m e hu
    simp only[qe,beq_iff_eq]at h4;obtain⟨rfl,h5⟩:=h4;split at h5
    .rename_i q hq
     simp only[beq_iff_eq]at h5;subst h5;obtain⟨rfl,hg⟩:=Zcb r ho h1 h2 h3 hu hq h;exact hg.makes r
    grind
   grind
  grind
 |cvS x=>
  simp only[mOp]at hm;split at hm
  .rename_i src dst x' ho
   simp only[qe]at hm;obtain⟨⟨h1,h2⟩,h3⟩:=hm;split at h2
   .rename_i hd
    split at h3
    .rename_i e hs
     split at h3
     .rename_i he
      obtain⟨rfl,hg⟩:=Y6 r ho h1 hs he hd h;exact hg.makes r
     grind
    grind
   grind
  grind
 |clr s zero x=>
  simp only[mOp]at hm;split at hm
  .rename_i x' t ho
   simp only[qe]at hm;obtain⟨⟨h1,h3⟩,h4⟩:=hm;split at h4
   .rename_i e he
    split at h4
    .rename_i q hq
     simp only[qe,beq_iff_eq]at h4;obtain⟨rfl,h5⟩:=h4;split at h5
     .rename_i z hz
      simp only[qe,beq_iff_eq]at h5;exact ZbK r ho h1 (DB he) hq hz h5.2 h5.1 (qi (show Nat.ble (0+1) q.size=true from h3)) h
     grind
    grind
   grind
  grind
 |ldD ag n x=>simp[mOp]at hm
 |mvD x=>simp[mOp]at hm
 |bldD z ps=>simp[mOp]at hm
 |bad=>simp[Ae]at h
 |nn x=>
  simp only[mOp]at hm;split at hm
  .rename_i x' ho
   simp only[Ae]at h;have hu0:u=[]:=by
    grind
   subst hu0;exact(Wt r ho hm h).makes r
  grind
end
section
variable {w w':World}{ω ω':Nat->Nat}{β β':Nat->Option Nat}{L L':Nat->Option Obj}
def Ren (ρ:Nat->Option Nat)(β:Nat->Option Nat)(L:Nat->Option Obj)(β':Nat->Option Nat)(L':Nat->Option Obj):Prop:=
 ∀k j o,ρ k=some j->L k=some o->L' j=some (o.ren ρ)/\β' j=β k
theorem RWlist.rens {ρ:Nat->Option Nat}{d:Nat}(h:∀(x:W)(v:Value),RW w ω β L x v->RW w ω β' L' (x.ren ρ d) v):∀(xs:List W)(vs:List Value),RWlist w ω β L xs vs->RWlist w ω β' L' (xs.map (W.ren ρ d)) vs
 |[],[],_=>by simp[RWlist]
 |[],_::_,h=>by simp[RWlist]at h
 |_::_,[],h=>by simp[RWlist]at h
 |x::xs,v::vs,hr=>by
  simp only[RWlist]at hr;simp only[qv,RWlist];exact⟨h x v hr.1,RWlist.rens h xs vs hr.2⟩
theorem RWcaps.rens {ρ:Nat->Option Nat}{d:Nat}(h:∀(x:W)(v:Value),RW w ω β L x v->RW w ω β' L' (x.ren ρ d) v):∀(ones:List Bool)(caps:List (List W))(vs:List Value),RWcaps w ω β L ones caps vs->RWcaps w ω β' L' ones (caps.map (·.map (W.ren ρ d))) vs
 |[],[],[],_=>by simp[RWcaps]
 |[],[],_::_,h=>by simp[RWcaps]at h
 |[],_::_,_,h=>by simp[RWcaps]at h
 |_::_,[],_,h=>by simp[RWcaps]at h
 |_::_,_::_,[],h=>by simp[RWcaps]at h
 |o::os,r::rs,v::vs,hr=>by
  simp only[RWcaps]at hr;simp only[qv,RWcaps];obtain⟨⟨xs,h1,h2⟩,h3⟩:=hr;exact⟨⟨xs,RWlist.rens h r xs h1,h2⟩,RWcaps.rens h os rs vs h3⟩
theorem RW.rename {ρ:Nat->Option Nat}(hρ:Ren ρ β L β' L'):∀(d:Nat)(x:W)(v:Value),RW w ω β L x v->RW w ω β' L' (x.ren ρ d) v:=by
 intro d
 induction d with
 |zero=>
  intro x v h;cases x<;>simp only[W.ren]
  case c=>exact h
  case nil=>exact h
  case full=>exact h
  case e0=>exact h
  case sk=>exact h
  case un=>simp[RW]
  case clo=>simp[RW]
  case ifw=>simp[RW]
  case arr k n=>
   cases hk:ρ k with
   |none=>simp[RW]
   |some j=>
    simp only[RW]at h |-;obtain⟨s,rows,p,h1,h2,h3,h4⟩:=h;obtain⟨h5,h6⟩:=hρ k j _ hk h1;refine⟨s,_,p,h5,by grind,h3,fun hn=>?_⟩;rcases h4 (by grind)with ⟨b,cap,cur,t,g1,g2,g3,g4⟩|⟨g1,g2,g3⟩
    .exact .inl ⟨b,cap,cur,t,h6.trans g1,g2,g3,g4⟩
    .exact .inr ⟨h6.trans g1,g2,g3⟩
  case vw k M lo n=>
   cases hk:ρ k with
   |none=>simp[RW]
   |some j=>
    simp only[RW]at h |-;obtain⟨s,rows,p,h1,h2,h3,h4⟩:=h;obtain⟨h5,h6⟩:=hρ k j _ hk h1;refine⟨s,_,p,h5,by grind,h3,fun hn hl=>?_⟩;rcases h4 (by grind) hl with g|⟨b,cap,cur,t,g1,g2⟩
    .exact .inl g
    .exact .inr ⟨b,cap,cur,t,h6.trans g1,g2⟩
  case ptr k off=>
   cases hk:ρ k with
   |none=>simp[RW]
   |some j=>
    simp only[RW]at h |-;obtain⟨cells,b,h1,h2,h3⟩:=h;obtain⟨h5,h6⟩:=hρ k j _ hk h1;exact⟨_,b,h5,h6.trans h2,h3⟩
  case el k M i off=>
   cases hk:ρ k with
   |none=>simp[RW]
   |some j=>
    simp only[RW]at h |-;obtain⟨s,rows,p,h1,h2,h3,h4⟩:=h;obtain⟨h5,h6⟩:=hρ k j _ hk h1;refine⟨s,_,p,h5,by grind,h3,fun hn hl=>?_⟩;grind
 |succ d ih=>
  intro x v h;cases x with
  |e0 b=>grind[W.ren]
  |clo f ones caps=>
   grind[W.ren,RW,RWcaps.rens]
  |ifw t one row=>
   grind[W.ren,RW,RWlist.rens]
  |c y=>exact h
  |nil=>exact h
  |full r=>exact h
  |sk=>exact h
  |un=>simp[W.ren,RW]
  |arr k n=>
   grind[W.ren]
  |vw k M lo n=>
   grind[W.ren]
  |ptr k off=>
   grind[W.ren]
  |el k M i off=>
   grind[W.ren]
theorem RV1.rename {ρ:Nat->Option Nat}(hρ:Ren ρ β L β' L'){x:V}{v:Value}(h:RV1 w ω β L x v):RV1 w ω β' L' (x.ren ρ) v:=by
 cases x with
 |sc x=>exact RW.rename hρ deep x v h
 |ag cs=>obtain⟨a,h1,h2⟩:=h;exact⟨a,h1,RWlist.rens (fun x v=>RW.rename hρ deep x v) cs _ h2⟩
 |tu l=>exact h.elim
theorem RVs.rename {ρ:Nat->Option Nat}(hρ:Ren ρ β L β' L'):∀{l:List V}{vs:List Value},RVs w ω β L l vs->RVs w ω β' L' (l.map (V.ren ρ)) vs
 |[],[],_=>trivial
 |[],_::_,h=>h.elim
 |_::_,[],h=>h.elim
 |_::_,_::_,h=>⟨h.1.rename hρ,RVs.rename hρ h.2⟩
theorem RV.rename {ρ:Nat->Option Nat}(hρ:Ren ρ β L β' L'){x:V}{v:Value}(h:RV w ω β L x v):RV w ω β' L' (x.ren ρ) v:=by
 cases x with
 |sc x=>exact RV1.rename (x:=.sc x) hρ h
 |ag x=>exact RV1.rename (x:=.ag x) hρ h
 |tu l=>
  obtain⟨a,h1,h2⟩:=h;have e:V.ren ρ (.tu l)=.tu (l.map fun | .sc w=>.sc (w.ren ρ deep) | .ag cs=>.ag (cs.map (W.ren ρ deep)) | .tu _=>.sc .un):=rfl;rw[e];refine⟨a,h1,?_⟩;have:∀{l:List V} {vs:List Value},RVs w ω β L l vs->RVs w ω β' L' (l.map fun | .sc w=>.sc (w.ren ρ deep) | .ag cs=>.ag (cs.map (W.ren ρ deep)) | .tu _=>.sc .un) vs:=by
   intro l
   induction l with
   |nil=>intro vs h;cases vs with
    |nil=>trivial
    |cons _ _=>exact h.elim
   |cons x l ih=>intro vs h;cases vs with
    |nil=>exact h.elim
    |cons v vs=>
     refine⟨?_,ih h.2⟩;have h3:=h.1;cases x with
     |sc x=>exact RW.rename hρ deep x v h3
     |ag cs=>obtain⟨a,h1,h2⟩:=h3;exact⟨a,h1,RWlist.rens (fun x v=>RW.rename hρ deep x v) cs _ h2⟩
     |tu l=>exact h3.elim
  grind
theorem ZbU {ρ:Nat->Option Nat}{d:Nat}:∀rows:List (List W),(rows.map (·.map (W.ren ρ d))).flatten=rows.flatten.map (W.ren ρ d)
 |[]=>rfl
 |r::rs=>by simp
theorem ObjOk.rename {ρ:Nat->Option Nat}(hρ:Ren ρ β L β' L'){k j:Nat}{o:Obj}(hk:β' j=β k)(h:ObjOk w ω β L k o):ObjOk w ω β' L' j (o.ren ρ):=by
 cases o with
 |box cells=>
  obtain⟨b,cs,t,h1,h2,h3,h4⟩:=h;exact⟨b,cs,t,hk.trans h1,h2,RWlist.rens (fun x v=>RW.rename hρ deep x v) cells _ h3,h4⟩
 |arr s rows p=>
  obtain⟨h1,h2,h3,h4⟩:=h;refine⟨h1,?_,by grind,?_⟩;grind
  .rcases h4 with ⟨b,cap,cur,t,g1,g2,g3,g4,g5,g6,g7⟩|⟨g1,g2⟩
   .refine .inl ⟨b,cap,cur,t,hk.trans g1,g2,g3,by grind,g5,?_,g7⟩
    rw[ZbU,qba];exact RWlist.rens (fun x v=>RW.rename hρ deep x v) _ _ g6
   grind
def CX (β:Nat->Option Nat)(L:Nat->Option Obj)(ω':Nat->Nat)(ids:List Nat):Prop:=
 ∀k∈ids,∀s rows p b,L k=some (.arr s rows p)->β k=some b->rows.length*s<=ω' b
theorem F0 {α γ:Type}{f:α->Option γ}{l:List α}{r:List γ}(h:Ad f l=some r):r.length=l.length:=(FP h).1
theorem NY {b s:Nat}{f:List W->Option (List Cell)}:∀{rows:List (List W)}{css:List (List Cell)}{o:Nat}{vs:List Value},(∀r∈rows,r.length=s)->Ad f rows=some css->
 (∀r∈rows,∀(us:List Value) (cs:List Cell),RWlist w ω β L r us->f r=some cs->RDlist w ω' cs us/\cs.length=r.length)->
 RWlist w ω β L rows.flatten vs->(∀(j:Nat) (u:Value),vs[j]?=some u->at? w b (o+j)=some u/\o+j<ω' b)->RDrows w ω' b s o css
 |[],css,o,vs,_,hf,_,_,_=>by grind[Ad,RDrows]
 |r::rs,css,o,vs,hs,hf,hg,hr,hat=>by
  simp only[Ad]at hf;cases hx:f r with
  |none=>grind
  |some c=>
   simp only[hx]at hf;cases hl:Ad f rs with
   |none=>grind
   |some cs'=>
    simp only[hl,qc]at hf;subst hf;have hrs:r.length=s:=hs r (by simp);have h1:=hr.take s;have h2:=hr.drop s;simp only[qG,<-hrs,qaV]at h1;simp only[qG,<-hrs,List.drop_left']at h2;rw[hrs]at h1 h2;obtain⟨h3,h4⟩:=hg r (by simp) _ c h1 hx;simp only[RDrows];refine⟨h4.trans hrs,RDcells.mk h3 ?_,NY (fun q hq=>hs q (by simp[hq])) hl (fun q hq=>hg q (by simp[hq])) h2 ?_⟩<;>grind
theorem Q6 {f:List W->Option (List Cell)}:∀{ones:List Bool}{caps:List (List W)}{css:List (List Cell)}{vs:List Value},Ad f caps=some css->
 (∀r∈caps,∀(us:List Value) (cs:List Cell),RWlist w ω β L r us->f r=some cs->RDlist w ω' cs us)->RWcaps w ω β L ones caps vs->RDcaps w ω' ones css vs
 |[],[],css,[],hf,_,_=>by grind[Ad,RDcaps]
 |[],[],_,_::_,_,_,h=>by simp[RWcaps]at h
 |[],_::_,_,_,_,_,h=>by simp[RWcaps]at h
 |_::_,[],_,_,_,_,h=>by simp[RWcaps]at h
 |_::_,_::_,_,[],_,_,h=>by simp[RWcaps]at h
 |o::os,r::rs,css,v::vs,hf,hg,h=>by
  simp only[Ad]at hf;cases hx:f r with
  |none=>grind
  |some c=>
   simp only[hx]at hf;cases hl:Ad f rs with
   |none=>grind
   |some cs'=>
    simp only[hl,qc]at hf;subst hf;simp only[RWcaps]at h;obtain⟨⟨xs,h1,h2⟩,h3⟩:=h;simp only[RDcaps];exact⟨⟨xs,hg r (by simp) xs c h1 hx,h2⟩,Q6 hl (fun q hq=>hg q (by grind)) h3⟩
theorem JV (hobj:∀k o,L k=some o->ObjOk w ω β L k o)(g:Grows w ω w ω'):∀(d:Nat)(x:W)(v:Value)(c:Cell),RW w ω β L x v->W.toC L d x=some c->CX β L ω' (W.ids L d x)->RD w ω' c v:=by
 intro d
 induction d with
 |zero=>
  intro x v c h hc _;cases x<;>simp only[W.toC,reduceCtorEq,qc]at hc
  case c=>subst hc;simp only[RW]at h;exact h.grow g
  grind[RW,RD]
  case full=>subst hc;simp only[RW]at h;exact h.1.grow g
  grind[RW,RD]
 |succ d ih=>
  intro x v c h hc hsh;have rowf:∀(r:List W),(∀x∈r,CX β L ω' (W.ids L d x))->∀(us:List Value) (cs:List Cell),RWlist w ω β L r us->Ad (W.toC L d) r=some cs->RDlist w ω' cs us:=by
   intro r
   induction r with
   |nil=>grind[Ad,RDlist,RWlist]
   |cons y ys ihr=>
    intro hs us cs hr hl;cases us<;>grind[RWlist,Ad,RDlist]
  cases x<;>simp only[W.toC,reduceCtorEq,qc]at hc
  case c=>subst hc;simp only[RW]at h;exact h.grow g
  grind[RW,RD]
  case full=>subst hc;simp only[RW]at h;exact h.1.grow g
  case e0=>grind[RW,RD]
  case arr k n=>
   simp only[RW]at h;obtain⟨s,rows,p,h1,h2,h3,h4⟩:=h;simp only[h1]at hc;cases hb:(rows.length==n)with
   |false=>grind
   |true=>
    simp only[hb,cond_true]at hc;have hn:n=rows.length:=(by grind:rows.length=n).symm;subst hn;cases hl:Ad (Ad (W.toC L d)) rows with
    |none=>grind
    |some css=>
     simp only[hl,qp,qc]at hc;subst hc;have hlen:=F0 hl;obtain⟨f1,f2,f3,f4⟩:=hobj k _ h1;simp only[RD];rcases h4 rfl with ⟨b,cap,cur,t,g1,g2,g3,g4⟩|⟨g1,g2,base,g3⟩
     .rcases f4 with ⟨b',cap',cur',t',k2,k3,k4,k5,k6,k7,k8⟩|⟨k2,_⟩
      .rw [g1] at k2;cases k2;rw [g3] at k3;cases k3
       have hcc:cap=cap':=qaq f1 (g4.symm.trans k4);subst hcc;refine⟨_,cap,by rw[hlen];exact g2,by omega,k6,?_⟩;by_cases hne:css=[];grind;right;have hsub:∀r∈rows,∀x∈r,CX β L ω' (W.ids L d x):=by
        intro r hr x hx q hq;refine hsh q ?_;simp only[W.ids,h1,qD,qbe];exact .inr ⟨r,hr,x,hx,hq⟩
       refine⟨b,0,s,rfl,f1,NY f2 hl (fun r hr us cs hru hrc=>⟨rowf r (hsub r hr) us cs hru hrc,F0 hrc⟩) k7 ?_⟩;intro j u hu;rw[qX]at hu;split at hu
       .rename_i hj
        rw[qaw,BO g3,<-qah];refine⟨hu,qab hj ?_⟩;exact hsh k (by simp[W.ids]) s rows p b h1 g1
       grind
      grind
     grind
  case vw k M lo n=>
   simp only[RW]at h;obtain⟨s,rows,p,h1,h2,h3,h4⟩:=h;simp only[h1]at hc;cases hb:(rows.length==M&&Nat.ble (lo+n) M)with
   |false=>grind
   |true=>
    simp only[hb,cond_true]at hc;simp only[qe,beq_iff_eq]at hb;obtain⟨hn,hle⟩:=hb;subst hn;have hle:=qi hle;cases hl:Ad (Ad (W.toC L d)) ((rows.drop lo).take n)with
    |none=>grind
    |some css=>
     simp only[hl,qp,qc]at hc;subst hc;have hlen:=F0 hl;have hlen':css.length=n:=(by grind);obtain⟨f1,f2,f3,f4⟩:=hobj k _ h1;simp only[RD];rcases h4 rfl hle with ⟨g1,base,cap,g2,g3⟩|⟨b,cap,cur,t,g1,g2,g3,g4,g5,g6⟩
     grind
     .rcases f4 with ⟨b',cap',cur',t',k2,k3,k4,k5,k6,k7,k8⟩|⟨k2,_⟩
      .rw [g1] at k2;cases k2;rw [g5] at k3;cases k3
       refine⟨_,cap,by rw[hlen'];exact g2,by omega,g4,?_⟩;by_cases hne:css=[];grind;right;have hsub:∀r∈(rows.drop lo).take n,∀x∈r,CX β L ω' (W.ids L d x):=by
        intro r hr x hx q hq;refine hsh q ?_;grind[W.ids]
       have hd:∀(m:Nat) (rows:List (List W)),(∀r∈rows,r.length=s)->(rows.drop m).flatten=rows.flatten.drop (m*s):=by
        intro m
        induction m with
        |zero=>simp
        |succ m ihm=>
         intro rows hrs;cases rows with
         |nil=>simp
         |cons x xs=>
          rw[qaL,ihm xs (fun r hr=>hrs r (by grind)),qG];have hx:=hrs x (by simp);rw[show(m+1)*s=x.length+m*s from by grind,<-List.drop_drop];simp
       have ht:∀(m:Nat) (rows:List (List W)),(∀r∈rows,r.length=s)->(rows.take m).flatten=rows.flatten.take (m*s):=by
        intro m
        induction m with
        |zero=>simp
        |succ m ihm=>
         intro rows hrs;cases rows with
         |nil=>simp
         |cons x xs=>
          rw[qaM,qG,ihm xs (fun r hr=>hrs r (by grind)),qG];grind[qaH]
       have hyf:RWlist w ω β L ((rows.drop lo).take n).flatten (((cur.toList.take (rows.length*s)).drop (lo*s)).take (n*s)):=by
        rw[ht _ _ (fun r hr=>f2 r (List.mem_of_mem_drop hr)),hd _ _ f2];exact(k7.drop _).take _
       refine⟨b,lo*s,s,rfl,f1,NY (fun r hr=>f2 r (List.mem_of_mem_drop (q8 hr))) hl (fun r hr us cs hru hrc=>⟨rowf r (hsub r hr) us cs hru hrc,F0 hrc⟩) hyf ?_⟩;intro j u hu;rw[qX]at hu;split at hu
       .rw [qac,qX] at hu
        split at hu
        .rename_i hj
         rw[BO g5,<-qah];refine⟨hu,qab hj ?_⟩;exact hsh k (by simp[W.ids]) s rows p b h1 g1
        grind
       grind
      grind
  case clo f ones caps=>
   simp only[RW]at h;obtain⟨cs,h1,h2⟩:=h;cases hl:Ad (Ad (W.toC L d)) caps with
   |none=>grind
   |some css=>
    simp only[hl,qp,qc]at hc;subst hc;simp only[RD];refine⟨cs,h1,Q6 hl (fun r hr us cs hru hrc=>rowf r (fun x hx q hq=>hsh q ?_) us cs hru hrc) h2⟩;grind[W.ids]
  case ifw t one row=>
   simp only[RW]at h;obtain⟨x,vs,h1,h2,h3⟩:=h;cases hl:Ad (W.toC L d) row with
   |none=>grind
   |some cs=>
    simp only[hl,qp,qc]at hc;subst hc;simp only[RD];refine⟨x,vs,h1,rowf row (fun x hx q hq=>hsh q ?_) vs cs h2 hl,h3⟩;grind[W.ids]
end
def Lof (objs:List Obj):Nat->Option Obj:=fun k=>objs[k]?
def QH (P : Program) (f : FuncId) : Prop := ∃ fn, P.funcs[f]? = some fn ∧ fn.body.isSome = true ∧ (fn.name == "runtime.NumGoroutine") = false
def FnOk (P:Program)(GL:Nat->List Cell)(f:FuncId)(args:List V)(objs:List Obj)(rv:V)(objs':List Obj):Prop:=
 QH P f/\∀(w:World) (ω:Nat->Nat) (β:Nat->Option Nat) (cargs:Array Value),(∀g,RDcells w ω g 0 (GL g))->RVs w ω β (Lof objs) args cargs.toList->
  (∀k o,Lof objs k=some o->ObjOk w ω β (Lof objs) k o)->
  (∀j k b,Lof objs j≠none->Lof objs k≠none->β j=some b->β k=some b->j=k)->
  Calls P f cargs w fun e w'=>∃vv ω' β',e=.returned vv/\RV w' ω' β' (Lof objs') rv vv/\
   (∀k o,Lof objs' k=some o->ObjOk w' ω' β' (Lof objs') k o)/\
   (∀j k b,Lof objs' j≠none->Lof objs' k≠none->β' j=some b->β' k=some b->j=k)/\
   Keeps w ω (fun b=>∃k,Lof objs k≠none/\β k=some b) w' ω'/\
   (∀k b,Lof objs' k≠none->β' k=some b->(∃j,Lof objs j≠none/\β j=some b)\/w.heap.size<=b)/\
   (∀k,Tr w β w' β' (Lof objs) (Lof objs') k)
def Dk (P:Program)(C:Ctx):Prop:=∀f args objs rv objs',C.call f args objs=some (rv,objs')->FnOk P C.gl f args objs rv objs'
section
variable {P:Program}{C:Ctx}{N:Nat}{w0:World}{ω0:Nat->Nat}{S:Fr}{E:Nat->Option V}{L:Nat->Option Obj}{a:Act}{w:World}{ω:Nat->Nat}{β:Nat->Option Nat}
variable {o:Oper}{v:V}
theorem JH (l:List Nat):∀k,k∈nubs l↔k∈l:=by
 induction l<;>grind[nubs]
theorem Zc4 (l:List Nat):(nubs l).Nodup:=by
 induction l<;>grind[nubs]
theorem MS (L:Nat->Option Obj)(ks:List Nat):(An L ks).Nodup:=by
 unfold An;split;simp
 .exact Zc4 _
theorem IW:∀{l:List Nat}{k i:Nat},AN l k=some i->l[i]?=some k
 |[],_,_,h=>by simp[AN]at h
 |j::r,k,i,h=>by
  simp only[AN]at h;cases hb:(j==k)with
  |true=>
   grind
  |false=>
   simp only[hb,cond_false]at h;cases hr:AN r k with
   |none=>grind
   |some q=>
    simp only[hr,qp,qc]at h;subst h;simpa using IW hr
theorem JG:∀{l:List Nat},l.Nodup->∀{i j k:Nat},l[i]?=some k->l[j]?=some k->i=j
 |[],_,i,j,k,h,_=>by grind
 |x::l,hn,i,j,k,hi,hj=>by
  obtain⟨hx,hn⟩:=qbk.1 hn;cases i with
  |zero=>grind
  |succ i=>cases j with
   |zero=>
    grind
   |succ j=>exact congrArg (· + 1) (JG hn (by simpa using hi) (by grind))
theorem HK (r:Rel C.gl N w0 ω0 S E L a w ω β):∀ds:List Nat,∃ω',Grows w ω w ω'/\(∀k∈ds,∀s rows p b,L k=some (.arr s rows p)->β k=some b->ω' b=rows.length*s)/\
 (∀b,(∀k∈ds,∀s rows p,L k=some (.arr s rows p)->β k≠some b)->ω' b=ω b)
 |[]=>⟨ω,Grows.refl w ω,by simp,fun _ _=>rfl⟩
 |k::ds=>by
  obtain⟨ω',g,h1,h2⟩:=HK r ds;cases hL:L k with
  |none=>
   grind
  |some ob=>cases ob with
   |box cells=>
    grind
   |arr s rows p=>
    cases hβ:β k with
    |none=>
     grind
    |some b0=>
     refine⟨setN ω' b0 (rows.length*s),⟨fun b i hi v hv=>⟨hv,?_⟩⟩,fun j hj s' rows' p' b hLj hb=>?_,fun b hb=>?_⟩
     .by_cases hbb:b=b0
      .subst hbb
       simp only[setN,if_true];obtain⟨f1,f2,f3,f4⟩:=r.obj k _ hL;rcases f4 with ⟨b',cap,cur,t,k2,k3,k4,k5,k6,k7,k8⟩|⟨k2,_⟩
       .rw [hβ] at k2;cases k2
        have:p*s<=rows.length*s:=qQ _ f3;omega
       grind
      .simp only [setN,hbb,if_false]
       exact(g.pub b i hi v hv).2
     .by_cases hbb:b=b0
      .subst hbb
       have:=r.inj j k b (by grind) (by grind) hb hβ;grind[setN]
      grind[setN]
     grind[setN]
theorem TA {all:List Nat}:∀{ds:List Nat}{p:Upd}{M:Nat->Option Obj},Bg L all ds=some p->
 (∀k,k∉ds->updL M p k=M k)/\(∀k∈ds,∃s rows q cs,L k=some (.arr s rows q)/\Ad (Ad (W.toC L deep)) rows=some cs/\updL M p k=some (.arr s (cs.map (·.map W.c)) rows.length)/\
   ∀r∈rows,∀x∈r,∀j∈W.ids L deep x,j∈all)
 |[],p,M,h=>by simp[Bg]at h;subst h;exact⟨fun _ _=>rfl,by simp⟩
 |k::ds,p,M,h=>by
  simp only[Bg]at h;cases hL:L k with
  |none=>grind
  |some ob=>cases ob with
   |box _=>grind
   |arr s rows q=>
    simp only[hL]at h;cases hc:Ad (Ad (W.toC L deep)) rows with
    |none=>grind
    |some cs=>
     simp only[hc]at h;cases hb:rows.all (fun q=>q.all fun x=>(W.ids L deep x).all fun j=>all.contains j)with
     |false=>grind
     |true=>
      rw[hb]at h;simp only[cond_true]at h;cases hp:Bg L all ds with
      |none=>grind
      |some p'=>
       simp only[hp,qp,qc]at h;subst h;obtain⟨h1,h2⟩:=TA (M:=updO M k (some (.arr s (cs.map (·.map W.c)) rows.length))) hp;have hin:∀r∈rows,∀x∈r,∀j∈W.ids L deep x,j∈all:=by
        intro r hr x hx j hj;have h3:=qx.1 hb r hr;grind
       simp only[updL];grind[DD,B0]
theorem Ol:∀{ids:List Nat}{os:List Obj}{M:Nat->Option Obj},ids.Nodup->ids.length<=os.length->(∀k,k∉ids->updL M (BC ids os) k=M k)/\(∀(i:Nat)(k:Nat)(o:Obj),ids[i]?=some k->os[i]?=some o->updL M (BC ids os) k=some o)
 |[],os,M,_,_=>by simp[BC,updL]
 |k::ids,[],M,_,h=>by grind
 |k::ids,o::os,M,hn,hl=>by
  obtain⟨hk,hn⟩:=qbk.1 hn;obtain⟨h1,h2⟩:=Ol (M:=updO M k (some o)) hn (by simpa using hl);simp only[BC,updL];grind[DD,B0]
def ArgsOk (w:World)(ω:Nat->Nat)(β:Nat->Option Nat)(L:Nat->Option Obj):List (Bool×V)->List Value->Prop
 |[],[]=>True
 |x::xs,v::vs=>RV w ω β L x.2 v/\ArgsOk w ω β L xs vs
 |_,_=>False
theorem ArgsOk.append:∀{xs ys:List (Bool×V)}{vs us:List Value},ArgsOk w ω β L xs vs->ArgsOk w ω β L ys us->ArgsOk w ω β L (xs++ys) (vs++us)
 |[],_,[],_,_,h=>h
 |[],_,_::_,_,h,_=>h.elim
 |_::_,_,[],_,h,_=>h.elim
 |_::_,_,_::_,_,h,h'=>⟨h.1,ArgsOk.append h.2 h'⟩
theorem KU {ω':Nat->Nat}(hobj:∀k o,L k=some o->ObjOk w ω β L k o)(g:Grows w ω w ω'){d:Nat}:∀{cs:List W}{vs:List Value}{l:List Cell},RWlist w ω β L cs vs->Ad (W.toC L d) cs=some l->CX β L ω' (cs.flatMap (W.ids L d))->RDlist w ω' l vs
 |[],[],l,_,h,_=>by grind[Ad,RDlist]
 |[],_::_,_,h,_,_=>by simp[RWlist]at h
 |_::_,[],_,h,_,_=>by simp[RWlist]at h
 |x::xs,v::vs,l,hr,h,hs=>by
  simp only[RWlist]at hr;simp only[Ad]at h;cases hx:W.toC L d x with
  |none=>grind
  |some c=>
   simp only[hx]at h;cases hl:Ad (W.toC L d) xs with
   |none=>grind
   |some l'=>
    simp only[hl,qc]at h;subst h;simp only[RDlist];exact⟨JV hobj g d x v c hr.1 hx fun k hk=>hs k (by grind),
     KU hobj g hr.2 hl fun k hk=>hs k (by grind)⟩
theorem KR {ω':Nat->Nat}(hobj:∀k o,L k=some o->ObjOk w ω β L k o)(g:Grows w ω w ω'){x d:V}{v:Value}(h:RV w ω β L x v)(hd:x.toD L=some d)(hs:CX β L ω' (x.cells.flatMap (W.ids L deep))):
 ∀(β':Nat->Option Nat) (L':Nat->Option Obj),RV1 w ω' β' L' d v:=by
 intro β' L';cases x with
 |sc x=>
  simp only[V.toD]at hd;cases hc:W.toC L deep x with
  |none=>grind
  |some c=>
   simp only[hc,qp,qc]at hd;subst hd;simp only[RV1,RW];exact JV hobj g deep x v c h hc (by simpa[V.cells]using hs)
 |ag cs=>
  simp only[V.toD]at hd;cases hc:Ad (W.toC L deep) cs with
  |none=>grind
  |some l=>
   simp only[hc,qp,qc]at hd;subst hd;obtain⟨arr,h1,h2⟩:=h;exact⟨arr,h1,RDlist.to (KU hobj g h2 hc hs)⟩
 |tu l=>simp[V.toD]at hd
theorem QW {ω':Nat->Nat}(hobj:∀k o,L k=some o->ObjOk w ω β L k o)(g:Grows w ω w ω')(β':Nat->Option Nat)(L':Nat->Option Obj):∀{cs l:List W}{us:List Value},RWlist w ω β L cs us->Ad (W.toR L) cs=some l->
 CX β L ω' (cs.flatMap (W.ids L deep))->RWlist w ω' β' L' l us
 |[],l,[],_,h,_=>by simp only[Ad,qc]at h;subst h;trivial
 |[],_,_::_,hr,_,_=>by simp[RWlist]at hr
 |_::_,_,[],hr,_,_=>by simp[RWlist]at hr
 |x::cs,l,u::us,hr,h,hs=>by
  simp only[Ad]at h;simp only[RWlist]at hr;cases hx:W.toR L x with
  |none=>grind
  |some y=>
   simp only[hx]at h;cases hl:Ad (W.toR L) cs with
   |none=>grind
   |some l'=>
    simp only[hl,qc]at h;subst h;simp only[RWlist];refine⟨?_,QW hobj g β' L' hr.2 hl fun k hk=>hs k (by grind)⟩;have fin:∀c,W.toC L deep x=some c->y=.c c->RW w ω' β' L' y u:=by
     intro c hc hy;subst hy;simp only[RW];exact JV hobj g deep x u c hr.1 hc fun k hk=>hs k (by grind)
    grind[W.toR,RW,qo]
theorem TD {ω':Nat->Nat}(hobj:∀k o,L k=some o->ObjOk w ω β L k o)(g:Grows w ω w ω'){x d:V}{v:Value}(h:RV w ω β L x v)(hd:x.toR L=some d)(hs:CX β L ω' (x.cells.flatMap (W.ids L deep))):
 ∀(β':Nat->Option Nat) (L':Nat->Option Obj),RV1 w ω' β' L' d v:=by
 intro β' L';cases x with
 |sc x=>
  cases x with
  |full rows=>
   simp only[V.toR,qc]at hd;subst hd;have h':RW w ω β L (.full rows) v:=h;simp only[RW]at h';simp only[RV1,RW];exact⟨h'.1.grow g,h'.2⟩
  |_=>exact KR hobj g (x:=.sc _) h hd hs β' L'
 |ag cs=>
  simp only[V.toR]at hd;obtain⟨l,hl,rfl⟩:=qo.1 hd;obtain⟨arr,h1,h2⟩:=h;exact⟨arr,h1,QW hobj g β' L' h2 hl hs⟩
 |tu l=>simp[V.toR]at hd
theorem Jw {ω':Nat->Nat}(hobj:∀k o,L k=some o->ObjOk w ω β L k o)(g:Grows w ω w ω'):∀{xs:List (Bool×V)}{cvs:List Value}{vs:List V}{ds rs:List Nat},ArgsOk w ω β L xs cvs->AQ L xs=some (vs,ds,rs)->
 CX β L ω' ds->RVs w ω' β L vs cvs
 |[],[],vs,ds,rs,_,h,_=>by simp[AQ]at h;obtain⟨rfl,_,_⟩:=h;trivial
 |[],_::_,_,_,_,h,_,_=>h.elim
 |_::_,[],_,_,_,h,_,_=>h.elim
 |(true,x)::xs,cv::cvs,vs,ds,rs,hr,h,hs=>by
  have h1:RV w ω' β L x cv:=RV.step g (fun k=>Tr.refl k) hr.1;cases hq:AQ L xs with
  |none=>cases x<;>simp[AQ,hq]at h
  |some q=>
   obtain⟨vs',ds',rs'⟩:=q;cases x with
   |tu l=>simp[AQ]at h
   |sc x=>
    simp only[AQ,hq,qc,qh]at h;obtain⟨rfl,rfl,rfl⟩:=h;exact⟨h1,Jw hobj g hr.2 hq hs⟩
   |ag x=>
    simp only[AQ,hq,qc,qh]at h;obtain⟨rfl,rfl,rfl⟩:=h;exact⟨h1,Jw hobj g hr.2 hq hs⟩
 |(false,x)::xs,cv::cvs,vs,ds,rs,hr,h,hs=>by
  simp only[AQ]at h;split at h
  .rename_i d vs' ds' rs' hd hq
   simp only[qc,qh]at h;obtain⟨rfl,rfl,rfl⟩:=h;exact⟨KR hobj g hr.1 hd (fun k hk=>hs k (by grind)) β L,Jw hobj g hr.2 hq fun k hk=>hs k (by grind)⟩
  grind
end
section
variable {P:Program}{C:Ctx}{N:Nat}{w0:World}{ω0:Nat->Nat}{S:Fr}{E:Nat->Option V}{L:Nat->Option Obj}{a:Act}{w:World}{ω:Nat->Nat}{β:Nat->Option Nat}
variable {o:Oper}{v:V}
theorem TJ:∀{l:List Nat}{k:Nat},k∉l->AN l k=none
 |[],_,_=>rfl
 |j::r,k,h=>by
  simp only[qD,not_or]at h;have hb:(j==k)=false:=by grind
  simp[AN,hb,TJ h.2]
theorem T6:∀{l:List Nat}{k:Nat},k∈l->∃i,AN l k=some i
 |[],_,h=>by grind
 |j::r,k,h=>by
  simp only[AN];cases hb:(j==k)with
  |true=>simp
  |false=>
   simp only[qD]at h;have hne:j≠k:=(by grind);obtain⟨i,hi⟩:=T6 (h.resolve_left (fun e=>hne e.symm));grind
theorem UH {l:List Nat}(hn:l.Nodup){i k:Nat}(h:l[i]?=some k):AN l k=some i:=by
 obtain⟨j,hj⟩:=T6 (qd h);have:=JG hn (IW hj) h;grind
theorem Lr (oid:Nat):∀(n i:Nat),(AY oid i n).length=n/\(∀k∈AY oid i n,oid+i<=k)/\(AY oid i n).Nodup
 |0,i=>by simp[AY]
 |n+1,i=>by
  obtain⟨h1,h2,h3⟩:=Lr oid n (i+1);grind[AY]
theorem RH {ω':Nat->Nat}{f:List W->Option (List Cell)}:∀{rows:List (List W)}{css:List (List Cell)}{vs:List Value},Ad f rows=some css->(∀r∈rows,∀(us:List Value)(cs:List Cell),RWlist w ω β L r us->f r=some cs->RDlist w ω' cs us)->
 RWlist w ω β L rows.flatten vs->RDlist w ω' css.flatten vs
 |[],css,vs,h,_,hr=>by
  grind[Ad,RDlist,RWlist]
 |r::rs,css,vs,h,hg,hr=>by
  simp only[Ad]at h;cases hx:f r with
  |none=>grind
  |some c=>
   simp only[hx]at h;cases hl:Ad f rs with
   |none=>grind
   |some cs'=>
    simp only[hl,qc]at h;subst h;have h1:=hr.take r.length;have h2:=hr.drop r.length;simp only[qG,qaV]at h1;simp only[qG,List.drop_left']at h2;have h3:=hg r (by simp) _ c h1 hx;have h4:=RH hl (fun q hq=>hg q (by grind)) h2;have h5:=RWlist.append (RDlist.to (β:=β) (L:=L) h3) (RDlist.to h4);rw[<-qaD,qaS]at h5;exact RDlist.of h5
theorem Mz {x:W}{vv:Value}(hf:Bh x=true)(h:RW w ω β L x vv)(w':World)(ω':Nat->Nat)(β':Nat->Option Nat)(L':Nat->Option Obj):RW w' ω' β' L' x vv:=by
 unfold Bh at hf;grind[RW,RD]
theorem MD {w':World}{ω':Nat->Nat}{β':Nat->Option Nat}{L':Nat->Option Obj}:∀{xs:List W}{vs:List Value},xs.all Bh=true->RWlist w ω β L xs vs->RWlist w' ω' β' L' xs vs
 |[],[],_,_=>by simp[RWlist]
 |[],_::_,_,h=>by simp[RWlist]at h
 |_::_,[],_,h=>by simp[RWlist]at h
 |x::xs,v::vs,hf,h=>by
  simp only[qa0,qe]at hf;simp only[RWlist]at h |-;exact⟨Mz hf.1 h.1 _ _ _ _,MD hf.2 h.2⟩
theorem Xu {x:V}{vv:Value}(hf:CQ x=true)(h:RV w ω β L x vv)(w':World)(ω':Nat->Nat)(β':Nat->Option Nat)(L':Nat->Option Obj):RV w' ω' β' L' x vv:=by
 cases x with
 |sc x=>exact Mz hf h _ _ _ _
 |ag cs=>obtain⟨a,h1,h2⟩:=h;exact⟨a,h1,MD hf h2⟩
 |tu l=>
  obtain⟨a,h1,h2⟩:=h;refine⟨a,h1,?_⟩;simp only[CQ]at hf;generalize a.toList=vs at h2;clear h1
  induction l generalizing vs with
  |nil=>cases vs with
   |nil=>trivial
   |cons _ _=>exact h2.elim
  |cons x l ih=>cases vs with
   |nil=>exact h2.elim
   |cons v vs=>
    simp only[qa0,qe]at hf;refine⟨?_,ih hf.2 vs h2.2⟩;have h3:=h2.1;have h4:=hf.1;cases x with
    |sc x=>exact Mz h4 h3 _ _ _ _
    |ag cs=>obtain⟨a,h1,h2⟩:=h3;exact⟨a,h1,MD h4 h2⟩
    |tu l=>grind
theorem PQ:∀{ones:List Bool}{caps:List (List Cell)}{cs:List Value},RDcaps w ω ones caps cs->
 ArgsOk w ω β L ((ones.zip caps).map fun(o,cs)=>(false,match o,cs with | true,[x]=>V.sc (.c x) | _,cs=>V.ag (cs.map W.c))) cs
 |[],[],[],_=>trivial
 |[],[],_::_,h=>by simp[RDcaps]at h
 |[],_::_,_,h=>by simp[RDcaps]at h
 |_::_,[],_,h=>by simp[RDcaps]at h
 |_::_,_::_,[],h=>by simp[RDcaps]at h
 |o::os,r::rs,v::vs,h=>by
  simp only[RDcaps]at h;obtain⟨⟨xs,h1,h2⟩,h3⟩:=h;simp only[List.zip_cons_cons,qv];refine⟨?_,PQ h3⟩;cases o with
  |true=>
   simp only[C5]at h2;subst h2;have hl:=h1.length
   match r,h1,hl with
   |[c],h1,_=>
    grind[RDlist,RV,RV1,RW]
  |false=>
   simp only[C5]at h2;subst h2;cases r with
   |nil=>exact⟨_,rfl,RDlist.to h1⟩
   |cons c r=>exact⟨_,rfl,RDlist.to h1⟩
theorem Sa:∀{ones:List Bool}{caps:List (List W)}{cs:List Value},RWcaps w ω β L ones caps cs->
 ArgsOk w ω β L ((ones.zip caps).map fun(o,cs)=>(true,match o,cs with | true,[w]=>V.sc w | _,cs=>V.ag cs)) cs
 |[],[],[],_=>trivial
 |[],[],_::_,h=>by simp[RWcaps]at h
 |[],_::_,_,h=>by simp[RWcaps]at h
 |_::_,[],_,h=>by simp[RWcaps]at h
 |_::_,_::_,[],h=>by simp[RWcaps]at h
 |o::os,r::rs,v::vs,h=>by
  simp only[RWcaps]at h;obtain⟨⟨xs,h1,h2⟩,h3⟩:=h;simp only[List.zip_cons_cons,qv];refine⟨?_,Sa h3⟩;cases o with
  |true=>
   simp only[C5]at h2;subst h2;have hl:=h1.length
   match r,h1,hl with
   |[c],h1,_=>
    grind[RWlist,RV,RV1]
  |false=>
   simp only[C5]at h2;subst h2;cases r with
   |nil=>exact⟨_,rfl,h1⟩
   |cons c r=>exact⟨_,rfl,h1⟩
theorem Vm {f:V}{fv:Value}{g:FuncId}{caps:List (Bool×V)}(hf:RV w ω β L f fv)(h:Dc f=some (g,caps)):∃cs:Array Value,fv=.func (.func g) #[] cs/\ArgsOk w ω β L caps cs.toList:=by
 unfold Dc at h;split at h
 .simp only [qc,qh] at h
  obtain⟨rfl,rfl⟩:=h;simp only[RV,RV1,RW,RD]at hf;obtain⟨cs,h1,h2⟩:=hf;exact⟨cs,h1,PQ h2⟩
 grind[RV,RV1,RW,Sa];grind
theorem TN (r:Rel C.gl N w0 ω0 S E L a w ω β){ids fresh ds:List Nat}{os os':List Obj}{ρ:Nat->Option Nat}(hρ:ρ=AN ids)(hnd:ids.Nodup)(hos:Ad L ids=some os)
 {ω1:Nat->Nat}(g1:Grows w ω w ω1) (p1:∀k∈ds,∀s rows p b,L k=some (.arr s rows p)->β k=some b->ω1 b=rows.length*s) (p2:∀b,(∀k∈ds,∀s rows p,L k=some (.arr s rows p)->β k≠some b)->ω1 b=ω b)
 (hfr:fresh.Nodup) (hfl:ids.length+fresh.length=os'.length) (hfn:∀k∈fresh,L k=none)
 {w':World}{ω':Nat->Nat}{β':Nat->Option Nat}
 (hobj:∀k o,Lof os' k=some o->ObjOk w' ω' β' (Lof os') k o)
 (hinj:∀j k b,Lof os' j≠none->Lof os' k≠none->β' j=some b->β' k=some b->j=k)
 (keeps:Keeps w ω1 (fun b=>∃k,Lof (os.map (Obj.ren ρ)) k≠none/\(ids[k]?).bind β=some b) w' ω')
 (mine:∀k b,Lof os' k≠none->β' k=some b->(∃j,Lof (os.map (Obj.ren ρ)) j≠none/\(ids[j]?).bind β=some b)\/w.heap.size<=b)
 (tr:∀k,Tr w (fun i=>(ids[i]?).bind β) w' β' (Lof (os.map (Obj.ren ρ))) (Lof os') k)
 {p:Upd}(hp:Bg L ds ds=some p):
 ∃β2,Rel C.gl N w0 ω0 S E (updL L (p++BC (ids++fresh) (os'.map (Obj.ren fun i=>(ids++fresh)[i]?)))) a w' ω' β2/\
  Ren (fun i=>(ids++fresh)[i]?) β' (Lof os') β2 (updL L (p++BC (ids++fresh) (os'.map (Obj.ren fun i=>(ids++fresh)[i]?)))):=by
 subst hρ;obtain⟨hol,hog⟩:=FP hos;have hidL:∀k∈ids,∃(i:Nat) (o:Obj),ids[i]?=some k/\os[i]?=some o/\L k=some o:=by
  grind[qax]
 have hall:(ids++fresh).Nodup:=by
  grind
 have hlen:(ids++fresh).length=os'.length:=by grind
 generalize hσ:(fun(i:Nat)=>(ids++fresh)[i]?)=σ;have hσi:∀(i:Nat),σ i=(ids++fresh)[i]?:=fun i=>by grind
 obtain⟨q1,q2⟩:=TA (M:=L) hp;obtain⟨u1,u2⟩:=Ol (ids:=ids++fresh) (os:=os'.map (Obj.ren σ)) (M:=updL L p) hall (by grind);generalize hL2:updL L (p++BC (ids++fresh) (os'.map (Obj.ren σ)))=L2;have hL2':L2=updL (updL L p) (BC (ids++fresh) (os'.map (Obj.ren σ))):=by grind[Hn]
 have f1:∀(i k:Nat),(ids++fresh)[i]?=some k->∃o',os'[i]?=some o'/\L2 k=some (o'.ren σ):=by
  intro i k hi;have hlt:i<os'.length:=by grind
  refine⟨os'[i],by simp,?_⟩;rw[hL2'];grind
 have f2:∀k,k∉ids++fresh->k∈ds->∃s rows q cs,L k=some (.arr s rows q)/\Ad (Ad (W.toC L deep)) rows=some cs/\L2 k=some (.arr s (cs.map (·.map W.c)) rows.length)/\∀r∈rows,∀x∈r,∀j∈W.ids L deep x,j∈ds:=by
  simp_all
 have f3:∀k,k∉ids++fresh->k∉ds->L2 k=L k:=by
  simp_all
 let β2:Nat->Option Nat:=fun k=>match AN (ids++fresh) k with | some i=>β' i | none=>β k
 have b1:∀(i k:Nat),(ids++fresh)[i]?=some k->β2 k=β' i:=by
  intro i k hi;simp only[β2,UH hall hi]
 have b2:∀k,k∉ids++fresh->β2 k=β k:=by
  grind[TJ]
 have hren:Ren σ β' (Lof os') β2 L2:=by
  intro i k o' hi ho;grind[Lof]
 have hlo:∀(i k:Nat) (o:Obj),ids[i]?=some k->os[i]?=some o->Lof (os.map (Obj.ren (AN ids))) i=some (o.ren (AN ids)):=by
  grind[Lof]
 have hSc:∀b,(∃k,Lof (os.map (Obj.ren (AN ids))) k≠none/\(ids[k]?).bind β=some b)->∃k,k∈ids/\L k≠none/\β k=some b:=by
  grind
 have idx:∀k,k∈ids->∃(i:Nat),(ids++fresh)[i]?=some k/\ids[i]?=some k:=by
  grind
 have dsblk:∀k b,k∉ids++fresh->k∈ds->L k≠none->β k=some b->w'.heap[b]?=w.heap[b]?/\ω' b=ω1 b:=by
  intro k b hk hd hLk hb;refine keeps.same b (r.blt hLk hb) fun hc=>?_;obtain⟨j,hj,hLj,hbj⟩:=hSc b hc;have:=r.inj j k b hLj hLk hbj hb;grind
 refine⟨β2,(r.step (fun k=>k∈ids++fresh\/k∈ds) (g1.trans keeps.grows) keeps.size keeps.os keeps.tape keeps.output ?_ ?_ ?_ ?_ ?_ ?_).1,hren⟩
 .intro b hb hC
  have h1:=keeps.same b hb fun hc=>by
   grind
  grind
 grind
 .intro k hk
  by_cases hka:k∈ids++fresh
  .by_cases hki:k∈ids
   .obtain ⟨i,hi1,hi2⟩:=idx k hki
    obtain⟨o,h1,h2⟩:=hog i k hi2;have ht:=tr i;unfold Tr at ht |-;rw[hlo i k o hi2 h1]at ht;rw[h2];have hbi:(ids[i]?).bind β=β k:=(by grind);cases o with
    |box cs=>
     obtain⟨⟨cs',h3,h4⟩,h5⟩:=ht;obtain⟨o',h6,h7⟩:=f1 i k hi1;simp only[Lof]at h3;rw[h6]at h3;cases h3;exact⟨⟨_,h7,by grind⟩,(b1 i k hi1).trans (h5.trans hbi)⟩
    |arr s rows q=>
     obtain⟨rows',q',h3,h4,h5⟩:=ht;obtain⟨o',h6,h7⟩:=f1 i k hi1;simp only[Lof]at h3;rw[h6]at h3;cases h3;refine⟨_,q',h7,by grind,fun e=>?_⟩;grind
   grind[Tr]
  grind[Tr,F0]
 .intro trall k hk o2 ho2
  by_cases hka:k∈ids++fresh
  .obtain ⟨i,hi⟩:=qax hka
   obtain⟨o',h6,h7⟩:=f1 i k hi;rw[h7]at ho2;cases ho2;exact(hobj i o' h6).rename hren (b1 i k hi)
  .have hkd:=hk.resolve_left hka
   obtain⟨s,rows,q,cs,h1,h2,h3,h4⟩:=f2 k hka hkd;rw[h3]at ho2;cases ho2;have hl:=F0 h2;have hrow:∀r∈cs,r.length=s:=by
    intro x hx;obtain⟨i,hi⟩:=qax hx;have hlt:i<rows.length:=(by grind);obtain⟨y,h5,h6⟩:=(FP h2).2 i rows[i] (by simp);rw[hi]at h5;cases h5;rw[F0 h6];exact(r.obj k _ h1).2.1 _ (List.getElem_mem hlt)
   obtain⟨e1,e2,e3,e4⟩:=r.obj k _ h1;refine⟨e1,?_,by grind,?_⟩;grind
   .rcases e4 with ⟨b,cap,cur,t,k2,k3,k4,k5,k6,k7,k8⟩|⟨k2,k3⟩
    .obtain ⟨d1,d2⟩:=dsblk k b hka hkd (by grind) k2
     refine .inl ⟨b,cap,cur,t,(b2 k hka).trans k2,d1.trans k3,k4,by grind,k6,?_,?_⟩
     .have hrd:RDlist w ω1 cs.flatten (cur.toList.take (rows.length*s)):=by
       refine RH (w:=w) (ω:=ω) (β:=β) (L:=L) h2 (fun x hx us ys hru hry=>?_) k7;refine KU r.obj g1 hru hry ?_;intro j hj;grind
      have h5:=RDlist.to (β:=β2) (L:=L2) (RDlist.grow keeps.grows cs.flatten hrd);grind
     grind
    grind
 .intro k hk b hLk hb
  by_cases hka:k∈ids++fresh
  .obtain ⟨i,hi⟩:=qax hka
   obtain⟨o',h6,h7⟩:=f1 i k hi;rw[b1 i k hi]at hb;rcases mine i b (by simp[Lof,h6]) hb with hc|hc
   .obtain ⟨j,hj,hLj,hbj⟩:=hSc b hc
    exact .inl ⟨j,.inl (by simp[hj]),hLj,hbj⟩
   .exact .inr hc
  grind
 .intro j k b hj hk hLj hLk hbj hbk
  by_cases hja:j∈ids++fresh<;>by_cases hka:k∈ids++fresh;grind[qax,Lof]
  .have hkd:=hk.resolve_left hka
   obtain⟨s,rows,q,cs,hL1,_⟩:=f2 k hka hkd;have hLk':L k≠none:=(by grind);obtain⟨i1,hi1⟩:=qax hja;obtain⟨o1,h1,_⟩:=f1 i1 j hi1;rw[b1 i1 j hi1]at hbj;rw[b2 k hka]at hbk;rcases mine i1 b (by simp[Lof,h1]) hbj with hc|hc
   .obtain ⟨j',hj',hLj',hbj'⟩:=hSc b hc
    have:=r.inj j' k b hLj' hLk' hbj' hbk;grind
   .exact absurd (r.blt hLk' hbk) (by omega)
  .have hjd:=hj.resolve_left hja
   obtain⟨s,rows,q,cs,hL1,_⟩:=f2 j hja hjd;have hLj':L j≠none:=(by grind);obtain⟨i1,hi1⟩:=qax hka;obtain⟨o1,h1,_⟩:=f1 i1 k hi1;rw[b1 i1 k hi1]at hbk;rw[b2 j hja]at hbj;rcases mine i1 b (by simp[Lof,h1]) hbk with hc|hc
   .obtain ⟨j',hj',hLj'',hbj'⟩:=hSc b hc
    have:=r.inj j' j b hLj'' hLj' hbj' hbj;grind
   .exact absurd (r.blt hLj' hbj) (by omega)
  .have hjd:=hj.resolve_left hja
   have hkd:=hk.resolve_left hka;obtain⟨s,rows,q,cs,hL1,_⟩:=f2 j hja hjd;obtain⟨s',rows',q',cs',hL1',_⟩:=f2 k hka hkd;rw[b2 j hja]at hbj;rw[b2 k hka]at hbk;exact r.inj j k b (by grind) (by grind) hbj hbk
end
section
variable {P:Program}{C:Ctx}{N:Nat}{w0:World}{ω0:Nat->Nat}{S:Fr}{E:Nat->Option V}{L:Nat->Option Obj}{a:Act}{w:World}{ω:Nat->Nat}{β:Nat->Option Nat}
variable {o:Oper}{v:V}
def Back (GL:Nat->List Cell)(N:Nat)(w0:World)(ω0:Nat->Nat)(S:Fr)(E:Nat->Option V)(L':Nat->Option Obj)(a:Act)(v:V)(e:Ending)(w':World):Prop:=
 ∃vv ω' β',e=.returned vv/\Rel GL N w0 ω0 S E L' a w' ω' β'/\RV w' ω' β' L' v vv
theorem Z9 (hC:Dk P C)(r:Rel C.gl N w0 ω0 S E L a w ω β){oid:Nat}{f:V}{fv:Value}{args:List (Bool×V)}{cvs:List Value}(hf:RV w ω β L f fv)(hargs:ArgsOk w ω β L args cvs){u:Upd}
 (h:BI C.call L oid f args=some (v,u)):∃(g:FuncId) (caps:Array Value),fv=.func (.func g) #[] caps/\QH P g/\
   Calls P g (cvs.toArray++caps) w (Back C.gl N w0 ω0 S E (updL L u) a v):=by
 unfold BI at h;split at h;grind
 .rename_i g caps hg
  obtain⟨cs,hfv,hcaps⟩:=Vm hf hg;refine⟨g,cs,hfv,?_⟩;split at h;grind
  .rename_i vs ds rs hargsOf
   simp only at h;split at h;grind
   .rename_i os hos
    cases hc1:((An L rs).all (fun k=>!ds.contains k)&&(An L (An L rs)).length==(An L rs).length)with
    |false=>grind
    |true=>
     rw[hc1]at h;simp only[cond_true]at h;simp only[qe]at hc1;have hnd:=MS L rs;generalize hids:An L rs=ids at h hos hc1 hnd;have hds:∀k∈ids,k∉ds:=by
      grind
     split at h;grind
     .rename_i rv os' hcall
      cases hc2:(Nat.ble ids.length os'.length&&(os.zip os').all (fun x=>Fh x.1 x.2)&&(AY oid 0 (os'.length-ids.length)).all (fun k=>(L k).isNone))with
      |false=>grind
      |true=>
       rw[hc2]at h;simp only[cond_true]at h;simp only[qe]at hc2;obtain⟨⟨hm,_⟩,hfn⟩:=hc2;have hm:=qi hm;obtain⟨n1,_,n3⟩:=Lr oid (os'.length-ids.length) 0;have hfn':∀k∈AY oid 0 (os'.length-ids.length),L k=none:=by
        simp_all
       generalize AY oid 0 (os'.length-ids.length)=fresh at h n1 n3 hfn';obtain⟨hcallable,hfn⟩:=hC g _ _ rv os' hcall;refine⟨hcallable,?_⟩;obtain⟨ω1,g1,p1,p2⟩:=HK r ds;have hsh:CX β L ω1 ds:=fun k hk s rows p b hL hb=>Nat.le_of_eq (p1 k hk s rows p b hL hb).symm;have hall:=hargs.append hcaps;have hrv:=Jw r.obj g1 hall hargsOf hsh;obtain⟨hol,hog⟩:=FP hos
       have hρ:Ren (AN ids) β L (fun i=>(ids[i]?).bind β) (Lof (os.map (Obj.ren (AN ids)))):=by
        intro k i ob hi hk;have hi':=IW hi;grind[Lof]
       have hcv:(cvs.toArray++cs).toList=cvs++cs.toList:=(by simp);have hcalls:=hfn w ω1 (fun i=>(ids[i]?).bind β) (cvs.toArray++cs) (fun b=>(r.gl b).grow g1) (by rw[hcv];exact hrv.rename hρ) ?_ ?_
       .refine hcalls.mono ?_
        rintro e w' ⟨vv,ω',β',rfl,c1,c2,c3,c4,c5,c6⟩;have pub:∀p,Bg L ds ds=some p->v=rv.ren (fun i=>(ids++fresh)[i]?)->u=p++BC (ids++fresh) (os'.map (Obj.ren fun i=>(ids++fresh)[i]?))->Back C.gl N w0 ω0 S E (updL L u) a v (.returned vv) w':=by
         intro p hp hv hu;obtain⟨β2,h1,h2⟩:=TN r rfl hnd hos g1 p1 p2 n3 (by omega) hfn' c2 c3 c4 c5 c6 hp;subst hu hv;exact⟨vv,ω',β2,rfl,h1,c1.rename h2⟩
        split at h
        .simp only [qc,qh] at h
         obtain⟨rfl,rfl⟩:=h;exact pub [] rfl rfl (by simp)
        .rename_i hne
         cases hfl:(CQ rv&&ids.isEmpty&&fresh.isEmpty)with
         |true=>
          rw[hfl]at h;simp only[cond_true,qc,qh]at h;obtain⟨rfl,rfl⟩:=h;simp only[qe,qa5]at hfl;obtain⟨⟨hflat,rfl⟩,_⟩:=hfl;have hold:∀b,b<w.heap.size->w'.heap[b]?=w.heap[b]?:=fun b hb=>(c4.same b hb (by simp)).1;have gg:Grows w ω w' (fun b=>if b<w.heap.size then ω b else ω' b):=⟨fun b i hi q hq=>by
           grind[at?,World.cell?]⟩
          have hr:=(r.step (fun _=>False) (w':=w') (ω':=fun b=>if b<w.heap.size then ω b else ω' b) (β':=β) (L':=L) gg c4.size c4.os c4.tape c4.output
           (fun b hb _=>⟨hold b hb,by grind⟩) (fun k _=>⟨rfl,fun _=>rfl⟩) (fun _ h=>h.elim) (fun _ _ h=>h.elim) (fun _ h=>h.elim) (fun _ _ _ h=>h.elim)).1
          exact⟨vv,_,β,rfl,hr,Xu hflat c1 _ _ _ _⟩
         |false=>
          grind
       .intro i o1 ho1
        simp only[Lof,qq]at ho1;cases hoi:os[i]? with
        |none=>grind
        |some ob=>
         simp only[hoi,qp,qc]at ho1;subst ho1;have hlt:i<ids.length:=(by grind);obtain⟨o',h1,h2⟩:=hog i ids[i] (by simp);rw[hoi]at h1;cases h1;have hst:ObjOk w ω1 β L ids[i] ob:=(r.obj _ _ h2).step g1 (fun k=>Tr.refl k) rfl fun b hb=>⟨rfl,p2 b fun k hk s rows q hL hbk=>by
          have:=r.inj k ids[i] b (by grind) (by grind) hbk hb;grind⟩
         exact hst.rename hρ (by grind)
       .intro j k b hj hk hbj hbk
        simp only[Lof,qq]at hj hk;have hj':j<os.length:=by
         grind
        have hk':k<os.length:=by
         grind
        rw[hol]at hj' hk';simp only[qm hj',qay]at hbj;simp only[qm hk',qay]at hbk;obtain⟨o1,_,h1⟩:=hog j ids[j] (by simp);obtain⟨o2,_,h2⟩:=hog k ids[k] (by simp);have:=r.inj ids[j] ids[k] b (by grind) (by grind) hbj hbk;exact JG hnd (i:=j) (j:=k) (k:=ids[j]) (by simp) (by grind)
theorem ArgsOk.step {w':World}{ω':Nat->Nat}{β':Nat->Option Nat}{L':Nat->Option Obj}(g:Grows w ω w' ω')(tr:∀k,Tr w β w' β' L L' k):∀{xs:List (Bool×V)}{vs:List Value},ArgsOk w ω β L xs vs->ArgsOk w' ω' β' L' xs vs
 |[],[],_=>trivial
 |[],_::_,h=>h.elim
 |_::_,[],h=>h.elim
 |_::_,_::_,h=>⟨h.1.step g tr,ArgsOk.step g tr h.2⟩
theorem M2 {oid:Nat}{own:List (Nat×Nat)}:∀(args:List (Bool×V))(j:Nat),∀x∈(Au oid own j args).2,oid+j<x.1
 |[],_,x,hx=>by simp[Au]at hx
 |(b,c)::cs,j,x,hx=>by
  simp only[Au]at hx;split at hx
  .simp only [qD] at hx
   rcases hx with rfl|hx
   simp
   .have:=M2 cs (j+1) x hx;omega
  .have:=M2 cs (j+1) x hx;omega
theorem Lq {GL:Nat->List Cell}{oid:Nat}{own:List (Nat×Nat)}(hpos:∀p∈own,0<p.2):∀(args:List (Bool×V))(j:Nat)(L:Nat->Option Obj)(β:Nat->Option Nat)(vs:List Value),Rel GL N w0 ω0 S E L a w ω β->ArgsOk w ω β L args vs->
 (∀x∈(Au oid own j args).2,L x.1=none)->∃β',Rel GL N w0 ω0 S E (updL L (Au oid own j args).2) a w ω β'/\ArgsOk w ω β' (updL L (Au oid own j args).2) (Au oid own j args).1 vs/\
   (∀k,Tr w β w β' L (updL L (Au oid own j args).2) k)
 |[],j,L,β,vs,r,hr,_=>by
  simp only[Au,updL];grind[Tr.refl]
 |x::xs,j,L,β,[],_,hr,_=>hr.elim
 |(b,x)::xs,j,L,β,v::vs,r,hr,hfree=>by
  by_cases hcase:x=.sc .nil/\∃s,get? own j=some s
  .obtain ⟨rfl,s,hs⟩:=hcase
   have e:Au oid own j ((b,.sc .nil)::xs)=((true,.sc (.arr (oid+1+j) 0))::(Au oid own (j+1) xs).1,(oid+1+j,some (.arr s [] 0))::(Au oid own (j+1) xs).2):=by
    simp only[Au,hs]
   rw[e]at hfree |-;have hk:L (oid+1+j)=none:=hfree (oid+1+j,some (.arr s [] 0)) (by simp);have hs0:0<s:=hpos _ (OG hs);obtain⟨r1,t1⟩:=r.newNil hk hs0;have hr1:=hr.2.step (Grows.refl w ω) t1;obtain⟨β',r2,hr2,t2⟩:=Lq hpos xs (j+1) _ _ vs r1 hr1 (fun y hy=>by
    rw[DD]
    .exact hfree y (qaG _ hy)
    .have:=M2 xs (j+1) y hy;omega)
   refine⟨β',r2,⟨?_,hr2⟩,fun k=>(t1 k).trans (t2 k)⟩;have hv:v=.slice none 0 0:=(by simpa only[RV,RV1,RW]using hr.1);have h0:RW w ω (setN β (oid+1+j) none) (updO L (oid+1+j) (some (.arr s [] 0))) (.arr (oid+1+j) 0) v:=by
    simp only[RW];exact⟨s,[],0,B0 _ _ _,by simp,⟨_,_,_,hv⟩,fun _=>.inr ⟨by simp[setN],rfl,none,hv⟩⟩
   exact RW.step (Grows.refl w ω) t2 _ h0
  .have e:Au oid own j ((b,x)::xs)=((b,x)::(Au oid own (j+1) xs).1,(Au oid own (j+1) xs).2):=by
    simp only[Au];grind
   rw[e]at hfree |-;obtain⟨β',r2,hr2,t2⟩:=Lq hpos xs (j+1) L β vs r hr.2 hfree;exact⟨β',r2,⟨hr.1.step (Grows.refl w ω) t2,hr2⟩,t2⟩
def GC:List Operand->List (Bool×Opd)->Bool
 |[],[]=>true
 |y::ys,x::xs=>mOpd y x.2&&GC ys xs
 |_,_=>false
theorem OS (r:Rel C.gl N w0 ω0 S E L a w ω β):∀{ys:List Operand}{xs:List (Bool×Opd)},GC ys xs=true->ArgsOk w ω β L (vals C E xs) (ys.map a.eval)
 |[],[],_=>trivial
 |[],_::_,h=>by simp[GC]at h
 |_::_,[],h=>by simp[GC]at h
 |y::ys,x::xs,h=>by
  simp only[GC,qe]at h;exact⟨Ay r h.1,OS r h.2⟩
def Ja (op:Op)(f:Opd)(args:List (Bool×Opd))(own:List (Nat×Nat)):Bool:=
 match op with
 |.call { callee:=.value f',args:=args',argTypes:=_ }=>mOpd f' f&&GC args'.toList args&&own.all (fun p=>Nat.blt 0 p.2)
 |_=>false
theorem Xp (hC:Dk P C)(r:Rel C.gl N w0 ω0 S E L a w ω β){f:Opd}{args:List (Bool×Opd)}{own:List (Nat×Nat)}{oid:Nat}(hm:Ja o.op f args own=true){u:Upd}(h:Ae C E L oid (.call f args own)=some (v,u))
 {K:Act->World->Prop}{Q:Exit->Act->World->Prop}(hK:∀vv w' ω' β',Rel C.gl N w0 ω0 S E (updL L u) a w' ω' β'->RV w' ω' β' (updL L u) v vv->K (a.put o.dst vv) w'):o.wp P a w K Q:=by
 unfold Ja at hm;split at hm
 .rename_i f' args' ts ho
  simp only[qe]at hm;obtain⟨⟨h1,h2⟩,h3⟩:=hm;simp only[Ae]at h;cases hb:(Au oid own 0 (vals C E args)).2.all (fun u=>(L u.1).isNone)with
  |false=>grind
  |true=>
   rw[hb]at h;simp only[cond_true]at h;split at h;grind
   .rename_i v' u' hcall
    simp only[qc,qh]at h;obtain⟨rfl,rfl⟩:=h;have hfree:∀x∈(Au oid own 0 (vals C E args)).2,L x.1=none:=by
     intro x hx;simpa using qx.1 hb x hx
    obtain⟨β1,r1,ha1,t1⟩:=Lq (JR h3) _ 0 L β _ r (OS r h2) hfree;have hf1:=(Ay r h1).step (Grows.refl w ω) t1;obtain⟨g,caps,hfv,⟨fn,c1,c2,c3⟩,hcalls⟩:=Z9 hC r1 hf1 ha1 hcall;have run:(execOp a.eval o).run P w=.ok (.enter g (args'.map a.eval++caps)) w:=by
     have c3' : fn.name ≠ "runtime.NumGoroutine" := by grind
     obtain⟨bd,hbd⟩:=qa1.1 c2;simp[execOp,ho,resolve,hfv,Deferred.ofValue,invoke,callFunc,c1,c3',hbd]
    unfold Oper.wp;rw[run,Oper.upon_enter];have hmap:(args'.toList.map a.eval).toArray=args'.map a.eval:=(by grind);rw[hmap]at hcalls;refine hcalls.mono ?_;rintro e w' ⟨vv,ω',β',rfl,h4,h5⟩;grind[Hn]
 grind
end
def F5:VOp->Bool
 |.mv _ | .build _ _=>true
 |_=>false
def LI (ops:Array Oper):Option (Nat×Bool)->Option (Nat×Bool)->Bool
 |none,none=>true
 |some (j,w),some (t,w')=>w==w'&&(match (ops[j]?).bind (·.dst)with | some t'=>t'==t | none=>false)
 |_,_=>false
def Fm (P:Program)(N:Nat)(ops:Array Oper)(o:Oper)(vo:VOper):Bool:=
 vo.dst==o.dst&&(match vo.dst with | some d=>Nat.blt d N | none=>true)&&LI ops o.guard vo.guard &&
 (vo.own.isEmpty||(F5 vo.op&&vo.own.all (fun p=>Nat.blt 0 p.2))) &&
 (match vo.op with
   |.call f args own=>Ja o.op f args own
   |.ldD ag n x=>mOp P o.op (.load ag n x)
   |.mvD x=>mOp P o.op (.mv x)
   |.bldD zero ps=>mOp P o.op (.build zero ps)
   |op=>mOp P o.op op)
def updD (E:Nat->Option V)(d:Option Nat)(v:V):Nat->Option V:=match d with
 |some d=>updE E d v
 |none=>E
section
variable {P:Program}{C:Ctx}{N:Nat}{w0:World}{ω0:Nat->Nat}{S:Fr}{E:Nat->Option V}{L:Nat->Option Obj}{a:Act}{w:World}{ω:Nat->Nat}{β:Nat->Option Nat}
variable {o:Oper}{v:V}
theorem Rel.putD {GL:Nat->List Cell}(r:Rel GL N w0 ω0 S E L a w ω β){d:Option Nat}(hd:(match d with | some d=>Nat.blt d N | none=>true)=true){vv:Value}(hv:RV w ω β L v vv):
 Rel GL N w0 ω0 S (updD E d v) L (a.put d vv) w ω β:=by
 cases d with
 |none=>exact r
 |some d=>exact r.put (qi (show Nat.ble (d+1) N=true from hd)) hv
theorem Makes.wp {u:Upd}(h:Makes P C.gl N w0 ω0 S E L o a w v u){K:Act->World->Prop}{Q:Exit->Act->World->Prop}
 (hK:∀vv w' ω' β',Rel C.gl N w0 ω0 S E (updL L u) a w' ω' β'->RV w' ω' β' (updL L u) v vv->K (a.put o.dst vv) w'):o.wp P a w K Q:=by
 obtain⟨nx,vv,w',ω',β',h1,h2,h3,h4⟩:=h;grind[Oper.wp,Oper.upon_value,Oper.upon_skip]
theorem Makes.own {oid:Nat}{own:List (Nat×Nat)}(hpos:∀p∈own,0<p.2)(h:Makes P C.gl N w0 ω0 S E L o a w v []){v':V}{u':Upd}(ho:ownV oid own L (v,[])=some (v',u')):Makes P C.gl N w0 ω0 S E L o a w v' u':=by
 unfold ownV at ho;split at ho;grind
 .obtain ⟨nx,vv,w',ω',β',h1,h2,h3,h4⟩:=h
  simp only[updL]at h3 h4;split at ho
  .rename_i x hx
   simp only at hx;subst hx;dsimp only at ho;cases hb:(ownW oid own 0 [x]).2.all (fun u=>(L u.1).isNone)with
   |false=>grind
   |true=>
    rw[hb]at ho;simp only[cond_true,qae]at ho;have hfree:∀y∈(ownW oid own 0 [x]).2,L y.1=none:=by
     intro y hy;simpa using qx.1 hb y hy
    have hr:RWlist w' ω' β' L [x] [vv]:=(by simp only[RWlist];exact⟨h4,trivial⟩);obtain⟨β2,r2,hr2,_,_⟩:=GH hpos [x] 0 L β' [vv] h3 hr hfree;generalize ownW oid own 0 [x]=Y at ho r2 hr2;cases hY:Y.1 with
    |nil=>grind
    |cons y ys=>
     simp only[hY,List.head?_cons,qp,qc,qh]at ho;obtain⟨rfl,rfl⟩:=ho;rw[hY]at hr2;simp only[RWlist]at hr2;exact⟨nx,vv,w',ω',β2,h1,h2,r2,hr2.1⟩
  .rename_i cs hx
   simp only at hx;subst hx;dsimp only at ho;cases hb:(ownW oid own 0 cs).2.all (fun u=>(L u.1).isNone)with
   |false=>grind
   |true=>
    rw[hb]at ho;simp only[cond_true,qae,qc,qh]at ho;obtain⟨rfl,rfl⟩:=ho;have hfree:∀y∈(ownW oid own 0 cs).2,L y.1=none:=by
     intro y hy;simpa using qx.1 hb y hy
    obtain⟨arr,g1,g2⟩:=h4;obtain⟨β2,r2,hr2,_,_⟩:=GH hpos cs 0 L β' arr.toList h3 g2 hfree;exact⟨nx,vv,w',ω',β2,h1,h2,r2,⟨arr,g1,hr2⟩⟩
  grind
theorem ZE {vop:VOp}(hf:F5 vop=true){oid:Nat}{q:V×Upd}(h:Ae C E L oid vop=some q):q.2=[]:=by
 cases vop<;>simp only[F5,qu]at hf;grind[Ae]
 .simp only [Ae] at h
  split at h;grind
  .rename_i ps hps
   cases hfill:BR _ ps with
   |none=>rw[hfill]at h;grind
   |some cs=>grind
theorem Lu (r:Rel C.gl N w0 ω0 S E L a w ω β){v d:V}{vv:Value}(hv:RV w ω β L v vv){p:Upd}(h:Cj L v=some (d,p)):∃ω' β',Rel C.gl N w0 ω0 S E (updL L p) a w ω' β'/\RV w ω' β' (updL L p) d vv:=by
 unfold Cj at h;cases hd:v.toD L with
 |none=>grind
 |some d'=>
  rw[hd]at h;simp only at h;obtain⟨p',hp,h⟩:=qo.1 h;simp only[qh]at h;obtain⟨rfl,rfl⟩:=h;obtain⟨ω1,g1,p1,p2⟩:=HK r (nubs (v.cells.flatMap (W.ids L deep)));have hsh:CX β L ω1 (v.cells.flatMap (W.ids L deep)):=fun k hk s rows q b hL hb=>Nat.le_of_eq (p1 k ((JH _ k).2 hk) s rows q b hL hb).symm
  obtain⟨β2,h1,_⟩:=TN r (ids:=[]) (fresh:=[]) (os:=[]) (os':=[]) rfl List.nodup_nil rfl g1 p1 p2 List.nodup_nil rfl (fun _ h=>nomatch h) (w':=w) (ω':=ω1) (β':=fun _=>none)
   (fun k o h=>by simp[Lof]at h) (fun j k b h=>by simp) (Keeps.refl _ _ _) (fun k b h=>by simp) (fun k=>by simp[Tr,Lof]) hp
  refine⟨ω1,β2,by simpa[BC]using h1,?_⟩;have:=KR r.obj g1 hv hd hsh β2 (updL L p');cases d' with
  |tu l=>simp[RV1]at this
  |sc x=>exact this
  |ag cs=>exact this
theorem Vy {oid n:Nat}{ag:Bool}{x:Opd}:Ae C E L oid (.load ag n x)=(Cv L ag n (x.val C E)).map fun v=>(v,[]):=by
 simp only[Ae];generalize x.val C E=y;cases y with
 |sc y=>grind[Cv]
 |_=>rfl
theorem TF (hC:Dk P C)(r:Rel C.gl N w0 ω0 S E L a w ω β){ops:Array Oper}{vo:VOper}(hm:Fm P N ops o vo=true){q:V×Upd}(h:Ae C E L vo.oid vo.op=some q){v:V}{u:Upd}(ho:ownV vo.oid vo.own L q=some (v,u))
 {K:Act->World->Prop}{Q:Exit->Act->World->Prop}(hK:∀a' w' ω' β',Rel C.gl N w0 ω0 S (updD E vo.dst v) (updL L u) a' w' ω' β'->K a' w'):o.wp P a w K Q:=by
 unfold Fm at hm;simp only[qe,beq_iff_eq]at hm;obtain⟨⟨⟨⟨h1,h2⟩,_⟩,h4⟩,h5⟩:=hm;have fin:∀vv w' ω' β',Rel C.gl N w0 ω0 S E (updL L u) a w' ω' β'->RV w' ω' β' (updL L u) v vv->K (a.put o.dst vv) w':=by
  intro vv w' ω' β' hr hv;rw[<-h1];exact hK _ w' ω' β' (hr.putD h2 hv)
 have fin0:∀vv w' ω' β',Rel C.gl N w0 ω0 S E (updL L q.2) a w' ω' β'->RV w' ω' β' (updL L q.2) q.1 vv->vo.own=[]->K (a.put o.dst vv) w':=by
  grind[ownV]
 obtain⟨q1,q2⟩:=q;simp only[qar,qa5]at h4;cases hop:vo.op with
 |call f args own=>
  grind[F5,Xp]
 |ldD ag n x=>
  rw[hop]at h5 h h4;have hown:vo.own=[]:=by simpa[F5]using h4
  simp only[Ae]at h;obtain⟨v1,hv1,hs⟩:=qam.1 h;have hl:Ae C E L vo.oid (.load ag n x)=some (v1,[]):=by grind[Vy]
  obtain⟨nx,vv,w',ω',β',e1,e2,e3,e4⟩:=Ib r h5 hl;simp only[updL]at e3 e4;obtain⟨ω2,β2,e5,e6⟩:=Lu e3 e4 hs;exact Makes.wp (v:=q1) (u:=q2) ⟨nx,vv,w',ω2,β2,e1,e2,e5,e6⟩ fun vv w' ω' β' hr hv=>fin0 vv w' ω' β' hr hv hown
 |bldD zero ps=>
  rw[hop]at h5 h h4;have hown:vo.own=[]:=by simpa[F5]using h4
  simp only[Ae]at h;split at h;grind
  .rename_i qs hqs
   obtain⟨cs,hcs,hs⟩:=qam.1 h;have hl:Ae C E L vo.oid (.build zero ps)=some (.ag cs,[]):=by
    grind[Ae]
   obtain⟨nx,vv,w',ω',β',e1,e2,e3,e4⟩:=Ib r h5 hl;simp only[updL]at e3 e4;obtain⟨ω2,β2,e5,e6⟩:=Lu e3 e4 hs;exact Makes.wp (v:=q1) (u:=q2) ⟨nx,vv,w',ω2,β2,e1,e2,e5,e6⟩ fun vv w' ω' β' hr hv=>fin0 vv w' ω' β' hr hv hown
 |mvD x=>
  rw[hop]at h5 h h4;have hown:vo.own=[]:=by simpa[F5]using h4
  simp only[Ae]at h;have hl:Ae C E L vo.oid (.mv x)=some (x.val C E,[]):=rfl;obtain⟨nx,vv,w',ω',β',e1,e2,e3,e4⟩:=Ib r h5 hl;simp only[updL]at e3 e4;obtain⟨ω2,β2,e5,e6⟩:=Lu e3 e4 h;exact Makes.wp (v:=q1) (u:=q2) ⟨nx,vv,w',ω2,β2,e1,e2,e5,e6⟩ fun vv w' ω' β' hr hv=>fin0 vv w' ω' β' hr hv hown
 |_=>
  rw[hop]at h5 h h4;rcases h4 with hown|hown
  .exact(Ib r h5 h).wp fun vv w' ω' β' hr hv=>fin0 vv w' ω' β' hr hv hown
  .simp only [qe] at hown
   have hq:=ZE hown.1 h;simp only at hq;subst hq;exact((Ib r h5 h).own (JR hown.2) ho).wp fin
theorem TG (hC:Dk P C)(r:Rel C.gl N w0 ω0 S E L a w ω β){ops:Array Oper}{vo:VOper}(hm:Fm P N ops o vo=true){v:V}{u:Upd}(h:runO C vo E L=some (v,u))
 {K:Act->World->Prop}{Q:Exit->Act->World->Prop}(hK:∀a' w' ω' β',Rel C.gl N w0 ω0 S (updD E vo.dst v) (updL L u) a' w' ω' β'->K a' w'):
 if Region.wanted o (yielded ops a.tmps) then o.wp P a w K Q\/(o.asks P a w/\LetsOut Q) else K (a.put o.dst undef) w:=by
 have hm0:=hm;unfold Fm at hm;simp only[qe,beq_iff_eq]at hm;obtain⟨⟨⟨⟨h1,h2⟩,h3⟩,_⟩,_⟩:=hm;unfold runO at h;cases hg:vo.guard with
 |none=>
  grind[LI,Region.wanted,TF]
 |some g=>
  obtain⟨t,want⟩:=g;obtain⟨j,hog,hj⟩:∃j,o.guard=some (j,want)/\(ops[j]?).bind (·.dst)=some t:=by
   cases ho:o.guard<;>grind[LI]
  rw[hg]at h;simp only at h;have hy:∀x,E t=some x->∃y,a.tmps[t]?=some y/\RV w ω β L x y:=by
   intro x hx;obtain⟨e1,e2⟩:=r.env t x hx;have hlt:t<a.tmps.size:=(by rw[r.size];omega);simp_all
  have skip:yielded ops a.tmps j≠some want->v=.sc .sk/\u=[]->if Region.wanted o (yielded ops a.tmps) then o.wp P a w K Q\/(o.asks P a w/\LetsOut Q) else K (a.put o.dst undef) w:=by
   intro hne hv;obtain⟨rfl,rfl⟩:=hv;rw[if_neg (by grind[Region.wanted])];rw[<-h1];exact hK _ w ω β (r.putD h2 (by rfl))
  split at h;grind[RV,RV1,RW,RD,yielded,Region.wanted,TF];grind[RV,RV1,RW,yielded,undef];grind
end
end Go.Vs
