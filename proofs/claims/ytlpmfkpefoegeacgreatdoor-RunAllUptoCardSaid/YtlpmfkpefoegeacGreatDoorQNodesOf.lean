import Derived.Test.YtlpmfkpefoegeacGreatDoorQIsHeap
import Derived.Deep.RegionLaw
import Derived.Deep.DeepCutAuto
import Derived.BigRegion
namespace Go.Proofs.YtlpmfkpefoegeacGreatDoor
set_option maxRecDepth 99999
set_option maxHeartbeats 0
set_option linter.all false
open Go.RowKit
def uM(w:World)(base:Nat)(E:TypeId)(size:Nat)(v:Value)(n:Nat)(xs:List Value):Prop:=xs.length=n*size/\((n=0/\∃a,v= .slice a 0 0)\/∃g off cap cur,v= .slice (some ⟨g,off,none⟩) n cap/\0<cap/\base<=g/\w.heap[g]?=some (.cells cur E (0,0))/\n<=cap/\cap<=maxLen/\cur.size=off+cap*size/\(cur.toList.drop off).take (n*size)=xs)
theorem uM.keeps{A:Nat->Prop}{w w':World}{base:Nat}{E:TypeId}{size:Nat}{v:Value}{n:Nat}{xs:List Value}(h:uM w base E size v n xs)(hk:af A w w')(hA:∀b,base<=b->A b):uM w' base E size v n xs:=by
 refine⟨h.1,?_⟩;rcases h.2 with hn|⟨g,off,cap,cur,rfl,hc,hb,hgg,rest⟩;·exact .inl hn
 ·refine .inr ⟨g,off,cap,cur,rfl,hc,hb,?_,rest⟩;rw[hk.block g (aJ hgg) (hA g hb)];exact hgg
theorem uM.cells{w:World}{base:Nat}{E:TypeId}{size:Nat}{n:Nat}{xs:List Value}{g off cap:Nat}(h:uM w base E size (.slice (some ⟨g,off,none⟩) n cap) n xs):∀j u,xs[j]?=some u->w.cell? ⟨g,off+j,none⟩=some u:=by
 intro j u hu;rcases h.2 with⟨rfl,a,hv⟩|⟨g',off',cap',cur,hv,_,_,hgg,_,_,_,htake⟩;·have :=h.1;simp at this;subst this;simp at hu
 ·simp at hv;obtain⟨⟨rfl,rfl⟩,rfl⟩:=hv;rw[cell_of_row w g (off+j) cur E (0,0) hgg];rw[<-htake,List.getElem?_take]at hu;split at hu;·rw[List.getElem?_drop]at hu;simpa using hu
  ·cases hu
theorem awU{P:Program}(w:World)(base:Nat)(t ty e:TypeId)(i:TypeInfo)(z:Value)(size bytes:Nat)(ht:P.underlying t=some (.slice e))(hi:P.info? e=some i)(hz:i.zero=some z)(hsize:i.size=size)(hby:i.bytes=bytes)(hzs:z.cells.size=size)(v:Value)(n:Nat)(xs:List Value)(hown:uM w base e size v n xs)(a:Addr)(m c:Nat)(news:List Value)(hl:news.length=m*size)(hnews:∀j u,news[j]?=some u->w.cell? (a.add j)=some u)(h1:∀u∈news,u.oneCell'=true)(h63:n+m<=maxLen)(hbytes:(n+m)*bytes<=140737488355328)(hbase:base<=w.heap.size):∃v' w',(Builtin.append_ #[t,t] ty #[v,.slice (some a) m c]).run P w= .ok v' w'/\uM w' base e size v' (n+m) (xs++news)/\Below base w w':=by
 subst hsize;subst hby;have hsmall:n+m<=9223372036854775807:=by simp only[maxLen]at h63;omega
 have hlen:(xs++news).length=(n+m)*i.size:=by rw[bT,hown.1,hl,nY]
 have grown:∀(old:Nat),old<n+m->uM (w.drew.alloc (.cells (xs.toArray++news.toArray++Builtin.zeroCells z.cells (grownCap w (n+m) old e - (n+m))) e)) base e i.size (.slice (some ⟨w.heap.size,0,none⟩) (n+m) (grownCap w (n+m) old e)) (n+m) (xs++news)/\Below base w (w.drew.alloc (.cells (xs.toArray++news.toArray++Builtin.zeroCells z.cells (grownCap w (n+m) old e - (n+m))) e)):=by
  intro old ho;have hge:=grownCap_ge w (n+m) old e;have hcm:grownCap w (n+m) old e<=maxLen:=grownCap_le_maxLen w (n+m) old e h63;refine⟨⟨hlen,.inr ⟨w.heap.size,0,_,_,rfl,by omega,hbase,acp w.drew _,hge,hcm,?_,?_⟩⟩,⟨rfl,rfl,rfl,by simp,fun k hk=>JA w.drew _ k (by simp;omega)⟩⟩;·simp only[Array.size_append,Jw,size_zeroCells,hzs,hown.1,hl,<-nY];rw[nX];congr 1;omega
  ·simp only[Array.toList_append,wD,Gg];rw[<-wD,<-hlen];exact aco
 rcases hown.2 with⟨rfl,ba,rfl⟩|⟨g,off,cap,cur,rfl,hcp,hbg,hg,hnc,hcm,hcs,htake⟩
 ·have hx:xs=[]:=Cj (by simpa using hown.1);subst hx;by_cases hm:m=0;·subst hm;have hn:news=[]:=Cj (by simpa using hl);subst hn;refine⟨.slice ba 0 0,w,?_,⟨by simp,.inl ⟨rfl,ba,rfl⟩⟩,zB _ _⟩;cases ba<;>simp[Builtin.append_,xM ht,sizeOf,typeInfo,hi,Builtin.lenOf,Builtin.firstCells,loadCells,loadCellsFrom,storeCells]
  ·have hgr:=grown 0 (by omega);cases ba with|none=>have hr:=run_append_nil (P:=P) w t ty e i z ht hi hz a m c news hl hnews (by omega) (by omega) (by have hb:=hbytes;simp only[nX]at hb;omega);simp only[nX,tK,ab5]at hgr ⊢;exact⟨_,_,hr,hgr.1,hgr.2⟩|some b0=>have hr:=acm (P:=P) w t ty e i z ht hi hz b0 0 0 [] (by simp) (by simp) a m c news hl hnews (by omega) (by omega) (acr (by omega) hbytes);simp only[nX,tK,ab5]at hgr hr ⊢;exact⟨_,_,hr,hgr.1,hgr.2⟩
 ·by_cases hroom:n+m<=cap
  ·have hfit:off+n*i.size+news.length<=cur.size:=by have :=Pq i.size hroom;rw[nY]at this;omega
   have hf:=run_firstCells_some (P:=P) w i.size m a m c news hl hnews;have hst:=run_storeCells_at P g (off+n*i.size) e news 0 cur w hg (by simpa using hfit) h1;simp only[qw]at hst;refine⟨.slice (some ⟨g,off,none⟩) (n+m) cap,w.setRow g (cur.toList.take (off+n*i.size)++news++cur.toList.drop (off+n*i.size+news.length)).toArray,by simp[Builtin.append_,xM ht,sizeOf,typeInfo,hi,Builtin.lenOf,hroom,hf,Addr.add_lit,hst],⟨hlen,.inr ⟨g,off,cap,_,rfl,hcp,hbg,setRow_heap w g cur _ e _ hg,hroom,hcm,?_,?_⟩⟩,⟨rfl,rfl,rfl,by simp,fun k hk=>setRow_other w g k _ (by omega)⟩⟩;·simp only[Jw,bT,eY,PG,Array.length_toList];omega
   ·have hsz:off<=(cur.toList.take (off+n*i.size)).length:=by simp;omega
    simp only[wD];rw[axJ hsz,List.drop_take,show off+n*i.size - off=n*i.size by omega,htake,<-wD,<-hlen];exact aco
  ·have holds:∀j u,xs[j]?=some u->w.cell? ((⟨g,off,none⟩:Addr).add j)=some u:=by
    intro j u hu;have hadd:(⟨g,off,none⟩:Addr).add j=⟨g,off+j,none⟩:=by unfold Addr.add;split<;>simp_all
    rw[hadd];exact uM.cells hown j u hu
   have hr:=acm (P:=P) w t ty e i z ht hi hz ⟨g,off,none⟩ n cap xs hown.1 holds a m c news hl hnews (by omega) (by omega) (acr (by omega) hbytes);have hgr:=grown cap (by omega);exact⟨_,_,hr,hgr.1,hgr.2⟩
theorem awV{P:Program}(w:World)(t ty e:TypeId)(i:TypeInfo)(ht:P.underlying t=some (.slice e))(hi:P.info? e=some i)(v:Value)(n cap:Nat)(va:Option Addr)(hv:v= .slice va n cap)(hle:n<=cap)(a:Option Addr)(c:Nat):(Builtin.append_ #[t,t] ty #[v,.slice a 0 c]).run P w= .ok v w:=by subst hv;cases a<;>cases va<;>simp[Builtin.append_,xM ht,sizeOf,typeInfo,hi,Builtin.lenOf,hle,Builtin.firstCells,loadCells,loadCellsFrom,storeCells]
def kJ(w:World)(base:Nat)(A:Nat->Prop)(q:List Tm)(v:Value):Prop:=∃vals:List (List Value),vals.length=q.length/\uM w base 34 4 v q.length vals.flatten/\∀(i:Nat)x(vs:List Value),q[i]?=some x->vals[i]?=some vs->vs.length=4/\Tm.rep A w x vs
theorem kJ.keeps{w w':World}{base:Nat}{A B:Nat->Prop}{q:List Tm}{v:Value}(h:kJ w base A q v)(hk:af B w w')(hA:∀b,A b->B b)(hB:∀b,base<=b->B b):kJ w' base A q v:=by obtain⟨vals,hl,ho,he⟩:=h;exact⟨vals,hl,ho.keeps hk hB,fun i x vs hx hv=>⟨(he i x vs hx hv).1,Tm.aj.1 _ w w' x vs (he i x vs hx hv).2 (hk.mono fun b _ hb=>hA b hb)⟩⟩
theorem kJ.val{w:World}{base:Nat}{A:Nat->Prop}{q:List Tm}{v:Value}(h:kJ w base A q v):∃a cap,v= .slice a q.length cap/\q.length<=cap/\cap<=maxLen:=by
 obtain⟨vals,hl,ho,he⟩:=h;rcases ho.2 with⟨h0,a,rfl⟩|⟨g,off,cap,cur,rfl,hc,hb,hgg,hle,hm,_⟩;·exact⟨a,0,by rw[h0],by omega,by simp[maxLen]⟩
 ·exact⟨_,cap,rfl,hle,hm⟩
theorem awW:∃i z,Tryz.prog.underlying 23=some (.slice 34)/\Tryz.prog.info? 34=some i/\i.zero=some z/\i.size=4/\i.bytes=56/\z.cells.size=4:=rz.1
theorem kJ.app{w:World}{base:Nat}{A:Nat->Prop}{q ys:List Tm}{v x:Value}(ty:TypeId)(h:kJ w base A q v)(hy:eP A w ys x)(hA:∀b,A b->b<base)(hl:q.length+ys.length<=4194304)(hbase:base<=w.heap.size):∃v' w',(Builtin.append_ #[23,23] ty #[v,x]).run Tryz.prog w= .ok v' w'/\kJ w' base A (q++ys) v'/\Below base w w':=by
 obtain⟨i,z,ht,hi,hz,h1,h2,h3⟩:=awW;obtain⟨a,cap,gb,off,rfl,hlc,hcm,hlb,ha,he⟩:=hy.at;by_cases h0:ys=[];·subst h0;obtain⟨va,vc,hv,hle,_⟩:=h.val;exact⟨v,w,awV w _ ty _ i ht hi v _ vc va hv hle a cap,by simpa using h,zB _ _⟩
 ·obtain⟨rfl,bC⟩:=ha (Vi.2 h0);obtain⟨vals,hvl,ho,iC⟩:=h;have hch:∀n,n<=ys.length->∃nv:List (List Value),nv.length=n/\∀(i:Nat)x(vs:List Value),ys[i]?=some x->nv[i]?=some vs->vs.length=4/\Tm.rep A w x vs/\nz w gb (off+i*4) vs:=by
   intro n;induction n with
    |zero=>exact fun _=>⟨[],rfl,fun i x vs _ h=>by simp at h⟩
    |succ n ih=>
     intro hn;obtain⟨nv,h1,h2⟩:=ih (by omega);obtain⟨vs,h3,h4,h5⟩:=he n _ (aT (by omega));refine⟨nv++[vs],by simp[h1],fun i x us hx hu=>?_⟩;by_cases hin:i<n;·rw[tH (by omega)]at hu;exact h2 i x us hx hu
     ·have :i=n:=by have :=(gT.1 hu).1;simp at this;omega
      subst this;rw[uN (by omega),h1]at hu;simp at hu;subst hu;rw[aT (by omega)]at hx;simp at hx;subst hx;exact⟨h3,h4,h5⟩
  obtain⟨nv,hnl,hn⟩:=hch ys.length (zL _);have hsz:∀(i:Nat)(vs:List Value),nv[i]?=some vs->vs.length=4:=fun i vs hv=>by
   have hi:i<ys.length:=by have :=(gT.1 hv).1;omega
   exact(hn i _ vs (aT hi) hv).1
  have hfl:=PQ nv hsz;have hcell:∀j u,nv.flatten[j]?=some u->w.cell? ((⟨gb,off,none⟩:Addr).add j)=some u:=by
   intro j u hj;have hjl:j<nv.length*4:=by have :=(gT.1 hj).1;omega
   have hadd:(⟨gb,off,none⟩:Addr).add j=⟨gb,off+j,none⟩:=by unfold Addr.add;split<;>simp_all
   have Vs:j=j/4*4+j%4:=by omega
   have hi:j/4<nv.length:=by omega
   have hv:=aT hi;have hx:ys[j/4]?=some (ys[j/4]'(by omega)):=aT (by omega);obtain⟨h1,h2,h3⟩:=hn (j/4) _ _ hx hv;rw[Vs,Ei nv hsz _ _ _ hv (Nat.mod_lt _ (by omega))]at hj;have :=h3 _ u hj;rw[hadd,show off+j=off+j/4*4+j%4 by omega];exact this
  have h1c:∀u∈nv.flatten,u.oneCell'=true:=by intro u hu;obtain⟨vs,hvs,huv⟩:=List.mem_flatten.1 hu;obtain⟨i,hi,rfl⟩:=ng.1 hvs;have hv:=aT hi;have hx:ys[i]?=some (ys[i]'(by omega)):=aT (by omega);exact Tm.aj.2.2 _ _ _ _ (hn i _ _ hx hv).2.1 u huv
  obtain⟨v',w',hrun,hown',hb⟩:=awU (P:=Tryz.prog) w base 23 ty 34 i z 4 56 ht hi hz h1 h2 h3 v q.length _ ho ⟨gb,off,none⟩ ys.length cap nv.flatten (by rw[hfl,hnl]) hcell h1c (by simp only[maxLen];omega) (by omega) hbase;refine⟨v',w',hrun,⟨vals++nv,by simp[hvl,hnl],by simpa using hown',?_⟩,hb⟩;have hk:af A w w':=⟨hb.size,fun b _ hb2=>hb.block b (hA b hb2)⟩;intro i x vs hx hv;by_cases hi':i<q.length;·rw[tH (by omega)]at hx hv;obtain⟨h1,h2⟩:=iC i x vs hx hv;exact⟨h1,Tm.aj.1 _ _ _ _ _ h2 hk⟩
  ·rw[uN (by omega)]at hx hv;rw[hvl]at hv;obtain⟨h1,h2,_⟩:=hn _ x vs hx hv;exact⟨h1,Tm.aj.1 _ _ _ _ _ h2 hk⟩
theorem kJ.tail{w:World}{base:Nat}{A:Nat->Prop}{x:Tm}{r:List Tm}{g off cap:Nat}{a':Option Addr}(h:kJ w base A (x::r) (.slice (some ⟨g,off,none⟩) (r.length+1) cap))(ha:1<cap->a'=some ⟨g,off+4,none⟩):kJ w base A r (.slice a' r.length (cap - 1)):=by
 obtain⟨vals,hl,ho,he⟩:=h;obtain⟨vs,vals,rfl⟩:∃vs vr,vals=vs::vr:=by cases vals with|nil=>simp at hl|cons a b=>exact⟨a,b,rfl⟩
 simp only[cK,Nat.add_right_cancel_iff]at hl;have hv0:=(he 0 x vs rfl rfl).1;have hlen:=ho.1;simp only[PE,bT,cK]at hlen;refine⟨vals,hl,⟨by omega,?_⟩,fun i y us hy hu=>he (i+1) y us (by simpa using hy) (by simpa using hu)⟩;rcases ho.2 with⟨h0,a,hv⟩|⟨g',off',cap',cur,hv,hc,hb,hgg,hle,hm,hsz,htk⟩;·simp at h0
 ·simp only[dC,dm,uR,lF]at hv;obtain⟨⟨rfl,rfl⟩, -,rfl⟩:=hv;simp only[cK]at hle htk;by_cases h1:cap=1;·subst h1;exact .inl ⟨by omega,a',by rw[show r.length=0 by omega]⟩
  ·refine .inr ⟨g,off+4,cap - 1,cur,by rw[ha (by omega)],by omega,hb,hgg,by omega,by omega,by omega,?_⟩;have e:(cur.toList.drop off).take ((r.length+1)*4)=vs++vals.flatten:=by simpa using htk
   have e2:((cur.toList.drop off).take ((r.length+1)*4)).drop 4=vals.flatten:=by rw[e,<-hv0];exact List.drop_left
   rw[List.drop_take,List.drop_drop]at e2;rw[<-e2];congr 1;omega
theorem kJ.head{w:World}{base:Nat}{A:Nat->Prop}{x:Tm}{r:List Tm}{v:Value}(h:kJ w base A (x::r) v):∃g off cap sa sc,v= .slice (some ⟨g,off,none⟩) (r.length+1) cap/\r.length+1<=cap/\cap<=maxLen/\g<w.heap.size/\w.cell? ⟨g,off,none⟩=some (.int .i64 x.kind)/\w.cell? ⟨g,off+1,none⟩=some (.int .i64 x.n)/\w.cell? ⟨g,off+2,none⟩=some (.string x.s)/\w.cell? ⟨g,off+3,none⟩=some (.slice sa x.args.length sc)/\Tm.rep A w x [.int .i64 x.kind,.int .i64 x.n,.string x.s,.slice sa x.args.length sc]:=by
 obtain⟨vals,hl,ho,he⟩:=h;obtain⟨vs,vals,rfl⟩:∃vs vr,vals=vs::vr:=by cases vals with|nil=>simp at hl|cons a b=>exact⟨a,b,rfl⟩
 obtain⟨hv0,hr⟩:=he 0 x vs rfl rfl;obtain⟨sa,sc,rfl, -⟩:=Tm.dw hr;rcases ho.2 with⟨h0,a,hv⟩|⟨g,off,cap,cur,rfl,hc,hb,hgg,hle,hm,hsz,htk⟩;·simp at h0
 ·refine⟨g,off,cap,sa,sc,rfl,hle,hm,aJ hgg,?_,?_,?_,?_,hr⟩;·exact uM.cells ho 0 _ rfl
  ·exact uM.cells ho 1 _ rfl
  ·exact uM.cells ho 2 _ rfl
  ·exact uM.cells ho 3 _ rfl
theorem kJ.one{w:World}{base g:Nat}{A:Nat->Prop}{x:Tm}{vs:List Value}(hg:w.heap[g]?=some (.cells vs.toArray 34 (0,0)))(hb:base<=g)(hx:Tm.rep A w x vs):kJ w base A [x] (.slice (some ⟨g,0,none⟩) 1 1):=by obtain⟨sa,sc,rfl, -⟩:=Tm.dw hx;refine⟨[[.int .i64 x.kind,.int .i64 x.n,.string x.s,.slice sa x.args.length sc]],rfl,⟨rfl,.inr ⟨g,0,1,_,rfl,by omega,hb,hg,by simp,by simp[maxLen],rfl,rfl⟩⟩,fun i y us hy hu=>?_⟩;cases i with|zero=>simp at hy hu;subst hy hu;exact⟨rfl,hx⟩|succ i=>simp at hy
theorem awX{ops:Array Oper}{o:Oper}{a:Act}{w:World}{K:Act->World->Prop}{Q:Exit->Act->World->Prop}{E:Prop}(hg:o.guard=none)(s x:Operand)(ho:o.op= .call {callee:= .builtin .append,args:=#[s,x],argTypes:=#[23,23]})(base:Nat){A:Nat->Prop}(v:Value)(q ys:List Tm)(hs:a.eval s=v)(h:kJ w base A q v)(u:Value)(hx:a.eval x=u)(hy:eP A w ys u)(hA:∀b,A b->b<base)(hl:q.length+ys.length<=4194304/\base<=w.heap.size)(hK:∀v' w',kJ w' base A (q++ys) v'->Below base w w'->K (a.put o.dst v') w'):if Region.wanted o (yielded ops a.tmps)=true then Oper.wp Tryz.prog o a w K Q else E:=by rw[ai (by simp[Region.wanted,hg])];obtain⟨v',w',hr,h2,h3⟩:=kJ.app o.type h hy hA hl.1 hl.2;unfold Oper.wp execOp;simp only[ho,resolve,invoke,builtin,acA,acz,ab8,ab9,qp,AA,hs,hx,hr];exact hK _ _ h2 h3
theorem awY(l r:List Tm):Tm.bq (l++r)=Tm.bq l+Tm.bq r:=Tm.JI l r
theorem Gp(t:Tm):t.nodes=1+Tm.bq t.args:=by cases t;simp[Tm.nodes,Tm.args];try omega
theorem abN:∀(l:List Tm),l.length<=Tm.bq l|[]=>by simp|x::r=>by have :=abN r;have :=Gp x;simp only[Tm.bq,cK];omega
theorem awZ(t:Tm)(hnd:t.nodes<=4194304)(A:Nat->Prop)(w:World)(vs:List Value)(hv:Tm.rep A w t vs):Calls Tryz.prog 121 #[.agg vs.toArray] w (Pure w fun v _=>v= .int .i64 t.nodes):=by
 obtain⟨sa,sc,rfl, -⟩:=Tm.dw hv;have HV:=zh (Tm.aj.2.1 _ (fun b=>b<w.heap.size) _ _ _ hv (fun b hb _=>hb));have jJ:=zh hnd;clear hv hnd;go_enter Tryz.func121,Tryz.ntmps121;go_wp2_with fail;go_upto_region 1 with fail;go_cut[3,4](fun n q wr=>n= .int .i64 0/\kJ wr w.heap.size (fun b=>b<w.heap.size) [t] q/\Below w.heap.size w wr);case first=>go_region;all_goals go_wp2_with fail;go_meet;refine⟨rfl,kJ.one (bB (A:=fun _=>True) (show((w.alloc (.cells #[.int .i64 t.kind,.int .i64 t.n,.string t.s,.slice sa t.args.length sc] 34)).alloc (.cells #[.int .i64 t.kind,.int .i64 t.n,.string t.s,.slice sa t.args.length sc] 34)).heap[w.heap.size+1]?=_ from(je w _ _).2) (af.drew _ _) trivial) (by omega) (Tm.aj.1 _ _ _ _ _ HV.o (((af.alloc _ _ _).trans (af.alloc _ _ _)).trans (af.drew _ _))),?_⟩;exact(((iF _ w).alloc (zL _) _).alloc (by simp) _).drew
 case rest=>
  obtain⟨rfl,hq,hb⟩:=hcut;go_wp2_with fail;go_loopw[3,4](fun n v wr=>∃(m:Nat)(q:List Tm),n= .int .i64 m/\m+Tm.bq q=t.nodes/\kJ wr w.heap.size (fun b=>b<w.heap.size) q v/\Below w.heap.size w wr)(fun n _ _=>t.nodes - (intOf n).toNat);case atStart=>exact⟨0,[t],rfl,by simp[Tm.bq],hq,hb⟩
  case round=>
   obtain⟨m,q,rfl,hm,hQ,hB⟩:=hrel;have HM:=zh hm;have HQ:=zh hQ;have HB:=zh hB;clear hm hQ hB hq hb;cases q with
    |nil=>obtain⟨va,vc,rfl, -⟩:=HQ.o.val;go_wp2_with fail;go_ret;refine⟨_,rfl,HB.o,?_⟩;have :=HM.o;simp only[Tm.bq,qw]at this;rw[this];rfl
    |cons x r=>
     obtain⟨g,off,cap,xa,xc,rfl,hle,hcm,hgl,c0,c1,c2,c3,hx⟩:=HQ.o.head;have HX:=zh hx;clear hx;have hm1:m<4194304:=by have h1:=HM.o;have h2:=jJ.o;have h3:=Gp x;simp only[Tm.bq]at h1;omega
     have HLN:=zh (show r.length+x.args.length<=4194304 by have h1:=HM.o;have h2:=jJ.o;have h3:=Gp x;have h4:=abN r;have h5:=abN x.args;simp only[Tm.bq]at h1;omega);go_wp2_with fail;go_upto_region 4 with fail;have uJ:=zh (fun(a':Option Addr)(ha:1<cap->a'=some ⟨g,off+4,none⟩)=>kJ.keeps (B:=fun _=>True) (kJ.tail HQ.o ha) ((af.alloc _ _ (.cells #[.int .i64 x.kind,.int .i64 x.n,.string x.s,.slice xa x.args.length xc] 34)).trans (af.drew _ _)) (fun _ _=>trivial) (fun _ _=>trivial));go_cut[4](fun v' wr'=>kJ wr' w.heap.size (fun b=>b<w.heap.size) (r++x.args) v'/\Below w.heap.size w wr');case first=>
      have aA9:(1:Int)<=(r.length:Int)+1:=by omega
      have HBZ:=zh (show w.heap.size<=((wr.alloc (.cells #[.int .i64 x.kind,.int .i64 x.n,.string x.s,.slice xa x.args.length xc] 34)).drew).heap.size by have :=HB.o.size;simp;omega);have zY:=zh (show eP (fun b=>b<w.heap.size) ((wr.alloc (.cells #[.int .i64 x.kind,.int .i64 x.n,.string x.s,.slice xa x.args.length xc] 34)).drew) x.args (.slice xa x.args.length xc)by obtain⟨sa',eQ,e,h⟩:=Tm.dw (Tm.aj.1 _ _ _ _ _ HX.o ((af.alloc _ _ (.cells #[.int .i64 x.kind,.int .i64 x.n,.string x.s,.slice xa x.args.length xc] 34)).trans (af.drew _ _)));simp only[tL,dC,lF,dL]at e;obtain⟨rfl,rfl⟩:=e;exact h.2.2.2.2.2.2);go_region_law(refine awX rfl (.tmp 15) (.tmp 17) rfl w.heap.size _ r x.args rfl (uJ.o (if cap=1 then some ⟨g,off,none⟩else some ⟨g,off+4,none⟩) (fun h=>ag (by omega))) _ rfl zY.o (fun _ h=>h) ⟨HLN.o,HBZ.o⟩ ?_;intro v2 w2 hq2 hb2);all_goals(try go_wp2_with fail)
      all_goals go_meet;exact⟨hq2,HB.o.trans ((((iF _ wr).alloc HB.o.size _).drew).trans hb2)⟩
     case rest=>
      obtain⟨hq,hb⟩:=hcut;have HQ3:=zh hq;have HB3:=zh hb;clear hq hb;go_wp2_with fail;go_roundw;case rel=>refine⟨m+1,r++x.args,by go_num,?_,HQ3.o,HB3.o⟩;have h1:=HM.o;have h2:=Gp x;rw[awY];simp only[Tm.bq]at h1;omega
      case measure=>have h1:=HM.o;have h2:=Gp x;simp only[Tm.bq]at h1;simp[intOf];omega
