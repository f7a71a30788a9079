import Derived.RangeFuncNested
import Derived.RangeFuncBound
import Derived.RangeFuncCalls
import Derived.RangeFuncLeaves
import Derived.RangeFuncBox
import Derived.Shelf.Abstract
import Derived.OwnWalkIn
import Derived.TacticsInMore
import Derived.LoopNIn
import Derived.LoopIn
import Derived.Test.YtlpmfkpefoegeacGreatDoorQMach5
namespace Go.Proofs.YtlpmfkpefoegeacGreatDoor
set_option maxRecDepth 99999
set_option maxHeartbeats 0
set_option linter.all false
open Go.RowKit Go.Shelf
section
variable {P : Program} {ops : Array Oper} {Q : Exit → Act → World → Prop} {n l : Nat}
theorem ame{o:Oper}{a:Act}{w:World}{K K':Act->World->Prop}(hd:∀c,o.op≠ .defer c)(hK:∀a w,K a w->K' a w)(h:o.wp P a w K Q):o.wpIn (Fence.wide.inRound l) n P a w K' Q:=by refine⟨fun _ _=>trivial,?_⟩;have e:o.semAt (Fence.wide.inRound l).round a.eval=execOp a.eval o:=Oper.semAt_some l _ _ hd;rw[e];unfold Oper.wp at h;generalize(execOp a.eval o).run P w=r at*;cases r with
 |ok x w'=>cases x with
  |value v=>exact hK _ _ h
  |skip=>exact hK _ _ h
  |defer d=>exact hK _ _ h
  |enter f args=>refine⟨(fun h=>by cases h),?_⟩;refine CallsIn.inRound l (callsIn_wide.2 (Calls.mono h fun e w'' he=>?_));cases e with|returned v=>exact hK _ _ he|panicked c=>exact he|outgrown=>exact he
  |row row args=>refine⟨(fun h=>by cases h),?_⟩;intro c cs _;obtain⟨v,w',hr,hs⟩:=h c cs;exact⟨v,w',hK _ _ hr,stepsIn_wide.2 hs⟩
  |_=>exact h.elim
 |halt x w'=>cases x<;>first|exact h|exact h.elim
theorem Og(hd:∀(i:Nat)(o:Oper)c,ops[i]?=some o->o.op≠ .defer c)(hL:¬LetsOut Q):∀(fuel:Nat)(listed:Array Bool)(a:Act)(w:World),wpAny P .any ops Q fuel listed a w->wpAnyIn (Fence.wide.inRound l) n P .any ops Q fuel listed a w
 |0,_,_,_,h=>h
 |fuel+1,listed,a,w,h=>by
  refine⟨h.1,fun i hi=>?_⟩;have h1:=h.2 i hi;unfold wpOp at h1;unfold wpOpIn;cases ho:ops[i]? with
   |none=>rw[ho]at h1;exact Og hd hL fuel _ a w h1
   |some o=>
    rw[ho]at h1;simp only at h1 ⊢;split
    ·rename_i hw;rw[ah hw]at h1;rcases h1 with h1|h1;·exact ame (hd i o · ho) (fun a w h=>Og hd hL fuel _ a w h) h1
     ·exact absurd h1.2 hL
    ·rename_i hw;rw[ae hw]at h1;exact⟨fun _ _=>trivial,Og hd hL fuel _ _ w h1⟩
def Ue(ops:Array Oper):Bool:=ops.toList.all fun o=>match o.op with| .defer _=>false|_=>true
theorem amf(h:Ue ops=true)(i:Nat)(o:Oper)(c:Call)(ho:ops[i]?=some o):o.op≠ .defer c:=by intro e;unfold Ue at h;rw[qx]at h;have :=h o (by rw[<-pE]at ho;exact Qc ho);rw[e]at this;cases this
end
abbrev Sm:={a:Int // 0<=a/\a<=1000000}
attribute [local go_sem] Oper.semAt_some
def Gf(zs:List Sm)(k:Nat):List (Nat×Sm):=((List.range k).filterMap fun j=>(zs[zs.length - 1 - j]?).map fun x=>(zs.length - 1 - j,x))
theorem Uf{zs:List Sm}{k:Nat}(hk:k<zs.length):Gf zs (k+1)=Gf zs k++[(zs.length - 1 - k,zs[zs.length - 1 - k]'(by omega))]:=by unfold Gf;rw[XK,List.filterMap_append,List.filterMap_cons];rw[aS (by omega)];simp
theorem aco{zs:List Sm}:∀{k:Nat},k<=zs.length->(Gf zs k).length=k|0,_=>rfl|k+1,hk=>by rw[Uf (by omega),bA,aco (by omega)];simp
theorem acp{zs:List Sm}:∀{k:Nat},k<=zs.length->(Gf zs k).map (·.2)=zs.reverse.take k|0,_=>rfl|k+1,hk=>by rw[Uf (by omega),mF,acp (by omega),fF (by simpa using(show k<zs.length by omega))];simp[List.getElem_reverse]
theorem amg(F:Fence)(n:Nat)(hf:F.fn 101)(hro:F.round=none)(hn:1<=n)(l Bs b off cap:Nat)(a0:Option Addr)(zs:List Sm)(hlen:zs.length<=1000000)(D:Nat->Prop)(hDs:D Bs)(Gg:0<zs.length->a0=some ⟨b,off,none⟩/\D b)(J Jx:List (Nat×Sm)->World->Prop)(hY:∀pre x W,J pre W->pre.length<zs.length->YieldAt F (n - 1) Tryz.prog l #[.int .i64 (x.1:Int),.int .i64 x.2.1] W fun e W'=>(e= .returned (.bool true)/\J (pre++[x]) W'/\ag D W W')\/(e= .returned (.bool false)/\Jx (pre++[x]) W'))(W:World)(JZ:W.cell? ⟨Bs,0,none⟩=some (.slice a0 zs.length cap))(hc:∀j(hj:j<zs.length),W.cell? ⟨b,off+j,none⟩=some (.int .i64 zs[j].1))(h0:J [] W):CallsIn F n Tryz.prog 101 #[.func (.yield l) #[] #[],.pointer (some ⟨Bs,0,none⟩)] W fun e W'=>(∃v,e= .returned v)/\((∃ys,ys.map (·.2)=zs.reverse/\J ys W')\/(∃pre,True/\Jx pre W')):=by
 refine callsIn_of_wp Tryz.func101 rfl hf ?_ hro;simp only[Tryz.ntmps101,Qi,bn,fC,Nat.reduceAdd,Nat.reduceSub,agk,agj,agu,agm,xn,mE];have HC:=zh hc;have HDB:=zh Gg;have Oh:=zh JZ;clear hc Gg;gi_wp2;gi_loopw[3](fun i wr=>∃k:Nat,k<=zs.length/\i= .int .i64 ((zs.length:Int) - 1 - (k:Int))/\J (Gf zs k) wr/\ag D W wr)(fun i _=>(intOf i+1).toNat);case atStart=>exact⟨0,dD _,by simp,h0,ag.refl _ _⟩
 case round=>
  obtain⟨k,hk,rfl,hJs,hnx⟩:=hrel;have fV:=zh hnx;have hk0:(0:Int)<=(k:Int):=zN _;have hbs:wr.cell? ⟨Bs,0,none⟩=some (.slice a0 zs.length cap):=hnx.cell hDs JZ;clear JZ hnx;by_cases hlt:k<zs.length
  ·have hidx:((zs.length:Int) - 1 - (k:Int))=((zs.length - 1 - k:Nat):Int):=by omega
   obtain⟨rfl,hD⟩:=HDB.o (by omega);have hcx:=fV.o.cell hD (HC.o (zs.length - 1 - k) (by omega));have hsu:=Uf hlt;have hkl:zs.length - 1 - k<zs.length:=by omega
   obtain⟨z,hz⟩:∃z,z=zs[zs.length - 1 - k]'hkl:=⟨zs[zs.length - 1 - k]'hkl,rfl⟩;rw[<-hz]at hcx hsu;obtain⟨m,hm⟩:∃m,m=zs.length - 1 - k:=⟨_,rfl⟩;have fP:m<zs.length:=by omega
   obtain⟨fn,tmps,assign,body,hy,hR⟩:=hY _ (m,z) wr hJs (by rw[aco (by omega)];exact hlt);dsimp only at hy;rw[<-hm]at hcx hsu hidx;have HSU:=zh hsu;rw[hidx];clear hz hsu hJs;have hm0:(0:Int)<=(m:Int):=zN _;have hm1:(m:Int)<(zs.length:Int):=by omega
   have hmk:(m:Int) - 1=(zs.length:Int) - 1 - ((k+1:Nat):Int):=by omega
   have jh:=zh hmk;clear hidx hm hmk;gi_wp2;refine hR.mono ?_;rintro e W3(⟨rfl,hJ3,hk3⟩|⟨rfl,hJx3⟩)
   ·gi_wp2;go_roundw;case rel=>exact⟨k+1,by omega,by rw[jh.o],by rw[HSU.o];exact hJ3,fV.o.trans hk3⟩
    case measure=>simp only[intOf];omega
   ·gi_wp2;refine cK (results_none rfl _ _ _) rfl ?_;exact⟨⟨_,rfl⟩,.inr ⟨_,trivial,hJx3⟩⟩
  ·obtain rfl:k=zs.length:=by omega
   have hneg:(zs.length:Int) - 1 - (zs.length:Int)= -1:=by omega
   rw[hneg];gi_wp2;go_end0;exact⟨⟨_,rfl⟩,.inl ⟨_,by rw[acp (zL _),jU (by simp)],hJs⟩⟩
theorem amj(F:Fence)(n:Nat)(hf:F.fn 61)(hro:F.round=none)(a:Option Addr)(len cap:Nat)(w:World):CallsIn F n Tryz.prog 61 #[.slice a len cap] w fun e w'=>e= .returned (.func (.func 101) #[] #[.pointer (some ⟨w.heap.size,0,none⟩)])/\w'=w.alloc (.cells #[.slice a len cap] 57):=by refine callsIn_of_wp Tryz.func61 rfl hf ?_ hro;simp only[Tryz.ntmps61,Qi,bn,fC,Nat.reduceAdd,Nat.reduceSub,agk,agj,agu,agm,xn,mE];gi_wp2;go_ret;exact⟨rfl,rfl⟩
theorem amk(F:Fence)(n:Nat)(hf:F.fn 101)(hro:F.round=none)(hn:1<=n)(Bs b off cap:Nat)(a0:Option Addr)(zs:List Sm)(hlen:zs.length<=1000000)(D:Nat->Prop)(hDs:D Bs)(Gg:0<zs.length->a0=some ⟨b,off,none⟩/\D b)(w:World)(JZ:w.cell? ⟨Bs,0,none⟩=some (.slice a0 zs.length cap))(hc:∀j(hj:j<zs.length),w.cell? ⟨b,off+j,none⟩=some (.int .i64 zs[j].1)):SeqStopsK F n Tryz.prog 101 #[.pointer (some ⟨Bs,0,none⟩)] (fun x:Nat×Sm=>#[Value.int .i64 (x.1:Int),Value.int .i64 x.2.1]) (ag D) (fun ys=>ys.map (·.2)=zs.reverse) (fun _=>True) zs.length w:=fun l J Jx W hW _ _ hY h0=>amg F n hf hro hn l Bs b off cap a0 zs hlen D hDs Gg J Jx hY W (bc hW JZ) (fun j hj=>bc hW (hc j hj)) h0
theorem aml{D:Nat->Prop}{w:World}(hD:∀b,D b->b<w.heap.size)(W:World)(l:Nat)(o o':Obj)(hl:w.heap.size<=l)(h:W.heap[l]?=some o)(_:o.isCells=false)(_:o.isWalk=false):ag D W (W.putObj l o'):=⟨by simp,fun b hb Gg=>World.putObj_heap_other (fun e=>by have :=hD b Gg;omega)⟩
section
variable {P : Program} {ops : Array Oper} {Q : Exit → Act → World → Prop} {n l : Nat} {FF : Nat → World → Prop}
theorem amm{id:Nat}{a:Act}{w:World}(hm:P.follows .mixedOrders=true)(hd:Ue ops=true)(hL:¬LetsOut Q)(h:mI P ops Q FF ops.size (Array.replicate ops.size false) a w.drew):(Code.region id ops true).wpIn (Fence.wide.inRound l) n P Q a w:=wpIn_region_any hm (Og (amf hd) hL _ _ _ _ (QA _ _ _ _ h))
end
attribute [local go_sem] Oper.semAt_some
def pq(base:Int)(bar:Nat)(l:List Int)(st:List Gm×Int):List Gm×Int:=l.foldl (fun st a=>(st.1++[⟨base+a,bar,st.2⟩],(st.1.length:Int))) st
theorem Oi(base:Int)(bar:Nat)(gs:List Gm)(nx:Int):∀(zs:List Int),eH base bar zs gs nx=pq base bar zs.reverse (gs,nx)|[]=>rfl|a::r=>by rw[eH,agt,pq,Qj];have :=Oi base bar gs nx r;unfold pq at this;rw[<-this];rfl
theorem acr(base:Int)(bar:Nat)(l:List Int)(a:Int)(st:List Gm×Int):pq base bar (l++[a]) st=((pq base bar l st).1++[⟨base+a,bar,(pq base bar l st).2⟩],((pq base bar l st).1.length:Int)):=by unfold pq;rw[Qj];rfl
theorem Oj(base:Int)(bar:Nat):∀(l:List Int)(st:List Gm×Int),(pq base bar l st).1.length=st.1.length+l.length|[],st=>rfl|a::r,st=>by have :=Oj base bar r (st.1++[⟨base+a,bar,st.2⟩],(st.1.length:Int));unfold pq at this ⊢;rw[He,this];simp only[bA,bn,fC];omega
theorem Ug(base:Int)(bar:Nat)(l:List Int)(st:List Gm×Int)(h:au st.2)(hl:st.1.length+l.length<=1000000):au (pq base bar l st).2:=by
 rcases List.eq_nil_or_concat l with rfl|⟨r,a,rfl⟩;·exact h
 ·rw[List.concat_eq_append]at hl ⊢;rw[acr];have :=Oj base bar r st;simp only[bA,dW]at hl;unfold au;simp only;omega
theorem amn:mH Tryz.prog 60 117 3 24:= .mk' (z:= .agg #[.int .i64 0,.int .i64 0,.int .i64 0]) Tryz.underlying60 (by kernel_rfl) rfl (by omega) (by omega)
section
variable {base : Nat} {P : List Cl} {q g : Nat} {pv hc ht : Value} {o : Mo} {m : Mv} {w : World}
structure Ol (base n0 n2 n3 n4 B q g : Nat) (pv hc ht : Value) (o : Mo) (m : Mv) (base0 : Int) (bar : Nat) (nx : Int) (w : World) (pre : List (Nat × Sm)) (qZ : Value) (W : World) : Prop where
  box : W.heap[g]? = some (.cells #[pv, hc, ht, qZ, o.cv, .int .i64 m.now, .int .i64 (q : Int), .int .i64 m.query, .int .i64 (m.fuel : Int), o.ov] 63 (0, 0))
  own : oV W base (pq base0 bar (pre.map fun x => x.2.1) (m.goals, nx)).1 qZ
  grow : ∀ b, ownB qZ = some b → ownB o.gv = some b ∨ B ≤ b
  ch : Ch (fun b => b = g ∨ ownB o.gv = some b) w W
  size : B ≤ W.heap.size
  x0 : Boxed W n0 54 (.pointer (some ⟨g, 0, none⟩))
  x2 : Boxed W n2 3 (.int .i64 base0)
  x3 : Boxed W n3 3 (.int .i64 (bar : Int))
  x4 : Boxed W n4 3 (.int .i64 (pq base0 bar (pre.map fun x => x.2.1) (m.goals, nx)).2)
def PuE(base n0 n2 n3 n4 B q g:Nat)(pv hc ht:Value)(o:Mo)(m:Mv)(base0:Int)(bar:Nat)(nx:Int)(w:World)(pre:List (Nat×Sm))(W:World):Prop:=∃qZ,Ol base n0 n2 n3 n4 B q g pv hc ht o m base0 bar nx w pre qZ W
theorem Ol.move{n0 n2 n3 n4 B:Nat}{base0 nx:Int}{bar:Nat}{pre:List (Nat×Sm)}{qZ:Value}{W W':World}{row:Option Nat}(h:Ol base n0 n2 n3 n4 B q g pv hc ht o m base0 bar nx w pre qZ W)(hB:w.heap.size<=B)(hg:W.grownBy W' row)(hr:∀r,row=some r->B<=r/\∃o:Obj,W.heap[r]?=some o/\o.isCells=false):Ol base n0 n2 n3 n4 B q g pv hc ht o m base0 bar nx w pre qZ W':=by
 have hk:∀{k:Nat}{c:Array Value}{E:TypeId}{fr:Nat×Nat},W.heap[k]?=some (.cells c E fr)->W'.heap[k]?=some (.cells c E fr):=fun{k c E fr}hc=>by refine(hg.block k (aD hc) fun e=>?_).trans hc;obtain⟨_,o',ho',hn⟩:=hr k e.symm;rw[hc]at ho';cases ho';cases hn
 refine⟨hk h.box,h.own.kept fun k hk'=>?_,h.grow,h.ch.grown hg (fun k e=> .inr (by have :=(hr k e).1;omega)),dM h.size hg.size,hk h.x0,hk h.x2,hk h.x3,hk h.x4⟩;obtain⟨c,hc⟩:=oU h.own.1 hk';rw[hk hc,hc]
theorem Uh(cv gv:Value)(bv bh:Int)(zs:List Int)(base0:Int)(bar:Nat)(nx:Int)(hgv:fI (fun b=>b<base/\b≠g) w zs gv)(hz:∀a∈zs,0<=a/\a<=1000000)(hb0:0<=base0)(hb1:base0<=1000000)(qX:bar<=1000000)(hnx:au nx)(hfit:m.goals.length+zs.length<=6000)(h:bT base P q g pv hc ht o m w):Calls Tryz.prog 34 #[.pointer (some ⟨g,0,none⟩),.agg #[cv,.int .i64 bv,.int .i64 bh,gv],.int .i64 base0,.int .i64 (bar:Int),.int .i64 nx] w (fun e w'=>e= .returned (.int .i64 (eH base0 bar zs m.goals nx).2)/\bJ base P q g pv o {m with goals:=(eH base0 bar zs m.goals nx).1} w w'):=by
 obtain⟨zz,rfl⟩:∃zz:List Sm,zs=zz.map (·.1):=⟨zs.pmap (fun a h=>⟨a,h⟩) hz,by simp[List.map_pmap]⟩;rw[Oi];have HU:=zh h;have fV:=zh hnx;rw[jq]at hfit;have zS:=zh hfit;obtain⟨hl1,hl2⟩:=h.lt;have hgb:=h.bg.1;have y8:=zh h.apart;obtain⟨ga,nP,gb,acu,rfl,Rk,aim,asJ,hga,hge⟩:=aj.at hgv;rw[jq]at hga Rk;simp only[jq]at*;have Om:=zh hga;have IE:=zh (fun(W:World)(hk:ag (fun b=>b<base/\b≠g) w W)(j:Nat)(hj:j<zz.length)=>(show W.cell? ⟨gb,acu+j,none⟩=some (.int .i64 zz[j].1)from by have h1:=AO hge (hga (by omega)).2 hk (k:=j) (by simpa using hj);simpa using h1.1));clear h hgv hz hnx hga hge hfit;refine(callsIn_wide (n:=3)).1 ?_;refine callsIn_of_wp_marks Tryz.func34 rfl trivial ?_ rfl;simp only[Tryz.ntmps34,Qi,bn,fC,Nat.reduceAdd,Nat.reduceSub,agk,agj,agu,agm,xn,mE];gi_wp2_with(refine⟨trivial,?_⟩;gi_at_call 61;refine(amj Fence.wide _ trivial rfl _ _ _ _).mono ?_;rintro e w'⟨rfl,rfl⟩);obtain⟨pa,pc,ga2,gc2,ca,cc,oa,oc,ha,hac,hb,hbc,rfl,ZW,yQ,hvo,rfl,rfl, -⟩:=HU.o.vals;obtain⟨W1,hW1⟩:∃W1,W1=(((((w.alloc (.cells #[.pointer (some ⟨g,0,none⟩)] 54)).alloc (.cells #[cv,.int .i64 bv,.int .i64 bh,.slice ga zz.length nP] 67)).alloc (.cells #[.int .i64 base0] 3)).alloc (.cells #[.int .i64 (bar:Int)] 3)).alloc (.cells #[.int .i64 nx] 3)).alloc (.cells #[.slice ga zz.length nP] 57):=⟨_,rfl⟩;try rw[<-hW1]
 obtain⟨n2,hn2⟩:∃n2,n2=w.heap.size+1+1:=⟨_,rfl⟩;obtain⟨n3,Fg⟩:∃n3,n3=w.heap.size+1+1+1:=⟨_,rfl⟩;obtain⟨n4,rX⟩:∃n4,n4=w.heap.size+1+1+1+1:=⟨_,rfl⟩;obtain⟨n5,Ui⟩:∃n5,n5=w.heap.size+1+1+1+1+1:=⟨_,rfl⟩;have HB1:=zh (show Below w.heap.size w W1 by rw[hW1];exact((((((zB _ _).alloc (zL _) _).alloc (by simp only[bF];omega) _).alloc (by simp only[bF];omega) _).alloc (by simp only[bF];omega) _).alloc (by simp only[bF];omega) _).alloc (by simp only[bF];omega) _);have Bz:=zh (show W1.heap.size=w.heap.size+6 by rw[hW1];simp only[bF]);have X0:=zh (show Boxed W1 w.heap.size 54 (.pointer (some ⟨g,0,none⟩))by rw[hW1];exact aX (aX (aX (aX (aX (bV w _) _) _) _) _) _);have X2:=zh (show Boxed W1 n2 3 (.int .i64 base0)by rw[hW1,hn2];have :=bV ((w.alloc (.cells #[.pointer (some ⟨g,0,none⟩)] 54)).alloc (.cells #[cv,.int .i64 bv,.int .i64 bh,.slice ga zz.length nP] 67)) (.cells #[.int .i64 base0] 3);simp only[bF]at this;exact aX (aX (aX this _) _) _);have X3:=zh (show Boxed W1 n3 3 (.int .i64 (bar:Int))by rw[hW1,Fg];have :=bV (((w.alloc (.cells #[.pointer (some ⟨g,0,none⟩)] 54)).alloc (.cells #[cv,.int .i64 bv,.int .i64 bh,.slice ga zz.length nP] 67)).alloc (.cells #[.int .i64 base0] 3)) (.cells #[.int .i64 (bar:Int)] 3);simp only[bF]at this;exact aX (aX this _) _);have X4:=zh (show Boxed W1 n4 3 (.int .i64 nx)by rw[hW1,rX];have :=bV ((((w.alloc (.cells #[.pointer (some ⟨g,0,none⟩)] 54)).alloc (.cells #[cv,.int .i64 bv,.int .i64 bh,.slice ga zz.length nP] 67)).alloc (.cells #[.int .i64 base0] 3)).alloc (.cells #[.int .i64 (bar:Int)] 3)) (.cells #[.int .i64 nx] 3);simp only[bF]at this;exact aX this _);have X5:=zh (show Boxed W1 n5 57 (.slice ga zz.length nP)by rw[hW1,Ui];have :=bV (((((w.alloc (.cells #[.pointer (some ⟨g,0,none⟩)] 54)).alloc (.cells #[cv,.int .i64 bv,.int .i64 bh,.slice ga zz.length nP] 67)).alloc (.cells #[.int .i64 base0] 3)).alloc (.cells #[.int .i64 (bar:Int)] 3)).alloc (.cells #[.int .i64 nx] 3)) (.cells #[.slice ga zz.length nP] 57);simp only[bF]at this;exact this);rw[<-Ui,<-rX,<-Fg,<-hn2];have HN:=zh (show n2=w.heap.size+2/\n3=w.heap.size+3/\n4=w.heap.size+4/\n5=w.heap.size+5 from⟨by omega,by omega,by omega,by omega⟩);have Uj:=zh (show n5<W1.heap.size by rw[Bz.o];omega);clear hW1 hn2 Fg rX Ui;have hI0:OwnFrom W1.heap.size (PuE base w.heap.size n2 n3 n4 W1.heap.size q g (.slice pa P.length pc) (.slice ha m.h.cells.length hac) (.slice hb m.h.trail.length hbc) o m base0 bar nx w):=fun s W W' row⟨qZ,hs⟩hg hr=>⟨qZ,hs.move HB1.o.size hg hr⟩;refine wpIn_rangeFunc_ownG (F:=Fence.wide) rfl (by omega) (gf:=101) (lb:=#[.pointer (some ⟨n5,0,none⟩)]) rfl trivial (enters_of Tryz.func101 (by kernel_rfl) rfl) (amk Fence.wide 2 trivial rfl (by omega) n5 gb acu nP ga zz (by have :=zS.o;omega) (fun b=>(b<base/\b≠g)\/b=n5) (.inr rfl) (fun h0=>⟨(Om.o h0).1,.inl (Om.o h0).2⟩) W1 X5.out.cell (fun j hj=>IE.o W1 (ag.ob HB1.o) j hj)) (fun h k=>h.trans k) (aml (fun b hb=>by rcases hb with hb|rfl;have :=HB1.o.size;omega;exact Uj.o)) (zB _ _) (fun _=>rfl) (PuE base w.heap.size n2 n3 n4 W1.heap.size q g (.slice pa P.length pc) (.slice ha m.h.cells.length hac) (.slice hb m.h.trail.length hbc) o m base0 bar nx w) (fun _ _ _=>False) hI0 (fun _ _ _ _ _ hs _ _=>hs) ⟨o.gv,aL HU.o.box HB1.o,HU.o.goals.below HB1.o,fun b hb=> .inl hb,Ch.of_below HB1.o,zL _,X0.out,X2.out,X3.out,X4.out⟩ (fun x=>{tmps:=#[.pointer (some ⟨g,0,none⟩),.agg #[cv,.int .i64 bv,.int .i64 bh,.slice ga zz.length nP],.int .i64 base0,.int .i64 (bar:Int),.int .i64 nx,.pointer (some ⟨w.heap.size,0,none⟩),.pointer (some ⟨w.heap.size+1,0,none⟩),.pointer (some ⟨n2,0,none⟩),.pointer (some ⟨n3,0,none⟩),.pointer (some ⟨n4,0,none⟩),.int .i64 0,undef,.int .i64 x.2.1,.pointer (some ⟨w.heap.size+1,3,none⟩),.slice ga zz.length nP,.func (.func 101) #[] #[.pointer (some ⟨n5,0,none⟩)],.int .i64 (x.1:Int),.int .i64 x.2.1,undef,undef,undef,undef,undef,undef,undef,undef,undef,undef,undef,undef,undef,undef,undef,undef,undef,undef,undef,undef,undef,undef],defers:=[]}) ?assign ?body ?done ?stop;case assign=>intro l x W K hK;gi_wp2;exact hK
 case body=>
  rintro l pre⟨xi,a,ha0,ha1⟩W⟨qZ,hs⟩hlen;obtain⟨st,hst⟩:∃st,st=pq base0 bar (pre.map fun x=>x.2.1) (m.goals,nx):=⟨_,rfl⟩;have HST:=zh hst;have uu:=zh (show st.1.length=m.goals.length+pre.length by rw[hst,Oj,jq]);have hfit:=zS.o;have asM:st.1.length<=5999:=by rw[uu.o];omega
  have HSN:=zh (show au st.2 by rw[hst];exact Ug _ _ _ _ fV.o (by rw[jq];simp only;omega));have hown:=hs.own;have hx4:=hs.x4;rw[<-hst]at hown hx4;have HOWN:=zh hown;have HS:=zh hs;obtain⟨va,vc,hv,hvl,mM⟩:=af.val hown;subst hv;have hbx:=hs.box;rw[yQ,hvo]at hbx;obtain⟨b0,b1,b2,b3,b4,b5,b6,b7,b8,b9,bf⟩:=bP hbx;have HX0:=zh hs.x0;have bG:=zh hs.x2;have jY:=zh hs.x3;have pR:=zh hx4;have fq:=zh hbx;have hsz1:=hs.size;have hwz:=Bz.o;have hgl:g<W.heap.size:=aD hbx;have hN:=HN.o;have oI:ownB (.slice va st.1.length vc)≠some g:=fun e=>by
   rcases HS.o.grow g e with e|e;·exact y8.o.gg e
   ·omega
  have qD:=zh oI;have hnb:∀k,w.heap.size<=k->k<W1.heap.size->ownB (.slice va st.1.length vc)≠some k:=fun k h1 h2 e=>by
   rcases HS.o.grow k e with e|e;·have :=(HU.o.goals.lt k e).2;omega
   ·omega
  have x8:=zh hnb;unfold maxLen at mM;clear hst hs hown hx4 hbx oI hnb hN;dsimp only;gi_wp2_with fail;have HF:∀{k:Nat},((k<=10->Boxed W.drew w.heap.size 54 (.pointer (some ⟨g,0,none⟩))/\Boxed W.drew n2 3 (.int .i64 base0)/\Boxed W.drew n3 3 (.int .i64 (bar:Int))/\Boxed W.drew n4 3 (.int .i64 st.2))/\(k=4->W.drew.cell? ⟨g,3,none⟩=some (.slice va st.1.length vc))):=fun{k}=>⟨fun _=>⟨HX0.o,bG.o,jY.o,pR.o⟩,fun _=>b3⟩;refine amm (FF:=fun k w'=>(k<=10->Boxed w' w.heap.size 54 (.pointer (some ⟨g,0,none⟩))/\Boxed w' n2 3 (.int .i64 base0)/\Boxed w' n3 3 (.int .i64 (bar:Int))/\Boxed w' n4 3 (.int .i64 st.2))/\(k=4->w'.cell? ⟨g,3,none⟩=some (.slice va st.1.length vc))) (by kernel_rfl) (by kernel_rfl) (fun⟨_,_,h⟩=>h) ?_;clear b0 b1 b2 b3 b4 b5 b6 b7 b8 b9 bf;refine aC (i:=0) (v:=?_) rfl (Or.inl ⟨by rfl,?_⟩) HF ?_;rotate_left;·(intro w' hw;obtain⟨q0,q2,q3,q4⟩:=hw.1 (by decide);have f0:=q0.cell;have f2:=q2.cell;have f3:=q3.cell;have f4:=q4.cell;clear q0 q2 q3 q4 hw;go_simp<;>with_reducible rfl)
  try simp only[zP]
  refine aC (i:=1) (v:=?_) rfl (Or.inl ⟨by rfl,?_⟩) HF ?_;rotate_left;·(intro w' hw;obtain⟨q0,q2,q3,q4⟩:=hw.1 (by decide);have f0:=q0.cell;have f2:=q2.cell;have f3:=q3.cell;have f4:=q4.cell;clear q0 q2 q3 q4 hw;go_simp<;>with_reducible rfl)
  try simp only[zP]
  refine zT 2 HF ?_;try simp only[zP]
  refine zT 3 HF ?_;try simp only[zP]
  refine aC (i:=4) (v:=?_) rfl (Or.inl ⟨by rfl,?_⟩) HF ?_;rotate_left;·(intro w' hw;have f5:=hw.2 rfl;clear hw;go_simp<;>with_reducible rfl)
  try simp only[zP]
  refine aC (i:=5) (v:=?_) rfl (Or.inl ⟨by rfl,?_⟩) HF ?_;rotate_left;·(intro w' hw;obtain⟨q0,q2,q3,q4⟩:=hw.1 (by decide);have f0:=q0.cell;have f2:=q2.cell;have f3:=q3.cell;have f4:=q4.cell;clear q0 q2 q3 q4 hw;go_simp<;>with_reducible rfl)
  try simp only[zP]
  refine zT 6 HF ?_;try simp only[zP]
  refine aC (i:=7) (v:= .int .i64 (base0+a)) rfl (Or.inl ⟨by rfl,?_⟩) HF ?_;·(intro w' hw;clear hw;go_simp;exact Cw _ (by omega))
  try simp only[zP]
  refine aC (i:=8) (v:=?_) rfl (Or.inl ⟨by rfl,?_⟩) HF ?_;rotate_left;·(intro w' hw;obtain⟨q0,q2,q3,q4⟩:=hw.1 (by decide);have f0:=q0.cell;have f2:=q2.cell;have f3:=q3.cell;have f4:=q4.cell;clear q0 q2 q3 q4 hw;go_simp<;>with_reducible rfl)
  try simp only[zP]
  refine aC (i:=9) (v:=?_) rfl (Or.inl ⟨by rfl,?_⟩) HF ?_;rotate_left;·(intro w' hw;obtain⟨q0,q2,q3,q4⟩:=hw.1 (by decide);have f0:=q0.cell;have f2:=q2.cell;have f3:=q3.cell;have f4:=q4.cell;clear q0 q2 q3 q4 hw;go_simp<;>with_reducible rfl)
  try simp only[zP]
  refine zT 10 HF ?_;try simp only[zP]
  refine aM (i:=11) (by kernel_rfl) (aF rfl (by rfl) ?_);go_simp;refine⟨fun k _ hF=>⟨fun hle=>⟨(hF.1 hle).1.alloc _,(hF.1 hle).2.1.alloc _,(hF.1 hle).2.2.1.alloc _,(hF.1 hle).2.2.2.alloc _⟩,fun e=>bc ((zB _ _).alloc (zL _) _) (hF.2 e)⟩,?_⟩;refine aM (i:=12) (by kernel_rfl) (aF rfl (by rfl) ?_);refine rH (.tmp 22) (.tmp 29) 60 rfl base 117 3 24 amn (yI abT) (A:=fun _=>True) (.slice va st.1.length vc) st.1 rfl ((HOWN.o.eZ TB (fun _=>True)).below (yI abT) ((zB _ _).drew)) ⟨base0+a,bar,st.2⟩ [.int .i64 (base0+a),.int .i64 (bar:Int),.int .i64 st.2] (by rfl) rfl ⟨⟨by unfold au;simp only;omega,HSN.o,qX⟩,rfl⟩ ⟨by omega,by simp only[ig];omega⟩ ?_;intro v2 w2 hown2 az;have HG2:=zh az;have Gh:∀{k:Nat}{c:Array Value}{E:TypeId}{fr:Nat×Nat},ownB (.slice va st.1.length vc)≠some k->W.heap[k]?=some (.cells c E fr)->w2.heap[k]?=some (.cells c E fr):=fun{k c E fr}hne hc=>by refine(HG2.o.grown.block k ?_ (fun e=>hne e.symm)).trans (aX (show W.drew.heap[k]?=_ from hc) _);have :=aD hc;simp only[bF,ig];omega
  obtain⟨Js,Oo,Oq,Ot⟩:=HN.o;have HE0:=zh (x8.o w.heap.size (zL _) (by omega));have HE2:=zh (x8.o n2 (by omega) (by omega));have HE3:=zh (x8.o n3 (by omega) (by omega));have HE4:=zh (x8.o n4 (by omega) (by omega));have HY0:=zh (show Boxed w2 w.heap.size 54 (.pointer (some ⟨g,0,none⟩))from Gh HE0.o HX0.o);have TR:=zh (show Boxed w2 n2 3 (.int .i64 base0)from Gh HE2.o bG.o);have Bh:=zh (show Boxed w2 n3 3 (.int .i64 (bar:Int))from Gh HE3.o jY.o);have xI:=zh (show Boxed w2 n4 3 (.int .i64 st.2)from Gh HE4.o pR.o);have Ou:=zh (Gh qD.o fq.o);have bE:=zh (af.eB hown2);obtain⟨bN,bO,hv2,qK,qL⟩:=af.val bE.o;rw[show(st.1++[(⟨base0+a,bar,st.2⟩:Gm)]).length=st.1.length+1 by simp]at hv2 qK;subst hv2;have Gi:g<w2.heap.size:=aD Ou.o;have Uk:=zh (show ∀b,ownB (.slice bN (st.1.length+1) bO)=some b->ownB (.slice va st.1.length vc)=some b\/W.heap.size<=b from fun b hb=>by
   rcases az.block with e|e;·exact .inl (e▸hb)
   ·have h9:W.drew.heap.size+1<=b:=by have :=e b hb;simpa only[bF]using this
    exact .inr (Nat.le_of_succ_le h9));unfold maxLen at qL;refine⟨fun k _ hF=>⟨fun hle=>⟨(hF.1 hle).1.kept az.grown (fun e=>HE0.o e.symm),(hF.1 hle).2.1.kept az.grown (fun e=>HE2.o e.symm),(hF.1 hle).2.2.1.kept az.grown (fun e=>HE3.o e.symm),(hF.1 hle).2.2.2.kept az.grown (fun e=>HE4.o e.symm)⟩,fun _=>(dw Ou.o 3).trans rfl⟩,?_⟩;clear hown2 az Gh HF Js Oo Oq Ot;simp only[zP];obtain⟨k0,k1,k2,k3,k4,k5,k6,k7,k8,k9,kf⟩:=bP Ou.o;refine aM (i:=13) (by kernel_rfl) (aF rfl (by rfl) ?_);go_simp;refine⟨fun k _ hF=>hF,?_⟩;refine aM (i:=14) (by kernel_rfl) (aF rfl (by rfl) ?_);go_simp;refine⟨fun k _ hF=>hF,?_⟩;refine aM (i:=15) (by kernel_rfl) (aF rfl (by rfl) ?_);go_simp;have qU:∀k,w.heap.size<=k->g≠k:=fun k hk e=>by omega
  have HGN:=zh qU;have hS:∀{k:Nat}{o:Obj},k≠g->w2.heap[k]?=some o->(w2.setCell ⟨g,3,none⟩ (.slice bN (st.1.length+1) bO)).heap[k]?=some o:=fun hne h=>(bC _ _ _ _ hne).trans h;obtain⟨Js,Oo,Oq,Ot⟩:=HN.o;refine⟨fun k hk hF=>⟨fun hle=>⟨hS (fun e=>qU _ (zL _) e.symm) (hF.1 hle).1,hS (fun e=>qU n2 (by omega) e.symm) (hF.1 hle).2.1,hS (fun e=>qU n3 (by omega) e.symm) (hF.1 hle).2.2.1,hS (fun e=>qU n4 (by omega) e.symm) (hF.1 hle).2.2.2⟩,fun e=>by subst e;exact absurd (hk.symm.trans (by kernel_rfl):false=true) jV⟩,fU (by kernel_rfl) ?_ _⟩;have HZ0:=zh (show Boxed (w2.setCell ⟨g,3,none⟩ (.slice bN (st.1.length+1) bO)) w.heap.size 54 (.pointer (some ⟨g,0,none⟩))from hS (fun e=>qU _ (zL _) e.symm) HY0.o);have HZ2:=zh (show Boxed (w2.setCell ⟨g,3,none⟩ (.slice bN (st.1.length+1) bO)) n2 3 (.int .i64 base0)from hS (fun e=>qU n2 (by omega) e.symm) TR.o);have HZ3:=zh (show Boxed (w2.setCell ⟨g,3,none⟩ (.slice bN (st.1.length+1) bO)) n3 3 (.int .i64 (bar:Int))from hS (fun e=>qU n3 (by omega) e.symm) Bh.o);have Ul:=zh (show Boxed (w2.setCell ⟨g,3,none⟩ (.slice bN (st.1.length+1) bO)) n4 3 (.int .i64 st.2)from hS (fun e=>qU n4 (by omega) e.symm) xI.o);have Jo:=zh (show(w2.setCell ⟨g,3,none⟩ (.slice bN (st.1.length+1) bO)).heap[g]?=some (.cells #[.slice pa P.length pc,.slice ha m.h.cells.length hac,.slice hb m.h.trail.length hbc,.slice bN (st.1.length+1) bO,.slice ca m.choices.length cc,.int .i64 m.now,.int .i64 (q:Int),.int .i64 m.query,.int .i64 (m.fuel:Int),.slice oa m.out.length oc] 63 (0,0))from(bI Ou.o 3 _).trans rfl);have acz:ownB (.slice bN (st.1.length+1) bO)≠some g:=fun e=>by
   rcases Uk.o g e with e|e;·exact qD.o e
   ·omega
  have HOZ:=zh (bE.o.kept (w':=w2.setCell ⟨g,3,none⟩ (.slice bN (st.1.length+1) bO)) fun k hk=>bC _ _ _ _ (fun e=>acz ((show k=g from e)▸hk)));have hKO:=((KeepsOthers.drew W).trans (KeepsOthers.alloc W.drew (.cells #[.int .i64 (base0+a),.int .i64 (bar:Int),.int .i64 st.2] 117))).trans ((KeepsOthers.of_grownBy HG2.o.grown fun j o e ho=>by obtain⟨c,hc⟩:=oU HOWN.o.1 e;have hc':=aX (show W.drew.heap[j]?=_ from hc) (.cells #[.int .i64 (base0+a),.int .i64 (bar:Int),.int .i64 st.2] 117);rw[hc']at ho;cases ho;rfl).trans (KeepsOthers.setCell w2 ⟨g,3,none⟩ (.slice bN (st.1.length+1) bO)));have Ov:=zh hKO;have acB:Ch (fun b=>b=g\/ownB (.slice va st.1.length vc)=some b) W (w2.setCell ⟨g,3,none⟩ (.slice bN (st.1.length+1) bO)):=(HG2.o.ch ((Ch.refl _ W).drew.alloc _) (fun b hb=> .inl (.inr hb))).setCell (p:=⟨g,3,none⟩) (.inl (.inl rfl)) _;have ams:=zh acB;generalize w2.setCell ⟨g,3,none⟩ (.slice bN (st.1.length+1) bO)=W3 at*;clear hKO acB acz hS qU k0 k1 k2 k3 k4 k5 k6 k7 k8 k9 kf;have z0:=HZ0.o.cell;have z4:=Ul.o.cell;have zf:=Ul.o.frozen;obtain⟨k0,k1,k2,k3,k4,k5,k6,k7,k8,k9,kf⟩:=bP Jo.o;clear Js Oo Oq Ot;gi_wp2;obtain⟨Js,Oo,Oq,Ot⟩:=HN.o;have hC:Ch (fun b=>b=g\/ownB (.slice va st.1.length vc)=some b\/b=n4) W (W3.setCell ⟨n4,0,none⟩ (.int .i64 (st.1.length:Int))):=(ams.o.mono (fun b _ hb=>hb.elim .inl (fun e=> .inr (.inl e)))).setCell (p:=⟨n4,0,none⟩) (.inl (.inr (.inr rfl))) _;have hS:∀{k:Nat}{o:Obj},k≠n4->W3.heap[k]?=some o->(W3.setCell ⟨n4,0,none⟩ (.int .i64 (st.1.length:Int))).heap[k]?=some o:=fun hne h=>(bC _ _ _ _ hne).trans h;have hps:pq base0 bar ((pre++[(xi,(⟨a,ha0,ha1⟩:Sm))]).map fun x=>x.2.1) (m.goals,nx)=(st.1++[⟨base0+a,bar,st.2⟩],(st.1.length:Int)):=by rw[mF,Ar,acr,<-HST.o]
  refine⟨(Ov.o.trans (KeepsOthers.setCell W3 ⟨n4,0,none⟩ _)).from _,hC.keeps fun b _ hb e=>?_,.slice bN (st.1.length+1) bO,?_,?_,fun b hb=>?_,HS.o.ch.trans hC (fun b hb=>?_),dM HS.o.size hC.size,hS (by omega) HZ0.o,hS (by omega) HZ2.o,hS (by omega) HZ3.o,?_⟩
  ·rcases hb with⟨h1,h2⟩|h1
   ·rcases e with e|e|e;·exact h2 e
    ·have :=(HOWN.o.lt b e).1;omega
    ·omega
   ·rcases e with e|e|e;·omega
    ·exact x8.o b (by omega) (by omega) e
    ·omega
  ·rw[yQ,hvo];exact hS (by omega) Jo.o
  ·rw[hps];refine HOZ.o.kept fun k hk=>bC _ _ _ _ (fun e=>?_);have e':k=n4:=e;rcases Uk.o k hk with e2|e2;·exact x8.o k (by omega) (by omega) e2
   ·omega
  ·rcases Uk.o b hb with e|e;·exact HS.o.grow b e
   ·exact .inr (dM HS.o.size e)
  ·rcases hb with rfl|e|rfl;·exact .inl (.inl rfl)
   ·rcases HS.o.grow b e with e|e;·exact .inl (.inr e)
    ·exact .inr (by omega)
   ·exact .inr (by omega)
  ·rw[hps];exact Ul.o.set _
 case done=>
  rintro D ys W hD hys⟨qZ,hs⟩hK;have hx4:=hs.x4.cell;have hs':=hs.move (W':=W.putObj D (.deferred none)) (row:=some D) HB1.o.size (grownBy_putObj' W D (.deferred none)) (fun r e=>by cases e;exact⟨hD,_,hK,rfl⟩);have HS':=zh hs';have HK:=zh hK;have hye:(ys.map fun x=>x.2.1)=(zz.map (·.1)).reverse:=by rw[<-List.map_reverse,<-hys,Qp];rfl
  rw[hye]at hx4;have HYE:=zh hye;have NY:=hx4;clear hs hs' hK hys hye hx4;gi_wp2;refine⟨by simp,.inl ⟨_,_,rfl,run_takeDeferred HK.o,?_⟩⟩;refine⟨_,results_tmp rfl _ _ _,rfl,?_⟩;have hs:=HS'.o;have hgr:bU w o ⟨qZ,o.cv,o.ov⟩:=⟨fun b hb=>(hs.grow b hb).imp id (fun e=>dM HB1.o.size e),fun b hb=> .inl hb,fun b hb=> .inl hb⟩;have hch:Ch (MM g o) w (W.putObj D (.deferred none)):=hs.ch.mono fun b _ hb=>hb.elim .inl (fun e=> .inr (.inl e));have hown:=hs.own;rw[HYE.o]at hown;refine HU.o.turned (o':=⟨qZ,o.cv,o.ov⟩) (m':={m with goals:=(pq base0 bar (zz.map (·.1)).reverse (m.goals,nx)).1}) hs.box hch hgr (Bw HU.o.heap hch hgr) hown ?_ ?_ HU.o.sM HU.o.qb HU.o.fu (by simp only[Oj,Ct,jq];exact zS.o) HU.o.cl HU.o.ol;·exact HU.o.JK hs.ch fun b hb e=>e.elim (fun e=>y8.o.cg (e▸hb)) (fun e=>y8.o.gc b e hb)
  ·exact HU.o.DJ hs.ch (fun b hb=>hb.elim .inl (fun e=> .inr (.inl e))) (fun b hb e=>e.elim (fun e=>y8.o.og (e▸hb)) (fun e=>y8.o.go b e hb)) hgr rfl
 case stop=>rintro D c pre W _ _ h _;exact h.elim
end
