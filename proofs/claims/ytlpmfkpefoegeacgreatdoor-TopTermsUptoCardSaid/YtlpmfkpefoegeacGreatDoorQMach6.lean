import Derived.RangeFuncNested
import Derived.RangeFuncBound
import Derived.RangeFuncCalls
import Derived.RangeFuncLeaves
import Derived.RangeFuncBox
import Derived.Shelf.Abstract
import Derived.OwnWalkIn
import Derived.TacticsInMore
import Derived.LoopNIn
import Derived.LoopIn
import Derived.Test.YtlpmfkpefoegeacGreatDoorQMach5
namespace Go.Proofs.YtlpmfkpefoegeacGreatDoor
set_option maxRecDepth 99999
set_option maxHeartbeats 0
set_option linter.all false
open Go.RowKit Go.Shelf
section
variable {P : Program} {ops : Array Oper} {Q : Exit → Act → World → Prop} {n l : Nat}
theorem as6{o:Oper}{a:Act}{w:World}{K K':Act->World->Prop}(hd:∀c,o.op≠ .defer c)(hK:∀a w,K a w->K' a w)(h:o.wp P a w K Q):o.wpIn (Fence.wide.inRound l) n P a w K' Q:=by refine⟨fun _ _=>trivial,?_⟩;have e:o.semAt (Fence.wide.inRound l).round a.eval=execOp a.eval o:=Oper.semAt_some l _ _ hd;rw[e];unfold Oper.wp at h;generalize(execOp a.eval o).run P w=r at*;cases r with
 |ok x w'=>cases x with
  |value v=>exact hK _ _ h
  |skip=>exact hK _ _ h
  |defer d=>exact hK _ _ h
  |enter f args=>refine⟨(fun h=>by cases h),?_⟩;refine CallsIn.inRound l (callsIn_wide.2 (Calls.mono h fun e w'' he=>?_));cases e with|returned v=>exact hK _ _ he|panicked c=>exact he|outgrown=>exact he
  |row row args=>refine⟨(fun h=>by cases h),?_⟩;intro c cs _;obtain⟨v,w',hr,hs⟩:=h c cs;exact⟨v,w',hK _ _ hr,stepsIn_wide.2 hs⟩
  |_=>exact h.elim
 |halt x w'=>cases x<;>first|exact h|exact h.elim
theorem Uh(hd:∀(i:Nat)(o:Oper)c,ops[i]?=some o->o.op≠ .defer c)(hL:¬LetsOut Q):∀(fuel:Nat)(listed:Array Bool)(a:Act)(w:World),wpAny P .any ops Q fuel listed a w->wpAnyIn (Fence.wide.inRound l) n P .any ops Q fuel listed a w
 |0,_,_,_,h=>h
 |fuel+1,listed,a,w,h=>by
  refine⟨h.1,fun i hi=>?_⟩;have h1:=h.2 i hi;unfold wpOp at h1;unfold wpOpIn;cases ho:ops[i]? with
   |none=>rw[ho]at h1;exact Uh hd hL fuel _ a w h1
   |some o=>
    rw[ho]at h1;simp only at h1 ⊢;split
    ·rename_i hw;rw[G hw]at h1;rcases h1 with h1|h1;·exact as6 (hd i o · ho) (fun a w h=>Uh hd hL fuel _ a w h) h1
     ·exact absurd h1.2 hL
    ·rename_i hw;rw[O hw]at h1;exact⟨fun _ _=>trivial,Uh hd hL fuel _ _ w h1⟩
def Z8(ops:Array Oper):Bool:=ops.toList.all fun o=>match o.op with| .defer _=>false|_=>true
theorem as7(h:Z8 ops=true)(i:Nat)(o:Oper)(c:Call)(ho:ops[i]?=some o):o.op≠ .defer c:=by intro e;unfold Z8 at h;rw[oP]at h;have :=h o (by rw[<-nP]at ho;exact Wh ho);rw[e]at this;cases this
end
abbrev Sm:={a:Int // 0<=a/\a<=1000000}
attribute [local go_sem] Oper.semAt_some
def KQ(zs:List Sm)(k:Nat):List (Nat×Sm):=((List.range k).filterMap fun j=>(zs[zs.length - 1 - j]?).map fun x=>(zs.length - 1 - j,x))
theorem Z9{zs:List Sm}{k:Nat}(hk:k<zs.length):KQ zs (k+1)=KQ zs k++[(zs.length - 1 - k,zs[zs.length - 1 - k]'(by omega))]:=by unfold KQ;rw[adN,List.filterMap_append,List.filterMap_cons];rw[aJ (by omega)];simp
theorem ail{zs:List Sm}:∀{k:Nat},k<=zs.length->(KQ zs k).length=k|0,_=>rfl|k+1,hk=>by rw[Z9 (by omega),bB,ail (by omega)];simp
theorem aim{zs:List Sm}:∀{k:Nat},k<=zs.length->(KQ zs k).map (·.2)=zs.reverse.take k|0,_=>rfl|k+1,hk=>by rw[Z9 (by omega),qF,aim (by omega),iq (by simpa using(show k<zs.length by omega))];simp[List.getElem_reverse]
theorem as8(F:Fence)(n:Nat)(hf:F.fn 101)(hro:F.round=none)(hn:1<=n)(l Bs b off cap:Nat)(a0:Option Addr)(zs:List Sm)(hlen:zs.length<=1000000)(D:Nat->Prop)(hDs:D Bs)(KR:0<zs.length->a0=some ⟨b,off,none⟩/\D b)(aEU Jx:List (Nat×Sm)->World->Prop)(hY:∀pre x W,aEU pre W->pre.length<zs.length->YieldAt F (n - 1) Tryz.prog l #[.int .i64 (x.1:Int),.int .i64 x.2.1] W fun e W'=>(e= .returned (.bool true)/\aEU (pre++[x]) W'/\J D W W')\/(e= .returned (.bool false)/\Jx (pre++[x]) W'))(W:World)(O1:W.cell? ⟨Bs,0,none⟩=some (.slice a0 zs.length cap))(hc:∀j(hj:j<zs.length),W.cell? ⟨b,off+j,none⟩=some (.int .i64 zs[j].1))(h0:aEU [] W):CallsIn F n Tryz.prog 101 #[.func (.yield l) #[] #[],.pointer (some ⟨Bs,0,none⟩)] W fun e W'=>(∃v,e= .returned v)/\((∃ys,ys.map (·.2)=zs.reverse/\aEU ys W')\/(∃pre,True/\Jx pre W')):=by
 refine callsIn_of_wp Tryz.func101 rfl hf ?_ hro;simp only[Tryz.ntmps101,Wo,bn,fT,Nat.reduceAdd,Nat.reduceSub,amY,amX,am8,am1,Ap,oO];have hb0:(0:Int)<=(zs.length:Int):=zN _;have HC:=Y hc;have HDB:=Y KR;have Ui:=Y O1;clear hc KR;gi_wp2;gi_loopw[3](fun i wr=>∃k:Nat,k<=zs.length/\i= .int .i64 ((zs.length:Int) - 1 - (k:Int))/\aEU (KQ zs k) wr/\J D W wr)(fun i _=>(intOf i+1).toNat);case atStart=>exact⟨0,dA _,by simp,h0,J.refl _ _⟩
 case round=>
  obtain⟨k,hk,rfl,hJs,hnx⟩:=hrel;have dW:=Y hnx;have hk0:(0:Int)<=(k:Int):=zN _;have hbs:wr.cell? ⟨Bs,0,none⟩=some (.slice a0 zs.length cap):=hnx.cell hDs O1;clear O1 hnx;by_cases hlt:k<zs.length
  ·have hidx:((zs.length:Int) - 1 - (k:Int))=((zs.length - 1 - k:Nat):Int):=by omega
   obtain⟨rfl,hD⟩:=HDB.o (by omega);have hcx:=dW.o.cell hD (HC.o (zs.length - 1 - k) (by omega));have hsu:=Z9 hlt;have hkl:zs.length - 1 - k<zs.length:=by omega
   obtain⟨z,hz⟩:∃z,z=zs[zs.length - 1 - k]'hkl:=⟨zs[zs.length - 1 - k]'hkl,rfl⟩;rw[<-hz]at hcx hsu;obtain⟨m,hm⟩:∃m,m=zs.length - 1 - k:=⟨_,rfl⟩;have jX:m<zs.length:=by omega
   obtain⟨fn,tmps,assign,body,hy,hR⟩:=hY _ (m,z) wr hJs (by rw[ail (by omega)];exact hlt);dsimp only at hy;rw[<-hm]at hcx hsu hidx;have HSU:=Y hsu;rw[hidx];clear hz hsu hJs;have hm0:(0:Int)<=(m:Int):=zN _;have hm1:(m:Int)<(zs.length:Int):=by omega
   have hmk:(m:Int) - 1=(zs.length:Int) - 1 - ((k+1:Nat):Int):=by omega
   have kJ:=Y hmk;clear hidx hm hmk;gi_wp2;refine hR.mono ?_;rintro e W3(⟨rfl,hJ3,hk3⟩|⟨rfl,hJx3⟩)
   ·gi_wp2;go_roundw;case rel=>exact⟨k+1,by omega,by rw[kJ.o],by rw[HSU.o];exact hJ3,dW.o.trans hk3⟩
    case measure=>simp only[intOf];omega
   ·gi_wp2;refine bX (results_none rfl _ _ _) rfl ?_;exact⟨⟨_,rfl⟩,.inr ⟨_,trivial,hJx3⟩⟩
  ·obtain rfl:k=zs.length:=by omega
   have hneg:(zs.length:Int) - 1 - (zs.length:Int)= -1:=by omega
   rw[hneg];gi_wp2;go_end0;exact⟨⟨_,rfl⟩,.inl ⟨_,by rw[aim (zL _),kg (by simp)],hJs⟩⟩
theorem atb(F:Fence)(n:Nat)(hf:F.fn 61)(hro:F.round=none)(a:Option Addr)(len cap:Nat)(w:World):CallsIn F n Tryz.prog 61 #[.slice a len cap] w fun e w'=>e= .returned (.func (.func 101) #[] #[.pointer (some ⟨w.heap.size,0,none⟩)])/\w'=w.alloc (.cells #[.slice a len cap] 57):=by refine callsIn_of_wp Tryz.func61 rfl hf ?_ hro;simp only[Tryz.ntmps61,Wo,bn,fT,Nat.reduceAdd,Nat.reduceSub,amY,amX,am8,am1,Ap,oO];gi_wp2;go_ret;exact⟨rfl,rfl⟩
theorem atc(F:Fence)(n:Nat)(hf:F.fn 101)(hro:F.round=none)(hn:1<=n)(Bs b off cap:Nat)(a0:Option Addr)(zs:List Sm)(hlen:zs.length<=1000000)(D:Nat->Prop)(hDs:D Bs)(KR:0<zs.length->a0=some ⟨b,off,none⟩/\D b)(w:World)(O1:w.cell? ⟨Bs,0,none⟩=some (.slice a0 zs.length cap))(hc:∀j(hj:j<zs.length),w.cell? ⟨b,off+j,none⟩=some (.int .i64 zs[j].1)):SeqStopsK F n Tryz.prog 101 #[.pointer (some ⟨Bs,0,none⟩)] (fun x:Nat×Sm=>#[Value.int .i64 (x.1:Int),Value.int .i64 x.2.1]) (J D) (fun ys=>ys.map (·.2)=zs.reverse) (fun _=>True) zs.length w:=fun l aEU Jx W hW _ _ hY h0=>as8 F n hf hro hn l Bs b off cap a0 zs hlen D hDs KR aEU Jx hY W (bc hW O1) (fun j hj=>bc hW (hc j hj)) h0
theorem atd{D:Nat->Prop}{w:World}(hD:∀b,D b->b<w.heap.size)(W:World)(l:Nat)(o o':Obj)(hl:w.heap.size<=l)(h:W.heap[l]?=some o)(_:o.isCells=false)(_:o.isWalk=false):J D W (W.putObj l o'):=⟨by simp,fun b hb KR=>World.putObj_heap_other (fun e=>by have :=hD b KR;omega)⟩
section
variable {P : Program} {ops : Array Oper} {Q : Exit → Act → World → Prop} {n l : Nat} {FF : Nat → World → Prop}
theorem ate{id:Nat}{a:Act}{w:World}(hm:P.follows .mixedOrders=true)(hd:Z8 ops=true)(hL:¬LetsOut Q)(h:mo P ops Q FF ops.size (Array.replicate ops.size false) a w.drew):(Code.region id ops true).wpIn (Fence.wide.inRound l) n P Q a w:=wpIn_region_any hm (Uh (as7 hd) hL _ _ _ _ (WN _ _ _ _ h))
end
attribute [local go_sem] Oper.semAt_some
def rZ(base:Int)(bar:Nat)(l:List Int)(st:List Gm×Int):List Gm×Int:=l.foldl (fun st a=>(st.1++[⟨base+a,bar,st.2⟩],(st.1.length:Int))) st
theorem Uj(base:Int)(bar:Nat)(gs:List Gm)(nx:Int):∀(zs:List Int),fe base bar zs gs nx=rZ base bar zs.reverse (gs,nx)|[]=>rfl|a::r=>by rw[fe,Wp,rZ,Wq];have :=Uj base bar gs nx r;unfold rZ at this;rw[<-this];rfl
theorem ain(base:Int)(bar:Nat)(l:List Int)(a:Int)(st:List Gm×Int):rZ base bar (l++[a]) st=((rZ base bar l st).1++[⟨base+a,bar,(rZ base bar l st).2⟩],((rZ base bar l st).1.length:Int)):=by unfold rZ;rw[Wq];rfl
theorem Uk(base:Int)(bar:Nat):∀(l:List Int)(st:List Gm×Int),(rZ base bar l st).1.length=st.1.length+l.length|[],st=>rfl|a::r,st=>by have :=Uk base bar r (st.1++[⟨base+a,bar,st.2⟩],(st.1.length:Int));unfold rZ at this ⊢;rw[Mg,this];simp only[bB,bn,fT];omega
theorem aaa(base:Int)(bar:Nat)(l:List Int)(st:List Gm×Int)(h:ah st.2)(hl:st.1.length+l.length<=1000000):ah (rZ base bar l st).2:=by
 rcases List.eq_nil_or_concat l with rfl|⟨r,a,rfl⟩;·exact h
 ·rw[List.concat_eq_append]at hl ⊢;rw[ain];have :=Uk base bar r st;simp only[bB,dZ]at hl;unfold ah;simp only;omega
theorem atf:oU Tryz.prog 60 117 3 24:= .mk' (z:= .agg #[.int .i64 0,.int .i64 0,.int .i64 0]) Tryz.underlying60 (by kernel_rfl) rfl (by omega) (by omega)
section
variable {base : Nat} {P : List Cl} {q g : Nat} {pv hc ht : Value} {o : Mo} {m : Mv} {w : World}
structure Ul (base n0 n2 n3 n4 B q g : Nat) (pv hc ht : Value) (o : Mo) (m : Mv) (base0 : Int) (bar : Nat) (nx : Int) (w : World) (pre : List (Nat × Sm)) (u6 : Value) (W : World) : Prop where
  box : W.heap[g]? = some (.cells #[pv, hc, ht, u6, o.cv, .int .i64 m.now, .int .i64 (q : Int), .int .i64 m.query, .int .i64 (m.fuel : Int), o.ov] 63 (0, 0))
  own : rV W base (rZ base0 bar (pre.map fun x => x.2.1) (m.goals, nx)).1 u6
  grow : ∀ b, ownB u6 = some b → ownB o.gv = some b ∨ B ≤ b
  ch : Ch (fun b => b = g ∨ ownB o.gv = some b) w W
  size : B ≤ W.heap.size
  x0 : Boxed W n0 54 (.pointer (some ⟨g, 0, none⟩))
  x2 : Boxed W n2 3 (.int .i64 base0)
  x3 : Boxed W n3 3 (.int .i64 (bar : Int))
  x4 : Boxed W n4 3 (.int .i64 (rZ base0 bar (pre.map fun x => x.2.1) (m.goals, nx)).2)
def PuE(base n0 n2 n3 n4 B q g:Nat)(pv hc ht:Value)(o:Mo)(m:Mv)(base0:Int)(bar:Nat)(nx:Int)(w:World)(pre:List (Nat×Sm))(W:World):Prop:=∃u6,Ul base n0 n2 n3 n4 B q g pv hc ht o m base0 bar nx w pre u6 W
theorem Ul.move{n0 n2 n3 n4 B:Nat}{base0 nx:Int}{bar:Nat}{pre:List (Nat×Sm)}{u6:Value}{W W':World}{row:Option Nat}(h:Ul base n0 n2 n3 n4 B q g pv hc ht o m base0 bar nx w pre u6 W)(hB:w.heap.size<=B)(hg:W.grownBy W' row)(hr:∀r,row=some r->B<=r/\∃o:Obj,W.heap[r]?=some o/\o.isCells=false):Ul base n0 n2 n3 n4 B q g pv hc ht o m base0 bar nx w pre u6 W':=by
 have hk:∀{k:Nat}{c:Array Value}{E:TypeId}{fr:Nat×Nat},W.heap[k]?=some (.cells c E fr)->W'.heap[k]?=some (.cells c E fr):=fun{k c E fr}hc=>by refine(hg.block k (ax hc) fun e=>?_).trans hc;obtain⟨_,o',ho',hn⟩:=hr k e.symm;rw[hc]at ho';cases ho';cases hn
 refine⟨hk h.box,h.own.kept fun k hk'=>?_,h.grow,h.ch.grown hg (fun k e=> .inr (by have :=(hr k e).1;omega)),dm h.size hg.size,hk h.x0,hk h.x2,hk h.x3,hk h.x4⟩;obtain⟨c,hc⟩:=mJ h.own.1 hk';rw[hk hc,hc]
theorem aab(cv gv:Value)(bv bh:Int)(zs:List Int)(base0:Int)(bar:Nat)(nx:Int)(hgv:gX (fun b=>b<base/\b≠g) w zs gv)(hz:∀a∈zs,0<=a/\a<=1000000)(hb0:0<=base0)(hb1:base0<=1000000)(tO:bar<=1000000)(hnx:ah nx)(hfit:m.goals.length+zs.length<=6000)(h:bS base P q g pv hc ht o m w):Calls Tryz.prog 34 #[.pointer (some ⟨g,0,none⟩),.agg #[cv,.int .i64 bv,.int .i64 bh,gv],.int .i64 base0,.int .i64 (bar:Int),.int .i64 nx] w (fun e w'=>e= .returned (.int .i64 (fe base0 bar zs m.goals nx).2)/\bD base P q g pv o {m with goals:=(fe base0 bar zs m.goals nx).1} w w'):=by
 obtain⟨zz,rfl⟩:∃zz:List Sm,zs=zz.map (·.1):=⟨zs.pmap (fun a h=>⟨a,h⟩) hz,by simp[List.map_pmap]⟩;rw[Uj];have HU:=Y h;have dW:=Y hnx;rw[nR]at hfit;have xU:=Y hfit;obtain⟨hl1,hl2⟩:=h.lt;have hgb:=h.bg.1;have qQ:=Y h.apart;obtain⟨ga,iV,gb,aip,rfl,XI,aoU,aBz,hga,hge⟩:=ag.at hgv;rw[nR]at hga XI;simp only[nR]at*;have xV:=Y hga;have Nf:=Y (fun(W:World)(hk:J (fun b=>b<base/\b≠g) w W)(j:Nat)(hj:j<zz.length)=>(show W.cell? ⟨gb,aip+j,none⟩=some (.int .i64 zz[j].1)from by have h1:=Ef hge (hga (by omega)).2 hk (k:=j) (by simpa using hj);simpa using h1.1));clear h hgv hz hnx hga hge hfit;refine(callsIn_wide (n:=3)).1 ?_;refine callsIn_of_wp_marks Tryz.func34 rfl trivial ?_ rfl;simp only[Tryz.ntmps34,Wo,bn,fT,Nat.reduceAdd,Nat.reduceSub,amY,amX,am8,am1,Ap,oO];gi_wp2_with(refine⟨trivial,?_⟩;gi_at_call 61;refine(atb Fence.wide _ trivial rfl _ _ _ _).mono ?_;rintro e w'⟨rfl,rfl⟩);obtain⟨pa,pc,ga2,gc2,ca,cc,oa,oc,ha,hac,hb,hbc,rfl,hvg,yE,hvo,rfl,rfl, -⟩:=HU.o.vals;obtain⟨W1,hW1⟩:∃W1,W1=(((((w.alloc (.cells #[.pointer (some ⟨g,0,none⟩)] 54)).alloc (.cells #[cv,.int .i64 bv,.int .i64 bh,.slice ga zz.length iV] 67)).alloc (.cells #[.int .i64 base0] 3)).alloc (.cells #[.int .i64 (bar:Int)] 3)).alloc (.cells #[.int .i64 nx] 3)).alloc (.cells #[.slice ga zz.length iV] 57):=⟨_,rfl⟩;try rw[<-hW1]
 obtain⟨n2,hn2⟩:∃n2,n2=w.heap.size+1+1:=⟨_,rfl⟩;obtain⟨n3,JQ⟩:∃n3,n3=w.heap.size+1+1+1:=⟨_,rfl⟩;obtain⟨n4,vR⟩:∃n4,n4=w.heap.size+1+1+1+1:=⟨_,rfl⟩;obtain⟨n5,hn5⟩:∃n5,n5=w.heap.size+1+1+1+1+1:=⟨_,rfl⟩;have HB1:=Y (show Below w.heap.size w W1 by rw[hW1];exact((((((Z _ _).alloc (zL _) _).alloc (by simp only[bO];omega) _).alloc (by simp only[bO];omega) _).alloc (by simp only[bO];omega) _).alloc (by simp only[bO];omega) _).alloc (by simp only[bO];omega) _);have zq:=Y (show W1.heap.size=w.heap.size+6 by rw[hW1];simp only[bO]);have X0:=Y (show Boxed W1 w.heap.size 54 (.pointer (some ⟨g,0,none⟩))by rw[hW1];exact aI (aI (aI (aI (aI (bq w _) _) _) _) _) _);have X2:=Y (show Boxed W1 n2 3 (.int .i64 base0)by rw[hW1,hn2];have :=bq ((w.alloc (.cells #[.pointer (some ⟨g,0,none⟩)] 54)).alloc (.cells #[cv,.int .i64 bv,.int .i64 bh,.slice ga zz.length iV] 67)) (.cells #[.int .i64 base0] 3);simp only[bO]at this;exact aI (aI (aI this _) _) _);have X3:=Y (show Boxed W1 n3 3 (.int .i64 (bar:Int))by rw[hW1,JQ];have :=bq (((w.alloc (.cells #[.pointer (some ⟨g,0,none⟩)] 54)).alloc (.cells #[cv,.int .i64 bv,.int .i64 bh,.slice ga zz.length iV] 67)).alloc (.cells #[.int .i64 base0] 3)) (.cells #[.int .i64 (bar:Int)] 3);simp only[bO]at this;exact aI (aI this _) _);have X4:=Y (show Boxed W1 n4 3 (.int .i64 nx)by rw[hW1,vR];have :=bq ((((w.alloc (.cells #[.pointer (some ⟨g,0,none⟩)] 54)).alloc (.cells #[cv,.int .i64 bv,.int .i64 bh,.slice ga zz.length iV] 67)).alloc (.cells #[.int .i64 base0] 3)).alloc (.cells #[.int .i64 (bar:Int)] 3)) (.cells #[.int .i64 nx] 3);simp only[bO]at this;exact aI this _);have X5:=Y (show Boxed W1 n5 57 (.slice ga zz.length iV)by rw[hW1,hn5];have :=bq (((((w.alloc (.cells #[.pointer (some ⟨g,0,none⟩)] 54)).alloc (.cells #[cv,.int .i64 bv,.int .i64 bh,.slice ga zz.length iV] 67)).alloc (.cells #[.int .i64 base0] 3)).alloc (.cells #[.int .i64 (bar:Int)] 3)).alloc (.cells #[.int .i64 nx] 3)) (.cells #[.slice ga zz.length iV] 57);simp only[bO]at this;exact this);rw[<-hn5,<-vR,<-JQ,<-hn2];have HN:=Y (show n2=w.heap.size+2/\n3=w.heap.size+3/\n4=w.heap.size+4/\n5=w.heap.size+5 from⟨by omega,by omega,by omega,by omega⟩);have HH5:=Y (show n5<W1.heap.size by rw[zq.o];omega);clear hW1 hn2 JQ vR hn5;have hI0:OwnFrom W1.heap.size (PuE base w.heap.size n2 n3 n4 W1.heap.size q g (.slice pa P.length pc) (.slice ha m.h.cells.length hac) (.slice hb m.h.trail.length hbc) o m base0 bar nx w):=fun s W W' row⟨u6,hs⟩hg hr=>⟨u6,hs.move HB1.o.size hg hr⟩;refine wpIn_rangeFunc_ownG (F:=Fence.wide) rfl (by omega) (gf:=101) (lb:=#[.pointer (some ⟨n5,0,none⟩)]) rfl trivial (enters_of Tryz.func101 (by kernel_rfl) rfl) (atc Fence.wide 2 trivial rfl (by omega) n5 gb aip iV ga zz (by have :=xU.o;omega) (fun b=>(b<base/\b≠g)\/b=n5) (.inr rfl) (fun h0=>⟨(xV.o h0).1,.inl (xV.o h0).2⟩) W1 X5.out.cell (fun j hj=>Nf.o W1 (J.ob HB1.o) j hj)) (fun h k=>h.trans k) (atd (fun b hb=>by rcases hb with hb|rfl;have :=HB1.o.size;omega;exact HH5.o)) (Z _ _) (fun _=>rfl) (PuE base w.heap.size n2 n3 n4 W1.heap.size q g (.slice pa P.length pc) (.slice ha m.h.cells.length hac) (.slice hb m.h.trail.length hbc) o m base0 bar nx w) (fun _ _ _=>False) hI0 (fun _ _ _ _ _ hs _ _=>hs) ⟨o.gv,aA HU.o.box HB1.o,HU.o.goals.below HB1.o,fun b hb=> .inl hb,Ch.of_below HB1.o,zL _,X0.out,X2.out,X3.out,X4.out⟩ (fun x=>{tmps:=#[.pointer (some ⟨g,0,none⟩),.agg #[cv,.int .i64 bv,.int .i64 bh,.slice ga zz.length iV],.int .i64 base0,.int .i64 (bar:Int),.int .i64 nx,.pointer (some ⟨w.heap.size,0,none⟩),.pointer (some ⟨w.heap.size+1,0,none⟩),.pointer (some ⟨n2,0,none⟩),.pointer (some ⟨n3,0,none⟩),.pointer (some ⟨n4,0,none⟩),.int .i64 0,undef,.int .i64 x.2.1,.pointer (some ⟨w.heap.size+1,3,none⟩),.slice ga zz.length iV,.func (.func 101) #[] #[.pointer (some ⟨n5,0,none⟩)],.int .i64 (x.1:Int),.int .i64 x.2.1,undef,undef,undef,undef,undef,undef,undef,undef,undef,undef,undef,undef,undef,undef,undef,undef,undef,undef,undef,undef,undef,undef],defers:=[]}) ?assign ?body ?done ?stop;case assign=>intro l x W K hK;gi_wp2;exact hK
 case body=>
  rintro l pre⟨xi,a,ha0,ha1⟩W⟨u6,hs⟩hlen;obtain⟨st,hst⟩:∃st,st=rZ base0 bar (pre.map fun x=>x.2.1) (m.goals,nx):=⟨_,rfl⟩;have HST:=Y hst;have nX:=Y (show st.1.length=m.goals.length+pre.length by rw[hst,Uk,nR]);have hfit:=xU.o;have aBC:st.1.length<=5999:=by rw[nX.o];omega
  have zC:=Y (show ah st.2 by rw[hst];exact aaa _ _ _ _ dW.o (by rw[nR];simp only;omega));have hown:=hs.own;have hx4:=hs.x4;rw[<-hst]at hown hx4;have HOWN:=Y hown;have HS:=Y hs;obtain⟨va,vc,hv,hvl,qg⟩:=I.val hown;subst hv;have hbx:=hs.box;rw[yE,hvo]at hbx;obtain⟨b0,b1,b2,b3,b4,b5,b6,b7,b8,b9,bf⟩:=bM hbx;have HX0:=Y hs.x0;have bu:=Y hs.x2;have iQ:=Y hs.x3;have nJ:=Y hx4;have fO:=Y hbx;have hsz1:=hs.size;have hwz:=zq.o;have hgl:g<W.heap.size:=ax hbx;have hN:=HN.o;have mV:ownB (.slice va st.1.length vc)≠some g:=fun e=>by
   rcases HS.o.grow g e with e|e;·exact qQ.o.gg e
   ·omega
  have qd:=Y mV;have hnb:∀k,w.heap.size<=k->k<W1.heap.size->ownB (.slice va st.1.length vc)≠some k:=fun k h1 h2 e=>by
   rcases HS.o.grow k e with e|e;·have :=(HU.o.goals.lt k e).2;omega
   ·omega
  have ui:=Y hnb;unfold maxLen at qg;clear hst hs hown hx4 hbx mV hnb hN;dsimp only;gi_wp2_with fail;have HF:∀{k:Nat},((k<=10->Boxed W.drew w.heap.size 54 (.pointer (some ⟨g,0,none⟩))/\Boxed W.drew n2 3 (.int .i64 base0)/\Boxed W.drew n3 3 (.int .i64 (bar:Int))/\Boxed W.drew n4 3 (.int .i64 st.2))/\(k=4->W.drew.cell? ⟨g,3,none⟩=some (.slice va st.1.length vc))):=fun{k}=>⟨fun _=>⟨HX0.o,bu.o,iQ.o,nJ.o⟩,fun _=>b3⟩;refine ate (FF:=fun k w'=>(k<=10->Boxed w' w.heap.size 54 (.pointer (some ⟨g,0,none⟩))/\Boxed w' n2 3 (.int .i64 base0)/\Boxed w' n3 3 (.int .i64 (bar:Int))/\Boxed w' n4 3 (.int .i64 st.2))/\(k=4->w'.cell? ⟨g,3,none⟩=some (.slice va st.1.length vc))) (by kernel_rfl) (by kernel_rfl) (fun⟨_,_,h⟩=>h) ?_;clear b0 b1 b2 b3 b4 b5 b6 b7 b8 b9 bf;refine zY 0 HF ?_ (z:=by intro w' hw;obtain⟨q0,q2,q3,q4⟩:=hw.1 (by decide);have f0:=q0.cell;have f2:=q2.cell;have f3:=q3.cell;have f4:=q4.cell;clear q0 q2 q3 q4 hw;go_simp<;>with_reducible rfl);try simp only[U]
  refine zY 1 HF ?_ (z:=by intro w' hw;obtain⟨q0,q2,q3,q4⟩:=hw.1 (by decide);have f0:=q0.cell;have f2:=q2.cell;have f3:=q3.cell;have f4:=q4.cell;clear q0 q2 q3 q4 hw;go_simp<;>with_reducible rfl);try simp only[U]
  refine zT 2 HF ?_;try simp only[U]
  refine zT 3 HF ?_;try simp only[U]
  refine zY 4 HF ?_ (z:=by intro w' hw;have f5:=hw.2 rfl;clear hw;go_simp<;>with_reducible rfl);try simp only[U]
  refine zY 5 HF ?_ (z:=by intro w' hw;obtain⟨q0,q2,q3,q4⟩:=hw.1 (by decide);have f0:=q0.cell;have f2:=q2.cell;have f3:=q3.cell;have f4:=q4.cell;clear q0 q2 q3 q4 hw;go_simp<;>with_reducible rfl);try simp only[U]
  refine zT 6 HF ?_;try simp only[U]
  refine zY (v:= .int .i64 (base0+a)) 7 HF ?_ (z:=by intro w' hw;clear hw;go_simp;exact Gb _ (by omega));try simp only[U]
  refine zY 8 HF ?_ (z:=by intro w' hw;obtain⟨q0,q2,q3,q4⟩:=hw.1 (by decide);have f0:=q0.cell;have f2:=q2.cell;have f3:=q3.cell;have f4:=q4.cell;clear q0 q2 q3 q4 hw;go_simp<;>with_reducible rfl);try simp only[U]
  refine zY 9 HF ?_ (z:=by intro w' hw;obtain⟨q0,q2,q3,q4⟩:=hw.1 (by decide);have f0:=q0.cell;have f2:=q2.cell;have f3:=q3.cell;have f4:=q4.cell;clear q0 q2 q3 q4 hw;go_simp<;>with_reducible rfl);try simp only[U]
  refine zT 10 HF ?_;try simp only[U]
  refine zO 11 ?_;go_simp;refine⟨fun k _ hF=>⟨fun hle=>⟨(hF.1 hle).1.alloc _,(hF.1 hle).2.1.alloc _,(hF.1 hle).2.2.1.alloc _,(hF.1 hle).2.2.2.alloc _⟩,fun e=>bc ((Z _ _).alloc (zL _) _) (hF.2 e)⟩,?_⟩;refine zO 12 ?_;refine uC (.tmp 22) (.tmp 29) 60 rfl base 117 3 24 atf (Ee ahW) (A:=fun _=>True) (.slice va st.1.length vc) st.1 rfl ((HOWN.o.gT ZB (fun _=>True)).below (Ee ahW) ((Z _ _).drew)) ⟨base0+a,bar,st.2⟩ [.int .i64 (base0+a),.int .i64 (bar:Int),.int .i64 st.2] (by rfl) rfl ⟨⟨by unfold ah;simp only;omega,zC.o,tO⟩,rfl⟩ ⟨by omega,by simp only[dG];omega⟩ ?_;intro v2 w2 hown2 aj;have HG2:=Y aj;have KS:∀{k:Nat}{c:Array Value}{E:TypeId}{fr:Nat×Nat},ownB (.slice va st.1.length vc)≠some k->W.heap[k]?=some (.cells c E fr)->w2.heap[k]?=some (.cells c E fr):=fun{k c E fr}hne hc=>by refine(HG2.o.grown.block k ?_ (fun e=>hne e.symm)).trans (aI (show W.drew.heap[k]?=_ from hc) _);have :=ax hc;simp only[bO,dG];omega
  have hw1:=zq.o;obtain⟨Oa,Um,Uo,Uq⟩:=HN.o;have HE0:=Y (ui.o w.heap.size (zL _) (by omega));have HE2:=Y (ui.o n2 (by omega) (by omega));have HE3:=Y (ui.o n3 (by omega) (by omega));have HE4:=Y (ui.o n4 (by omega) (by omega));have HY0:=Y (show Boxed w2 w.heap.size 54 (.pointer (some ⟨g,0,none⟩))from KS HE0.o HX0.o);have ZP:=Y (show Boxed w2 n2 3 (.int .i64 base0)from KS HE2.o bu.o);have ED:=Y (show Boxed w2 n3 3 (.int .i64 (bar:Int))from KS HE3.o iQ.o);have uM:=Y (show Boxed w2 n4 3 (.int .i64 st.2)from KS HE4.o nJ.o);have Ur:=Y (KS qd.o fO.o);have bA:=Y (I.fJ hown2);obtain⟨aS,aT,hv2,kX,rO⟩:=I.val bA.o;rw[show(st.1++[(⟨base0+a,bar,st.2⟩:Gm)]).length=st.1.length+1 by simp]at hv2 kX;subst hv2;have xW:g<w2.heap.size:=ax Ur.o;have aae:=Y (show ∀b,ownB (.slice aS (st.1.length+1) aT)=some b->ownB (.slice va st.1.length vc)=some b\/W.heap.size<=b from fun b hb=>by
   rcases aj.block with e|e;·exact .inl (e▸hb)
   ·have h9:W.drew.heap.size+1<=b:=by have :=e b hb;simpa only[bO]using this
    exact .inr (Nat.le_of_succ_le h9));unfold maxLen at rO;refine⟨fun k _ hF=>⟨fun hle=>⟨(hF.1 hle).1.kept aj.grown (fun e=>HE0.o e.symm),(hF.1 hle).2.1.kept aj.grown (fun e=>HE2.o e.symm),(hF.1 hle).2.2.1.kept aj.grown (fun e=>HE3.o e.symm),(hF.1 hle).2.2.2.kept aj.grown (fun e=>HE4.o e.symm)⟩,fun _=>(bY Ur.o 3).trans rfl⟩,?_⟩;clear hown2 aj KS HF Oa Um Uo Uq;simp only[U];obtain⟨k0,k1,k2,k3,k4,k5,k6,k7,k8,k9,kf⟩:=bM Ur.o;refine zO 13 ?_;go_simp;refine⟨fun k _ hF=>hF,?_⟩;refine zO 14 ?_;go_simp;refine⟨fun k _ hF=>hF,?_⟩;refine zO 15 ?_;go_simp;have uT:∀k,w.heap.size<=k->g≠k:=fun k hk e=>by omega
  have HGN:=Y uT;have hS:∀{k:Nat}{o:Obj},k≠g->w2.heap[k]?=some o->(w2.setCell ⟨g,3,none⟩ (.slice aS (st.1.length+1) aT)).heap[k]?=some o:=fun hne h=>(aW _ _ _ _ hne).trans h;obtain⟨Oa,Um,Uo,Uq⟩:=HN.o;refine⟨fun k hk hF=>⟨fun hle=>⟨hS (fun e=>uT _ (zL _) e.symm) (hF.1 hle).1,hS (fun e=>uT n2 (by omega) e.symm) (hF.1 hle).2.1,hS (fun e=>uT n3 (by omega) e.symm) (hF.1 hle).2.2.1,hS (fun e=>uT n4 (by omega) e.symm) (hF.1 hle).2.2.2⟩,fun e=>by subst e;exact absurd (hk.symm.trans (by kernel_rfl):false=true) mO⟩,zQ ?_⟩;have HZ0:=Y (show Boxed (w2.setCell ⟨g,3,none⟩ (.slice aS (st.1.length+1) aT)) w.heap.size 54 (.pointer (some ⟨g,0,none⟩))from hS (fun e=>uT _ (zL _) e.symm) HY0.o);have HZ2:=Y (show Boxed (w2.setCell ⟨g,3,none⟩ (.slice aS (st.1.length+1) aT)) n2 3 (.int .i64 base0)from hS (fun e=>uT n2 (by omega) e.symm) ZP.o);have HZ3:=Y (show Boxed (w2.setCell ⟨g,3,none⟩ (.slice aS (st.1.length+1) aT)) n3 3 (.int .i64 (bar:Int))from hS (fun e=>uT n3 (by omega) e.symm) ED.o);have HZ4:=Y (show Boxed (w2.setCell ⟨g,3,none⟩ (.slice aS (st.1.length+1) aT)) n4 3 (.int .i64 st.2)from hS (fun e=>uT n4 (by omega) e.symm) uM.o);have N8:=Y (show(w2.setCell ⟨g,3,none⟩ (.slice aS (st.1.length+1) aT)).heap[g]?=some (.cells #[.slice pa P.length pc,.slice ha m.h.cells.length hac,.slice hb m.h.trail.length hbc,.slice aS (st.1.length+1) aT,.slice ca m.choices.length cc,.int .i64 m.now,.int .i64 (q:Int),.int .i64 m.query,.int .i64 (m.fuel:Int),.slice oa m.out.length oc] 63 (0,0))from(aX Ur.o 3 _).trans rfl);have aiu:ownB (.slice aS (st.1.length+1) aT)≠some g:=fun e=>by
   rcases aae.o g e with e|e;·exact qd.o e
   ·omega
  have HOZ:=Y (bA.o.kept (w':=w2.setCell ⟨g,3,none⟩ (.slice aS (st.1.length+1) aT)) fun k hk=>aW _ _ _ _ (fun e=>aiu ((show k=g from e)▸hk)));have hKO:=((KeepsOthers.drew W).trans (KeepsOthers.alloc W.drew (.cells #[.int .i64 (base0+a),.int .i64 (bar:Int),.int .i64 st.2] 117))).trans ((KeepsOthers.of_grownBy HG2.o.grown fun j o e ho=>by obtain⟨c,hc⟩:=mJ HOWN.o.1 e;have hc':=aI (show W.drew.heap[j]?=_ from hc) (.cells #[.int .i64 (base0+a),.int .i64 (bar:Int),.int .i64 st.2] 117);rw[hc']at ho;cases ho;rfl).trans (KeepsOthers.setCell w2 ⟨g,3,none⟩ (.slice aS (st.1.length+1) aT)));have KU:=Y hKO;have aiw:Ch (fun b=>b=g\/ownB (.slice va st.1.length vc)=some b) W (w2.setCell ⟨g,3,none⟩ (.slice aS (st.1.length+1) aT)):=(HG2.o.ch ((Ch.refl _ W).drew.alloc _) (fun b hb=> .inl (.inr hb))).setCell (p:=⟨g,3,none⟩) (.inl (.inl rfl)) _;have Fh:=Y aiw;generalize w2.setCell ⟨g,3,none⟩ (.slice aS (st.1.length+1) aT)=W3 at*;clear hKO aiw aiu hS uT k0 k1 k2 k3 k4 k5 k6 k7 k8 k9 kf;have z0:=HZ0.o.cell;have z4:=HZ4.o.cell;have zf:=HZ4.o.frozen;obtain⟨k0,k1,k2,k3,k4,k5,k6,k7,k8,k9,kf⟩:=bM N8.o;have T9:(0:Int)<=(st.1.length:Int):=zN _;clear Oa Um Uo Uq;gi_wp2;obtain⟨Oa,Um,Uo,Uq⟩:=HN.o;have hC:Ch (fun b=>b=g\/ownB (.slice va st.1.length vc)=some b\/b=n4) W (W3.setCell ⟨n4,0,none⟩ (.int .i64 (st.1.length:Int))):=(Fh.o.mono (fun b _ hb=>hb.elim .inl (fun e=> .inr (.inl e)))).setCell (p:=⟨n4,0,none⟩) (.inl (.inr (.inr rfl))) _;have hS:∀{k:Nat}{o:Obj},k≠n4->W3.heap[k]?=some o->(W3.setCell ⟨n4,0,none⟩ (.int .i64 (st.1.length:Int))).heap[k]?=some o:=fun hne h=>(aW _ _ _ _ hne).trans h;have hps:rZ base0 bar ((pre++[(xi,(⟨a,ha0,ha1⟩:Sm))]).map fun x=>x.2.1) (m.goals,nx)=(st.1++[⟨base0+a,bar,st.2⟩],(st.1.length:Int)):=by rw[qF,D5,ain,<-HST.o]
  refine⟨(KU.o.trans (KeepsOthers.setCell W3 ⟨n4,0,none⟩ _)).from _,hC.keeps fun b _ hb e=>?_,.slice aS (st.1.length+1) aT,?_,?_,fun b hb=>?_,HS.o.ch.trans hC (fun b hb=>?_),dm HS.o.size hC.size,hS (by omega) HZ0.o,hS (by omega) HZ2.o,hS (by omega) HZ3.o,?_⟩
  ·rcases hb with⟨h1,h2⟩|h1
   ·rcases e with e|e|e;·exact h2 e
    ·have :=(HOWN.o.lt b e).1;omega
    ·omega
   ·rcases e with e|e|e;·omega
    ·exact ui.o b (by omega) (by omega) e
    ·omega
  ·rw[yE,hvo];exact hS (by omega) N8.o
  ·rw[hps];refine HOZ.o.kept fun k hk=>aW _ _ _ _ (fun e=>?_);have e':k=n4:=e;rcases aae.o k hk with e2|e2;·exact ui.o k (by omega) (by omega) e2
   ·omega
  ·rcases aae.o b hb with e|e;·exact HS.o.grow b e
   ·exact .inr (dm HS.o.size e)
  ·rcases hb with rfl|e|rfl;·exact .inl (.inl rfl)
   ·rcases HS.o.grow b e with e|e;·exact .inl (.inr e)
    ·exact .inr (by omega)
   ·exact .inr (by omega)
  ·rw[hps];exact HZ4.o.set _
 case done=>
  rintro D ys W hD hys⟨u6,hs⟩hK;have hx4:=hs.x4.cell;have hs':=hs.move (W':=W.putObj D (.deferred none)) (row:=some D) HB1.o.size (grownBy_putObj' W D (.deferred none)) (fun r e=>by cases e;exact⟨hD,_,hK,rfl⟩);have HS':=Y hs';have HK:=Y hK;have hye:(ys.map fun x=>x.2.1)=(zz.map (·.1)).reverse:=by rw[<-List.map_reverse,<-hys,WC];rfl
  rw[hye]at hx4;have HYE:=Y hye;have TV:=hx4;clear hs hs' hK hys hye hx4;gi_wp2;refine⟨by simp,.inl ⟨_,_,rfl,run_takeDeferred HK.o,?_⟩⟩;refine⟨_,results_tmp rfl _ _ _,rfl,?_⟩;have hs:=HS'.o;have hgr:bR w o ⟨u6,o.cv,o.ov⟩:=⟨fun b hb=>(hs.grow b hb).imp id (fun e=>dm HB1.o.size e),fun b hb=> .inl hb,fun b hb=> .inl hb⟩;have hch:Ch (MM g o) w (W.putObj D (.deferred none)):=hs.ch.mono fun b _ hb=>hb.elim .inl (fun e=> .inr (.inl e));have hown:=hs.own;rw[HYE.o]at hown;refine HU.o.turned (o':=⟨u6,o.cv,o.ov⟩) (m':={m with goals:=(rZ base0 bar (zz.map (·.1)).reverse (m.goals,nx)).1}) hs.box hch hgr (E5 HU.o.heap hch hgr) hown ?_ ?_ HU.o.wI HU.o.qb HU.o.fu (by simp only[Uk,DZ,nR];exact xU.o) HU.o.cl HU.o.ol;·exact HU.o.OJ hs.ch fun b hb e=>e.elim (fun e=>qQ.o.cg (e▸hb)) (fun e=>qQ.o.gc b e hb)
  ·exact HU.o.Ij hs.ch (fun b hb=>hb.elim .inl (fun e=> .inr (.inl e))) (fun b hb e=>e.elim (fun e=>qQ.o.og (e▸hb)) (fun e=>qQ.o.go b e hb)) hgr rfl
 case stop=>rintro D c pre W _ _ h _;exact h.elim
end
