import Derived.RangeFuncNested
import Derived.RangeFuncBound
import Derived.RangeFuncCalls
import Derived.RangeFuncLeaves
import Derived.RangeFuncBox
import Derived.Shelf.Abstract
import Derived.OwnWalkIn
import Derived.TacticsInMore
import Derived.LoopNIn
import Derived.LoopIn
import Derived.Test.YtlpmfkpefoegeacDoorQNodes
import Derived.Test.YtlpmfkpefoegeacDoorProg
namespace Go.Proofs.YtlpmfkpefoegeacDoor
set_option maxRecDepth 100000
set_option maxHeartbeats 16000000
set_option linter.all false
open Go.RowKit Go.Shelf
/-! a region's walk, in a round -/
section
variable {P : Program} {ops : Array Oper} {Q : Exit → Act → World → Prop} {n l : Nat}
theorem Zgz{o:Oper}{a:Act}{w:World}{K K':Act->World->Prop}(hd:∀c,o.op≠ .defer c)(hK:∀a w,K a w->K' a w)(h:o.wp P a w K Q):o.wpIn (Fence.wide.inRound l) n P a w K' Q:=by refine⟨fun _ _=>trivial,?_⟩;have e:o.semAt (Fence.wide.inRound l).round a.eval=execOp a.eval o:=Oper.semAt_some l _ _ hd;rw[e];unfold Oper.wp at h;generalize(execOp a.eval o).run P w=r at*;cases r with
 |ok x w'=>cases x with
  |value v=>exact hK _ _ h
  |skip=>exact hK _ _ h
  |defer d=>exact hK _ _ h
  |enter f args=>refine⟨(fun h=>by cases h),?_⟩;refine CallsIn.inRound l (callsIn_wide.2 (Calls.mono h fun e w'' he=>?_));cases e with|returned v=>exact hK _ _ he|panicked c=>exact he|outgrown=>exact he
  |row row args=>refine⟨(fun h=>by cases h),?_⟩;intro c cs _;obtain⟨v,w',hr,hs⟩:=h c cs;exact⟨v,w',hK _ _ hr,stepsIn_wide.2 hs⟩
  |_=>exact h.elim
 |halt x w'=>cases x<;>first|exact h|exact h.elim
theorem ZbF(hd:∀(i:Nat)(o:Oper)c,ops[i]?=some o->o.op≠ .defer c)(hL:¬LetsOut Q):∀(fuel:Nat)(listed:Array Bool)(a:Act)(w:World),wpAny P .any ops Q fuel listed a w->wpAnyIn (Fence.wide.inRound l) n P .any ops Q fuel listed a w
 |0,_,_,_,h=>h
 |fuel+1,listed,a,w,h=>by
  refine⟨h.1,fun i hi=>?_⟩;have h1:=h.2 i hi;unfold wpOp at h1;unfold wpOpIn;cases ho:ops[i]? with
   |none=>rw[ho]at h1;exact ZbF hd hL fuel _ a w h1
   |some o=>
    rw[ho]at h1;simp only at h1 ⊢;split
    ·rename_i hw;rw[if_pos hw]at h1;rcases h1 with h1|h1;·exact Zgz (hd i o · ho) (fun a w h=>ZbF hd hL fuel _ a w h) h1
     ·exact absurd h1.2 hL
    ·rename_i hw;rw[if_neg hw]at h1;exact⟨fun _ _=>trivial,ZbF hd hL fuel _ _ w h1⟩
def Zjh(ops:Array Oper):Bool:=ops.toList.all fun o=>match o.op with| .defer _=>false|_=>true
theorem Ziz(h:Zjh ops=true)(i:Nat)(o:Oper)(c:Call)(ho:ops[i]?=some o):o.op≠ .defer c:=by intro e;unfold Zjh at h;rw[List.all_eq_true]at h;have :=h o (by rw[<-Array.getElem?_toList]at ho;exact List.mem_of_getElem? ho);rw[e]at this;cases this
end
/-! slices.Backward, over ints that are not great -/
abbrev Sm:={a:Int // 0<=a/\a<=1000000}
attribute [local go_sem] Oper.semAt_some
def ZoV(zs:List Sm)(k:Nat):List (Nat×Sm):=((List.range k).filterMap fun j=>(zs[zs.length - 1 - j]?).map fun x=>(zs.length - 1 - j,x))
theorem ZgA{zs:List Sm}{k:Nat}(hk:k<zs.length):ZoV zs (k+1)=ZoV zs k++[(zs.length - 1 - k,zs[zs.length - 1 - k]'(by omega))]:=by unfold ZoV;rw[List.range_succ,List.filterMap_append,List.filterMap_cons];rw[List.getElem?_eq_getElem (by omega)];simp
theorem ZgB{zs:List Sm}:∀{k:Nat},k<=zs.length->(ZoV zs k).length=k|0,_=>rfl|k+1,hk=>by rw[ZgA (by omega),List.length_append,ZgB (by omega)];simp
theorem Zkl{zs:List Sm}:∀{k:Nat},k<=zs.length->(ZoV zs k).map (·.2)=zs.reverse.take k|0,_=>rfl|k+1,hk=>by rw[ZgA (by omega),List.map_append,Zkl (by omega),List.take_succ_eq_append_getElem (by simpa using(show k<zs.length by omega))];simp[List.getElem_reverse]
theorem ZnB(F:Fence)(n:Nat)(hf:F.fn 96)(hro:F.round=none)(hn:1<=n)(l Bs b off cap:Nat)(a0:Option Addr)(zs:List Sm)(hlen:zs.length<=1000000)(D:Nat->Prop)(hDs:D Bs)(hDb:0<zs.length->a0=some ⟨b,off,none⟩/\D b)(J Jx:List (Nat×Sm)->World->Prop)(hY:∀pre x W,J pre W->pre.length<zs.length->YieldAt F (n - 1) Tryd.prog l #[.int .i64 (x.1:Int),.int .i64 x.2.1] W fun e W'=>(e= .returned (.bool true)/\J (pre++[x]) W'/\Keeps D W W')\/(e= .returned (.bool false)/\Jx (pre++[x]) W'))(W:World)(hBs:W.cell? ⟨Bs,0,none⟩=some (.slice a0 zs.length cap))(hc:∀j(hj:j<zs.length),W.cell? ⟨b,off+j,none⟩=some (.int .i64 zs[j].1))(h0:J [] W):CallsIn F n Tryd.prog 96 #[.func (.yield l) #[] #[],.pointer (some ⟨Bs,0,none⟩)] W fun e W'=>(∃v,e= .returned v)/\((∃ys,ys.map (·.2)=zs.reverse/\J ys W')\/(∃pre,True/\Jx pre W')):=by
 refine callsIn_of_wp Tryd.func96 rfl hf ?_ hro;simp only[Tryd.ntmps96,List.size_toArray,List.length_cons,List.length_nil,Nat.reduceAdd,Nat.reduceSub,Array.replicate_succ,Array.replicate_zero,List.push_toArray,List.append_toArray,List.nil_append,List.cons_append];have hb0:(0:Int)<=(zs.length:Int):=zN _;have HC:=zh hc;have HDB:=zh hDb;have HBS:=zh hBs;clear hc hDb;gi_wp2;gi_loopw[3](fun i wr=>∃k:Nat,k<=zs.length/\i= .int .i64 ((zs.length:Int) - 1 - (k:Int))/\J (ZoV zs k) wr/\Keeps D W wr)(fun i _=>(intOf i+1).toNat);case atStart=>exact⟨0,Nat.zero_le _,by simp,h0,Keeps.refl _ _⟩
 case round=>
  obtain⟨k,hk,rfl,hJs,hnx⟩:=hrel;have HNX:=zh hnx;have hk0:(0:Int)<=(k:Int):=zN _;have hbs:wr.cell? ⟨Bs,0,none⟩=some (.slice a0 zs.length cap):=hnx.cell hDs hBs;clear hBs hnx;by_cases hlt:k<zs.length
  ·have hidx:((zs.length:Int) - 1 - (k:Int))=((zs.length - 1 - k:Nat):Int):=by omega
   obtain⟨rfl,hD⟩:=HDB.o (by omega);have hcx:=HNX.o.cell hD (HC.o (zs.length - 1 - k) (by omega));have hsu:=ZgA hlt;have hkl:zs.length - 1 - k<zs.length:=by omega
   obtain⟨z,hz⟩:∃z,z=zs[zs.length - 1 - k]'hkl:=⟨zs[zs.length - 1 - k]'hkl,rfl⟩;rw[<-hz]at hcx hsu;obtain⟨m,hm⟩:∃m,m=zs.length - 1 - k:=⟨_,rfl⟩;have hml:m<zs.length:=by omega
   obtain⟨fn,tmps,assign,body,hy,hR⟩:=hY _ (m,z) wr hJs (by rw[ZgB (by omega)];exact hlt);dsimp only at hy;rw[<-hm]at hcx hsu hidx;have HSU:=zh hsu;rw[hidx];clear hz hsu hJs;have hm0:(0:Int)<=(m:Int):=zN _;have hm1:(m:Int)<(zs.length:Int):=by omega
   have hmk:(m:Int) - 1=(zs.length:Int) - 1 - ((k+1:Nat):Int):=by omega
   have HMK:=zh hmk;clear hidx hm hmk;gi_wp2;refine hR.mono ?_;rintro e W3(⟨rfl,hJ3,hk3⟩|⟨rfl,hJx3⟩)
   ·gi_wp2;go_roundw;case rel=>exact⟨k+1,by omega,by rw[HMK.o],by rw[HSU.o];exact hJ3,HNX.o.trans hk3⟩
    case measure=>simp only[intOf];omega
   ·gi_wp2;refine bodyPost_ret (results_none rfl _ _ _) rfl ?_;exact⟨⟨_,rfl⟩,.inr ⟨_,trivial,hJx3⟩⟩
  ·obtain rfl:k=zs.length:=by omega
   have hneg:(zs.length:Int) - 1 - (zs.length:Int)= -1:=by omega
   rw[hneg];gi_wp2;go_end0;exact⟨⟨_,rfl⟩,.inl ⟨_,by rw[Zkl (zL _),List.take_of_length_le (by simp)],hJs⟩⟩
theorem Zji(F:Fence)(n:Nat)(hf:F.fn 73)(hro:F.round=none)(a:Option Addr)(len cap:Nat)(w:World):CallsIn F n Tryd.prog 73 #[.slice a len cap] w fun e w'=>e= .returned (.func (.func 96) #[] #[.pointer (some ⟨w.heap.size,0,none⟩)])/\w'=w.alloc (.cells #[.slice a len cap] 43):=by refine callsIn_of_wp Tryd.func73 rfl hf ?_ hro;simp only[Tryd.ntmps73,List.size_toArray,List.length_cons,List.length_nil,Nat.reduceAdd,Nat.reduceSub,Array.replicate_succ,Array.replicate_zero,List.push_toArray,List.append_toArray,List.nil_append,List.cons_append];gi_wp2;go_ret;exact⟨rfl,rfl⟩
theorem ZgM(F:Fence)(n:Nat)(hf:F.fn 96)(hro:F.round=none)(hn:1<=n)(Bs b off cap:Nat)(a0:Option Addr)(zs:List Sm)(hlen:zs.length<=1000000)(D:Nat->Prop)(hDs:D Bs)(hDb:0<zs.length->a0=some ⟨b,off,none⟩/\D b)(w:World)(hBs:w.cell? ⟨Bs,0,none⟩=some (.slice a0 zs.length cap))(hc:∀j(hj:j<zs.length),w.cell? ⟨b,off+j,none⟩=some (.int .i64 zs[j].1)):SeqStopsK F n Tryd.prog 96 #[.pointer (some ⟨Bs,0,none⟩)] (fun x:Nat×Sm=>#[Value.int .i64 (x.1:Int),Value.int .i64 x.2.1]) (Keeps D) (fun ys=>ys.map (·.2)=zs.reverse) (fun _=>True) zs.length w:=fun l J Jx W hW _ _ hY h0=>ZnB F n hf hro hn l Bs b off cap a0 zs hlen D hDs hDb J Jx hY W (bc hW hBs) (fun j hj=>bc hW (hc j hj)) h0
theorem ZnC{D:Nat->Prop}{w:World}(hD:∀b,D b->b<w.heap.size)(W:World)(l:Nat)(o o':Obj)(hl:w.heap.size<=l)(h:W.heap[l]?=some o)(_:o.isCells=false)(_:o.isWalk=false):Keeps D W (W.putObj l o'):=⟨by simp,fun b hb hDb=>World.putObj_heap_other (fun e=>by have :=hD b hDb;omega)⟩
section
variable {P : Program} {ops : Array Oper} {Q : Exit → Act → World → Prop} {n l : Nat} {FF : Nat → World → Prop}
theorem ZgC{id:Nat}{a:Act}{w:World}(hm:P.follows .mixedOrders=true)(hd:Zjh ops=true)(hL:¬LetsOut Q)(h:Zb3 P ops Q FF ops.size (Array.replicate ops.size false) a w.drew):(Code.region id ops true).wpIn (Fence.wide.inRound l) n P Q a w:=wpIn_region_any hm (ZbF (Ziz hd) hL _ _ _ _ (ZeZ _ _ _ _ h))
end
end Go.Proofs.YtlpmfkpefoegeacDoor
