import Derived.Test.YtlpmfkpefoegeacGreatDoorQUbind
import Derived.Test.YtlpmfkpefoegeacGreatDoorHBack
namespace Go.Proofs.YtlpmfkpefoegeacGreatDoor
set_option maxRecDepth 99999
set_option maxHeartbeats 0
set_option linter.all false
open Go.RowKit
def ji(T:List Int)(n:Int):Int:=(T[(max 0 (min n ((T.length:Int) - 1))).toNat]?).getD 0
theorem Ua(T l:List Int)(hT:0<T.length)(A:Nat->Prop)(w:World)(u v:Value)(hu:fI A w T u)(hv:fI A w l v):Calls Tryz.prog 108 #[u,v] w (Pure w (Rf yJ au 3 1 w.heap.size (l.map (ji T)))):=by
 obtain⟨ua,asH,ub,Oe,rfl,hu1,hu2,hu3,hua,hue⟩:=hu.at;obtain⟨va,asI,vb,voff,rfl,hv1,hv2,hv3,hva,yY⟩:=hv.at;obtain⟨rfl,hAu⟩:=hua hT;have JW:=zh hue;have Ub:=zh hva;have HVE:=zh yY;have HAU:=zh hAu;clear hu hv hua hue hva yY;go_enter Tryz.func108,Tryz.ntmps108;go_wp2_with fail;go_loopw[10,5](fun i x wr=>∃j:Nat,j<=l.length/\i= .int .i64 (j:Int)/\Below w.heap.size w wr/\dA wr w.heap.size ((l.take j).map (ji T)) x)(fun i _ _=>l.length - (intOf i).toNat);case atStart=>exact⟨0,dD _,rfl,zB _ _,by rw[ng];exact af.nil⟩
 case round=>
  obtain⟨j,hj,rfl,hb,hown⟩:=hrel;have HB:=zh hb;have HO:=zh hown;have zR:=hb.size;obtain⟨xa,xc,rfl,hxl,hxm⟩:=af.val hown;have ama:((l.take j).map (ji T)).length=j:=by simp;omega
  rw[ama]at HO hxl ⊢;by_cases hlt:j<l.length
  ·obtain⟨rfl,hAv⟩:=Ub.o (by omega);obtain⟨c0,ci⟩:=AO HVE.o hAv (ag.ob hb) hlt;have hlt':(j:Int)<(l.length:Int):=by omega
   have iJ:=zh hlt;obtain⟨lj,hlj⟩:∃x:Int,x=l[j]'hlt:=⟨_,rfl⟩;rw[<-hlj]at c0 ci;have JY:=zh hlj;clear hlj;obtain⟨q,hq⟩:∃q:Nat,(q:Int)=max 0 (min lj ((T.length:Int) - 1)):=⟨(max 0 (min lj ((T.length:Int) - 1))).toNat,by omega⟩;have Uc:q<T.length:=by omega
   obtain⟨d0,di⟩:=AO JW.o HAU.o (ag.ob hb) Uc;have hval:ji T lj=T[q]:=by unfold ji;rw[<-hq,dB,aS Uc];rfl
   have Gc:=zh hval;have dC:=zh (af.eZ dO HO.o (fun _=>True));have hq0:(0:Int)<=(q:Int):=zN _;have hq1:(q:Int)<(T.length:Int):=by omega
   have Gd:=zh di;obtain⟨tq,htq⟩:∃x:Int,x=T[q]'Uc:=⟨_,rfl⟩;rw[<-htq]at d0 hval Gc Gd;clear htq;have hcases:(lj<=0/\(q:Int)=0)\/(0<lj/\lj<(T.length:Int) - 1/\(q:Int)=lj)\/(0<lj/\(T.length:Int) - 1<=lj/\(q:Int)=(T.length:Int) - 1):=by omega
   clear hb hown hval di ci hq;rcases hcases with⟨k1,k2⟩|⟨k1,k2,k3⟩|⟨k1,k2,k3⟩
   ·obtain rfl:q=0:=by omega
    simp only[qz]at d0;rcases agq k1 with k1|rfl
    ·go_wp2_with(at_builtin;go_must(refine iH rfl (.tmp 14) (.tmp 24) 57 rfl w.heap.size 3 1 8 je aQ (A:=fun _=>True) (.slice xa j xc) ((l.take j).map (ji T)) rfl dC.o tq [.int .i64 tq] rfl rfl ⟨Gd.o,rfl⟩ ⟨by simp;omega,zR⟩ ?_);go_must(intro v2 w2 hown2 az));all_goals
      have bE:=zh (af.eB hown2);have HG2:=zh az;clear hown2 az;go_roundw;case rel=>refine⟨j+1,by omega,by go_num,HG2.o.below (HB.o.alloc (by omega) _) (by simp;omega) (fun k hk=>(HO.o.lt k hk).1),?_⟩;rw[fF iJ.o,mF,Ar,<-JY.o,Gc.o];exact bE.o
      case measure=>simp[intOf];omega
    ·have d1:wr.cell? ⟨ub,Oe+((T.length:Int) - 1).toNat,none⟩=some (.int .i64 tq)\/0<(T.length:Int) - 1:=by
      by_cases h1:T.length=1;·left;rw[h1];exact d0
      ·right;omega
     rcases d1 with d1|d1;all_goals
      go_wp2_with(at_builtin;go_must(refine iH rfl (.tmp 14) (.tmp 24) 57 rfl w.heap.size 3 1 8 je aQ (A:=fun _=>True) (.slice xa j xc) ((l.take j).map (ji T)) rfl dC.o tq [.int .i64 tq] rfl rfl ⟨Gd.o,rfl⟩ ⟨by simp;omega,zR⟩ ?_);go_must(intro v2 w2 hown2 az));all_goals
       have bE:=zh (af.eB hown2);have HG2:=zh az;clear hown2 az;go_roundw;case rel=>refine⟨j+1,by omega,by go_num,HG2.o.below (HB.o.alloc (by omega) _) (by simp;omega) (fun k hk=>(HO.o.lt k hk).1),?_⟩;rw[fF iJ.o,mF,Ar,<-JY.o,Gc.o];exact bE.o
       case measure=>simp[intOf];omega
   ·subst k3;go_wp2_with(at_builtin;go_must(refine iH rfl (.tmp 14) (.tmp 24) 57 rfl w.heap.size 3 1 8 je aQ (A:=fun _=>True) (.slice xa j xc) ((l.take j).map (ji T)) rfl dC.o tq [.int .i64 tq] rfl rfl ⟨Gd.o,rfl⟩ ⟨by simp;omega,zR⟩ ?_);go_must(intro v2 w2 hown2 az));all_goals
     have bE:=zh (af.eB hown2);have HG2:=zh az;clear hown2 az;go_roundw;case rel=>refine⟨j+1,by omega,by go_num,HG2.o.below (HB.o.alloc (by omega) _) (by simp;omega) (fun k hk=>(HO.o.lt k hk).1),?_⟩;rw[fF iJ.o,mF,Ar,<-JY.o,Gc.o];exact bE.o
     case measure=>simp[intOf];omega
   ·have d1:wr.cell? ⟨ub,Oe+((T.length:Int) - 1).toNat,none⟩=some (.int .i64 tq):=by rw[<-k3,dB];exact d0
    have d2:wr.cell? ⟨ub,Oe+(T.length - 1),none⟩=some (.int .i64 tq):=by rw[show T.length - 1=q by omega];exact d0
    have d3:(wr.cell? ⟨ub,Oe,none⟩=some (.int .i64 tq)/\(T.length:Int) - 1<=0)\/0<(T.length:Int) - 1:=by
     by_cases h1:T.length=1;·left;refine⟨?_,by omega⟩;rw[show q=0 by omega]at d0;exact d0
     ·right;omega
    clear k3 d0 hq0 hq1;rcases d3 with⟨d3,d4⟩|d3
    ·rcases agq k2 with k2|k2;rotate_left;case' _=>have k4:¬lj<(T.length:Int) - 1:=by omega
     rotate_left;all_goals
      go_wp2_with(at_builtin;go_must(refine iH rfl (.tmp 14) (.tmp 24) 57 rfl w.heap.size 3 1 8 je aQ (A:=fun _=>True) (.slice xa j xc) ((l.take j).map (ji T)) rfl dC.o tq [.int .i64 tq] rfl rfl ⟨Gd.o,rfl⟩ ⟨by simp;omega,zR⟩ ?_);go_must(intro v2 w2 hown2 az));all_goals
       have bE:=zh (af.eB hown2);have HG2:=zh az;clear hown2 az;go_roundw;case rel=>refine⟨j+1,by omega,by go_num,HG2.o.below (HB.o.alloc (by omega) _) (by simp;omega) (fun k hk=>(HO.o.lt k hk).1),?_⟩;rw[fF iJ.o,mF,Ar,<-JY.o,Gc.o];exact bE.o
       case measure=>simp[intOf];omega
    ·rcases agq k2 with k2|k2;rotate_left;case' _=>subst k2
     rotate_left;all_goals
      go_wp2_with(at_builtin;go_must(refine iH rfl (.tmp 14) (.tmp 24) 57 rfl w.heap.size 3 1 8 je aQ (A:=fun _=>True) (.slice xa j xc) ((l.take j).map (ji T)) rfl dC.o tq [.int .i64 tq] rfl rfl ⟨Gd.o,rfl⟩ ⟨by simp;omega,zR⟩ ?_);go_must(intro v2 w2 hown2 az));all_goals
       have bE:=zh (af.eB hown2);have HG2:=zh az;clear hown2 az;go_roundw;case rel=>refine⟨j+1,by omega,by go_num,HG2.o.below (HB.o.alloc (by omega) _) (by simp;omega) (fun k hk=>(HO.o.lt k hk).1),?_⟩;rw[fF iJ.o,mF,Ar,<-JY.o,Gc.o];exact bE.o
       case measure=>simp[intOf];omega
  ·have dm:j=l.length:=by omega
   subst dm;rw[jU (zL _)]at HO;go_wp2_with fail;go_ret;exact⟨_,rfl,HB.o,HO.o⟩
