import Derived.Test.YtlpmfkpefoegeacGreatDoorQUbind
import Derived.Test.YtlpmfkpefoegeacGreatDoorHBack
namespace Go.Proofs.YtlpmfkpefoegeacGreatDoor
set_option maxRecDepth 99999
set_option maxHeartbeats 0
set_option linter.all false
open Go.RowKit
def kN(T:List Int)(n:Int):Int:=(T[(max 0 (min n ((T.length:Int) - 1))).toNat]?).getD 0
theorem Z4(T l:List Int)(hT:0<T.length)(A:Nat->Prop)(w:World)(u v:Value)(hu:gX A w T u)(hv:gX A w l v):Calls Tryz.prog 108 #[u,v] w (Pure w (XE Ci ah 3 1 w.heap.size (l.map (kN T)))):=by
 obtain⟨ua,aBu,ub,Uf,rfl,hu1,hu2,hu3,hua,hue⟩:=hu.at;obtain⟨va,aBv,vb,voff,rfl,hv1,hv2,hv3,hva,CB⟩:=hv.at;obtain⟨rfl,hAu⟩:=hua hT;have Bq:=Y hue;have OB:=Y hva;have HVE:=Y CB;have HAU:=Y hAu;have hT1:(1:Int)<=(T.length:Int):=by omega
 have Z5:(T.length:Int)<=1048576:=by omega
 clear hu hv hua hue hva CB;go_enter Tryz.func108,Tryz.ntmps108;go_wp2_with fail;go_loopw[10,5](fun i x wr=>∃j:Nat,j<=l.length/\i= .int .i64 (j:Int)/\Below w.heap.size w wr/\dC wr w.heap.size ((l.take j).map (kN T)) x)(fun i _ _=>l.length - (intOf i).toNat);case atStart=>exact⟨0,dA _,rfl,Z _ _,by rw[nD];exact I.nil⟩
 case round=>
  obtain⟨j,hj,rfl,hb,hown⟩:=hrel;have HB:=Y hb;have HO:=Y hown;have l8:=hb.size;obtain⟨xa,xc,rfl,hxl,hxm⟩:=I.val hown;have as4:((l.take j).map (kN T)).length=j:=by simp;omega
  rw[as4]at HO hxl ⊢;by_cases hlt:j<l.length
  ·obtain⟨rfl,hAv⟩:=OB.o (by omega);obtain⟨c0,ci⟩:=Ef HVE.o hAv (J.ob hb) hlt;have hlt':(j:Int)<(l.length:Int):=by omega
   have nT:=Y hlt;obtain⟨lj,hlj⟩:∃x:Int,x=l[j]'hlt:=⟨_,rfl⟩;rw[<-hlj]at c0 ci;have OZ:=Y hlj;clear hlj;obtain⟨q,hq⟩:∃q:Nat,(q:Int)=max 0 (min lj ((T.length:Int) - 1)):=⟨(max 0 (min lj ((T.length:Int) - 1))).toNat,by omega⟩;have Z6:q<T.length:=by omega
   obtain⟨d0,di⟩:=Ef Bq.o HAU.o (J.ob hb) Z6;have hval:kN T lj=T[q]:=by unfold kN;rw[<-hq,dF,aJ Z6];rfl
   have KJ:=Y hval;have dO:=Y (I.gT eu HO.o (fun _=>True));have hq0:(0:Int)<=(q:Int):=zN _;have hq1:(q:Int)<(T.length:Int):=by omega
   have KL:=Y di;obtain⟨tq,htq⟩:∃x:Int,x=T[q]'Z6:=⟨_,rfl⟩;rw[<-htq]at d0 hval KJ KL;clear htq;have hcases:(lj<=0/\(q:Int)=0)\/(0<lj/\lj<(T.length:Int) - 1/\(q:Int)=lj)\/(0<lj/\(T.length:Int) - 1<=lj/\(q:Int)=(T.length:Int) - 1):=by omega
   clear hb hown hval di ci hq;rcases hcases with⟨k1,k2⟩|⟨k1,k2,k3⟩|⟨k1,k2,k3⟩
   ·obtain rfl:q=0:=by omega
    simp only[rD]at d0;rcases am5 k1 with k1|rfl
    ·go_wp2_with(at_builtin;go_must(refine ja rfl (.tmp 14) (.tmp 24) 57 rfl w.heap.size 3 1 8 kC aN (A:=fun _=>True) (.slice xa j xc) ((l.take j).map (kN T)) rfl dO.o tq [.int .i64 tq] rfl rfl ⟨KL.o,rfl⟩ ⟨by simp;omega,l8⟩ ?_);go_must(intro v2 w2 hown2 aj));all_goals
      have bA:=Y (I.fJ hown2);have HG2:=Y aj;clear hown2 aj;go_roundw;case rel=>refine⟨j+1,by omega,by go_num,HG2.o.below (HB.o.alloc (by omega) _) (by simp;omega) (fun k hk=>(HO.o.lt k hk).1),?_⟩;rw[iq nT.o,qF,D5,<-OZ.o,KJ.o];exact bA.o
      case measure=>simp[intOf];omega
    ·have d1:wr.cell? ⟨ub,Uf+((T.length:Int) - 1).toNat,none⟩=some (.int .i64 tq)\/0<(T.length:Int) - 1:=by
      by_cases h1:T.length=1;·left;rw[h1];exact d0
      ·right;omega
     rcases d1 with d1|d1;all_goals
      go_wp2_with(at_builtin;go_must(refine ja rfl (.tmp 14) (.tmp 24) 57 rfl w.heap.size 3 1 8 kC aN (A:=fun _=>True) (.slice xa j xc) ((l.take j).map (kN T)) rfl dO.o tq [.int .i64 tq] rfl rfl ⟨KL.o,rfl⟩ ⟨by simp;omega,l8⟩ ?_);go_must(intro v2 w2 hown2 aj));all_goals
       have bA:=Y (I.fJ hown2);have HG2:=Y aj;clear hown2 aj;go_roundw;case rel=>refine⟨j+1,by omega,by go_num,HG2.o.below (HB.o.alloc (by omega) _) (by simp;omega) (fun k hk=>(HO.o.lt k hk).1),?_⟩;rw[iq nT.o,qF,D5,<-OZ.o,KJ.o];exact bA.o
       case measure=>simp[intOf];omega
   ·subst k3;go_wp2_with(at_builtin;go_must(refine ja rfl (.tmp 14) (.tmp 24) 57 rfl w.heap.size 3 1 8 kC aN (A:=fun _=>True) (.slice xa j xc) ((l.take j).map (kN T)) rfl dO.o tq [.int .i64 tq] rfl rfl ⟨KL.o,rfl⟩ ⟨by simp;omega,l8⟩ ?_);go_must(intro v2 w2 hown2 aj));all_goals
     have bA:=Y (I.fJ hown2);have HG2:=Y aj;clear hown2 aj;go_roundw;case rel=>refine⟨j+1,by omega,by go_num,HG2.o.below (HB.o.alloc (by omega) _) (by simp;omega) (fun k hk=>(HO.o.lt k hk).1),?_⟩;rw[iq nT.o,qF,D5,<-OZ.o,KJ.o];exact bA.o
     case measure=>simp[intOf];omega
   ·have d1:wr.cell? ⟨ub,Uf+((T.length:Int) - 1).toNat,none⟩=some (.int .i64 tq):=by rw[<-k3,dF];exact d0
    have d2:wr.cell? ⟨ub,Uf+(T.length - 1),none⟩=some (.int .i64 tq):=by rw[show T.length - 1=q by omega];exact d0
    have uF:=Y k3;have hTm:(0:Int)<=(T.length:Int) - 1:=by omega
    have d3:(wr.cell? ⟨ub,Uf,none⟩=some (.int .i64 tq)/\(T.length:Int) - 1<=0)\/0<(T.length:Int) - 1:=by
     by_cases h1:T.length=1;·left;refine⟨?_,by omega⟩;rw[show q=0 by omega]at d0;exact d0
     ·right;omega
    clear k3 d0 hq0 hq1;rcases d3 with⟨d3,d4⟩|d3
    ·rcases am5 k2 with k2|k2;rotate_left;case' _=>have k4:¬lj<(T.length:Int) - 1:=by omega
     rotate_left;all_goals
      go_wp2_with(at_builtin;go_must(refine ja rfl (.tmp 14) (.tmp 24) 57 rfl w.heap.size 3 1 8 kC aN (A:=fun _=>True) (.slice xa j xc) ((l.take j).map (kN T)) rfl dO.o tq [.int .i64 tq] rfl rfl ⟨KL.o,rfl⟩ ⟨by simp;omega,l8⟩ ?_);go_must(intro v2 w2 hown2 aj));all_goals
       have bA:=Y (I.fJ hown2);have HG2:=Y aj;clear hown2 aj;go_roundw;case rel=>refine⟨j+1,by omega,by go_num,HG2.o.below (HB.o.alloc (by omega) _) (by simp;omega) (fun k hk=>(HO.o.lt k hk).1),?_⟩;rw[iq nT.o,qF,D5,<-OZ.o,KJ.o];exact bA.o
       case measure=>simp[intOf];omega
    ·rcases am5 k2 with k2|k2;rotate_left;case' _=>subst k2
     rotate_left;all_goals
      go_wp2_with(at_builtin;go_must(refine ja rfl (.tmp 14) (.tmp 24) 57 rfl w.heap.size 3 1 8 kC aN (A:=fun _=>True) (.slice xa j xc) ((l.take j).map (kN T)) rfl dO.o tq [.int .i64 tq] rfl rfl ⟨KL.o,rfl⟩ ⟨by simp;omega,l8⟩ ?_);go_must(intro v2 w2 hown2 aj));all_goals
       have bA:=Y (I.fJ hown2);have HG2:=Y aj;clear hown2 aj;go_roundw;case rel=>refine⟨j+1,by omega,by go_num,HG2.o.below (HB.o.alloc (by omega) _) (by simp;omega) (fun k hk=>(HO.o.lt k hk).1),?_⟩;rw[iq nT.o,qF,D5,<-OZ.o,KJ.o];exact bA.o
       case measure=>simp[intOf];omega
  ·have bZ:j=l.length:=by omega
   subst bZ;rw[kg (zL _)]at HO;go_wp2_with fail;go_ret;exact⟨_,rfl,HB.o,HO.o⟩
