import Derived.Test.YtlpmfkpefoegeacGreatDoorQUbind
namespace Go.Proofs.YtlpmfkpefoegeacGreatDoor
set_option maxRecDepth 99999
set_option maxHeartbeats 0
set_option linter.all false
open Go.RowKit
def jR(T:List Int)(n:Int):Int:=(T[(max 0 (min n ((T.length:Int) - 1))).toNat]?).getD 0
theorem Xh(T l:List Int)(hT:0<T.length)(A:Nat->Prop)(w:World)(u v:Value)(hu:gD A w T u)(hv:gD A w l v):Calls Tryz.prog 108 #[u,v] w (Pure w (VR AJ aA 3 1 w.heap.size (l.map (jR T)))):=by
 obtain⟨ua,ayg,ub,Q0,rfl,hu1,hu2,hu3,hua,hue⟩:=hu.at;obtain⟨va,ayh,vb,voff,rfl,hv1,hv2,hv3,hva,GX⟩:=hv.at;obtain⟨rfl,hAu⟩:=hua hT;have yN:=zh hue;have Xi:=zh hva;have HVE:=zh GX;have HAU:=zh hAu;clear hu hv hua hue hva GX;go_enter Tryz.func108,Tryz.ntmps108;go_wp2_with fail;go_loopw[10,5](fun i x wr=>∃j:Nat,j<=l.length/\i= .int .i64 (j:Int)/\Below w.heap.size w wr/\dK wr w.heap.size ((l.take j).map (jR T)) x)(fun i _ _=>l.length - (intOf i).toNat);case atStart=>exact⟨0,dn _,rfl,zB _ _,by rw[mE];exact ah.nil⟩
 case round=>
  obtain⟨j,hj,rfl,hb,hown⟩:=hrel;have HB:=zh hb;have HO:=zh hown;have mR:=hb.size;obtain⟨xa,xc,rfl,hxl,hxm⟩:=ah.val hown;have aoV:((l.take j).map (jR T)).length=j:=by simp;omega
  rw[aoV]at HO hxl ⊢;by_cases hlt:j<l.length
  ·obtain⟨rfl,hAv⟩:=Xi.o (by omega);obtain⟨c0,ci⟩:=Cr HVE.o hAv (af.ob hb) hlt;have hlt':(j:Int)<(l.length:Int):=by omega
   have ky:=zh hlt;obtain⟨lj,hlj⟩:∃x:Int,x=l[j]'hlt:=⟨_,rfl⟩;rw[<-hlj]at c0 ci;have Lm:=zh hlj;clear hlj;obtain⟨q,hq⟩:∃q:Nat,(q:Int)=max 0 (min lj ((T.length:Int) - 1)):=⟨(max 0 (min lj ((T.length:Int) - 1))).toNat,by omega⟩;have Xj:q<T.length:=by omega
   obtain⟨d0,di⟩:=Cr yN.o HAU.o (af.ob hb) Xj;have hval:jR T lj=T[q]:=by unfold jR;rw[<-hq,dG,aT Xj];rfl
   have H6:=zh hval;have dP:=zh (ah.gN dY HO.o (fun _=>True));have hq0:(0:Int)<=(q:Int):=zN _;have hq1:(q:Int)<(T.length:Int):=by omega
   have H7:=zh di;obtain⟨tq,htq⟩:∃x:Int,x=T[q]'Xj:=⟨_,rfl⟩;rw[<-htq]at d0 hval H6 H7;clear htq;have hcases:(lj<=0/\(q:Int)=0)\/(0<lj/\lj<(T.length:Int) - 1/\(q:Int)=lj)\/(0<lj/\(T.length:Int) - 1<=lj/\(q:Int)=(T.length:Int) - 1):=by omega
   clear hb hown hval di ci hq;rcases hcases with⟨k1,k2⟩|⟨k1,k2,k3⟩|⟨k1,k2,k3⟩
   ·obtain rfl:q=0:=by omega
    simp only[qw]at d0;rcases al2 k1 with k1|rfl
    ·go_wp2_with(at_builtin;go_must(refine jf rfl (.tmp 14) (.tmp 24) 57 rfl w.heap.size 3 1 8 jP aW (A:=fun _=>True) (.slice xa j xc) ((l.take j).map (jR T)) rfl dP.o tq [.int .i64 tq] rfl rfl ⟨H7.o,rfl⟩ ⟨by simp;omega,mR⟩ ?_);go_must(intro v2 w2 hown2 aB));all_goals
      have bA:=zh (ah.fG hown2);have HG2:=zh aB;clear hown2 aB;go_roundw;case rel=>refine⟨j+1,by omega,by go_num,HG2.o.below (HB.o.alloc (by omega) _) (by simp;omega) (fun k hk=>(HO.o.lt k hk).1),?_⟩;rw[dX ky.o,ru,Ec,<-Lm.o,H6.o];exact bA.o
      case measure=>simp[intOf];omega
    ·have d1:wr.cell? ⟨ub,Q0+((T.length:Int) - 1).toNat,none⟩=some (.int .i64 tq)\/0<(T.length:Int) - 1:=by
      by_cases h1:T.length=1;·left;rw[h1];exact d0
      ·right;omega
     rcases d1 with d1|d1;all_goals
      go_wp2_with(at_builtin;go_must(refine jf rfl (.tmp 14) (.tmp 24) 57 rfl w.heap.size 3 1 8 jP aW (A:=fun _=>True) (.slice xa j xc) ((l.take j).map (jR T)) rfl dP.o tq [.int .i64 tq] rfl rfl ⟨H7.o,rfl⟩ ⟨by simp;omega,mR⟩ ?_);go_must(intro v2 w2 hown2 aB));all_goals
       have bA:=zh (ah.fG hown2);have HG2:=zh aB;clear hown2 aB;go_roundw;case rel=>refine⟨j+1,by omega,by go_num,HG2.o.below (HB.o.alloc (by omega) _) (by simp;omega) (fun k hk=>(HO.o.lt k hk).1),?_⟩;rw[dX ky.o,ru,Ec,<-Lm.o,H6.o];exact bA.o
       case measure=>simp[intOf];omega
   ·subst k3;go_wp2_with(at_builtin;go_must(refine jf rfl (.tmp 14) (.tmp 24) 57 rfl w.heap.size 3 1 8 jP aW (A:=fun _=>True) (.slice xa j xc) ((l.take j).map (jR T)) rfl dP.o tq [.int .i64 tq] rfl rfl ⟨H7.o,rfl⟩ ⟨by simp;omega,mR⟩ ?_);go_must(intro v2 w2 hown2 aB));all_goals
     have bA:=zh (ah.fG hown2);have HG2:=zh aB;clear hown2 aB;go_roundw;case rel=>refine⟨j+1,by omega,by go_num,HG2.o.below (HB.o.alloc (by omega) _) (by simp;omega) (fun k hk=>(HO.o.lt k hk).1),?_⟩;rw[dX ky.o,ru,Ec,<-Lm.o,H6.o];exact bA.o
     case measure=>simp[intOf];omega
   ·have d1:wr.cell? ⟨ub,Q0+((T.length:Int) - 1).toNat,none⟩=some (.int .i64 tq):=by rw[<-k3,dG];exact d0
    have d2:wr.cell? ⟨ub,Q0+(T.length - 1),none⟩=some (.int .i64 tq):=by rw[show T.length - 1=q by omega];exact d0
    have d3:(wr.cell? ⟨ub,Q0,none⟩=some (.int .i64 tq)/\(T.length:Int) - 1<=0)\/0<(T.length:Int) - 1:=by
     by_cases h1:T.length=1;·left;refine⟨?_,by omega⟩;rw[show q=0 by omega]at d0;exact d0
     ·right;omega
    clear k3 d0 hq0 hq1;rcases d3 with⟨d3,d4⟩|d3
    ·rcases al2 k2 with k2|k2;rotate_left;case' _=>have k4:¬lj<(T.length:Int) - 1:=by omega
     rotate_left;all_goals
      go_wp2_with(at_builtin;go_must(refine jf rfl (.tmp 14) (.tmp 24) 57 rfl w.heap.size 3 1 8 jP aW (A:=fun _=>True) (.slice xa j xc) ((l.take j).map (jR T)) rfl dP.o tq [.int .i64 tq] rfl rfl ⟨H7.o,rfl⟩ ⟨by simp;omega,mR⟩ ?_);go_must(intro v2 w2 hown2 aB));all_goals
       have bA:=zh (ah.fG hown2);have HG2:=zh aB;clear hown2 aB;go_roundw;case rel=>refine⟨j+1,by omega,by go_num,HG2.o.below (HB.o.alloc (by omega) _) (by simp;omega) (fun k hk=>(HO.o.lt k hk).1),?_⟩;rw[dX ky.o,ru,Ec,<-Lm.o,H6.o];exact bA.o
       case measure=>simp[intOf];omega
    ·rcases al2 k2 with k2|k2;rotate_left;case' _=>subst k2
     rotate_left;all_goals
      go_wp2_with(at_builtin;go_must(refine jf rfl (.tmp 14) (.tmp 24) 57 rfl w.heap.size 3 1 8 jP aW (A:=fun _=>True) (.slice xa j xc) ((l.take j).map (jR T)) rfl dP.o tq [.int .i64 tq] rfl rfl ⟨H7.o,rfl⟩ ⟨by simp;omega,mR⟩ ?_);go_must(intro v2 w2 hown2 aB));all_goals
       have bA:=zh (ah.fG hown2);have HG2:=zh aB;clear hown2 aB;go_roundw;case rel=>refine⟨j+1,by omega,by go_num,HG2.o.below (HB.o.alloc (by omega) _) (by simp;omega) (fun k hk=>(HO.o.lt k hk).1),?_⟩;rw[dX ky.o,ru,Ec,<-Lm.o,H6.o];exact bA.o
       case measure=>simp[intOf];omega
  ·have eH:j=l.length:=by omega
   subst eH;rw[iZ (zL _)]at HO;go_wp2_with fail;go_ret;exact⟨_,rfl,HB.o,HO.o⟩
