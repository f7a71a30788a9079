import Derived.Test.YtlpmfkpefoegeacGreatDoorQProvP
import Derived.Test.YtlpmfkpefoegeacGreatDoorQSolveZ
import Derived.Test.YtlpmfkpefoegeacGreatDoorQIsClause
namespace Go.Proofs.YtlpmfkpefoegeacGreatDoor
set_option maxRecDepth 99999
set_option maxHeartbeats 0
set_option linter.all false
open Go.RowKit
theorem alA{base:Nat}{P:List Cl}{q g:Nat}{pv:Value}(hP:dW P):∀k,abt base P q g pv k|0=>fun _ _ p _ _ _ _ h=>absurd h (Az _)|k+1=>av9 hP k (alA hP k)
theorem alB(P:List Cl)(Q:List Tm)(vars fuel:Int):(¬(dW P/\fP Q vars)/\vL P Q vars fuel=([],1))\/((dW P/\fP Q vars)/\(fuel<0\/fuel>150)/\vL P Q vars fuel=([],2))\/((dW P/\fP Q vars)/\0<=fuel/\fuel<=150/\vL P Q vars fuel=((if(dh P vars.toNat (fuel.toNat+1) (Q.map fun t=>⟨t,0⟩) [] ⟨fuel.toNat,vars,[],false,0⟩).2.ended=true then(dh P vars.toNat (fuel.toNat+1) (Q.map fun t=>⟨t,0⟩) [] ⟨fuel.toNat,vars,[],false,0⟩).2 else(dh P vars.toNat (fuel.toNat+1) (Q.map fun t=>⟨t,0⟩) [] ⟨fuel.toNat,vars,[],false,0⟩).2.put 2).out,0)):=by
 unfold vL;by_cases h1:dW P/\fP Q vars
 ·by_cases h2:fuel<0\/fuel>150;·exact .inr (.inl ⟨h1,h2,by rw[ag (dJ h1),ai h2]⟩)
  ·exact .inr (.inr ⟨h1,by omega,by omega,by rw[ag (dJ h1),ag h2]⟩)
 ·exact .inl ⟨h1,by rw[ai h1]⟩
section
variable {P : List Cl} {Q : List Tm} {vars fuel : Int}
theorem alC(h0:¬(dW P/\fP Q vars)\/(fuel<0\/fuel>150))(lM:qF P<=4194304)(hnq:Tm.bq Q<=4194304)(hv:aA vars)(hf:aA fuel)(w:World)(pv qv:Value)(hpv:lW (fun b=>b<w.heap.size) w P pv)(dB:eP (fun b=>b<w.heap.size) w Q qv):Calls Tryz.prog 39 #[pv,qv,.int .i64 vars,.int .i64 fuel] w (U6 w (vL P Q vars fuel)):=by
 have FM:=zh (alz P lM _ w pv hpv);have yj:=zh (fun(w':World)(hb:Below w.heap.size w w')=>abP Q vars hnq hv _ w' qv (au.keeps Tm.aj dB (af.ob hb)));have HS:=zh (alB P Q vars fuel);have H0:=zh h0;obtain⟨pa,pc, -, -,rfl, -⟩:=au.at hpv;obtain⟨qa,qc, -, -,rfl, -⟩:=au.at dB;clear hpv dB h0 hv;go_enter Tryz.func39,Tryz.ntmps39;go_wp2_with fail;refine(FM.o).mono ?_;rintro e w1⟨v,rfl,hb1,b1,rfl,zo⟩;have HB1:=zh hb1;have jX:=zh zo;clear hb1 zo;cases b1 with
  |false=>
   have hres:vL P Q vars fuel=([],1):=by
    rcases HS.o with⟨_,h⟩|⟨h,_⟩|⟨h,_⟩;·exact h
    ·have :=jX.o.2 h.1;cases this
    ·have :=jX.o.2 h.1;cases this
   have HR:=zh hres;clear hres;go_wp2_with fail;go_ret2;rw[HR.o];exact⟨_,rfl,HB1.o,au.nil ..⟩
  |true=>
   go_wp2_with fail;refine(yj.o w1 HB1.o).mono ?_;rintro e w2⟨v,rfl,hb2,b2,rfl,xe⟩;have HB2:=zh (HB1.o.trans (hb2.mono HB1.o.size));have HG2:=zh xe;clear hb2 xe;cases b2 with
    |false=>
     have hres:vL P Q vars fuel=([],1):=by
      rcases HS.o with⟨_,h⟩|⟨h,_⟩|⟨h,_⟩;·exact h
      ·have :=HG2.o.2 h.2;cases this
      ·have :=HG2.o.2 h.2;cases this
     have HR:=zh hres;clear hres;go_wp2_with fail;go_ret2;rw[HR.o];exact⟨_,rfl,HB2.o,au.nil ..⟩
    |true=>
     have hfb:fuel<0\/fuel>150:=by
      rcases H0.o with h|h;·exact absurd ⟨jX.o.1 (by simp),HG2.o.1 (by simp)⟩ h
      ·exact h
     have hres:vL P Q vars fuel=([],2):=by
      rcases HS.o with⟨h,_⟩|⟨_,_,h⟩|⟨_,h1,h2,_⟩;·exact absurd ⟨jX.o.1 (by simp),HG2.o.1 (by simp)⟩ h
      ·exact h
      ·omega
     have HR:=zh hres;clear hres;by_cases h1:fuel<0
     ·have hd:decide (fuel<0)=true:=by simpa using h1
      go_wp2_with fail;go_ret2;rw[HR.o];exact⟨_,rfl,HB2.o,au.nil ..⟩
     ·have hd:decide (fuel<0)=false:=by simpa using h1
      have hd2:(150:Int)<fuel:=by omega
      go_wp2_with fail;go_ret2;rw[HR.o];exact⟨_,rfl,HB2.o,au.nil ..⟩
theorem aw2(wR:dW P)(nJ:fP Q vars)(hf0:0<=fuel)(hf1:fuel<=150)(lM:qF P<=4194304)(hnq:Tm.bq Q<=4194304)(w:World)(pv qv:Value)(hpv:lW (fun b=>b<w.heap.size) w P pv)(dB:eP (fun b=>b<w.heap.size) w Q qv):Calls Tryz.prog 39 #[pv,qv,.int .i64 vars,.int .i64 fuel] w (U6 w (vL P Q vars fuel)):=by
 have hv0:=nJ.1;have Fe:=nJ.2.1;have hq5:=nJ.2.2.1;have FM:=zh (alz P lM _ w pv hpv);have yj:=zh (fun(w':World)(hb:Below w.heap.size w w')=>abP Q vars hnq (by unfold aA;omega) _ w' qv (au.keeps Tm.aj dB (af.ob hb)));have qU:=zh hpv;have Dz:=zh dB;obtain⟨vn,rfl⟩:=dQ hv0;obtain⟨fn,rfl⟩:=dQ hf0;have HS:=zh (show vL P Q (vn:Int) (fn:Int)=((if(dh P vn (fn+1) (Q.map fun t=>⟨t,0⟩) [] ⟨fn,(vn:Int),[],false,0⟩).2.ended=true then(dh P vn (fn+1) (Q.map fun t=>⟨t,0⟩) [] ⟨fn,(vn:Int),[],false,0⟩).2 else(dh P vn (fn+1) (Q.map fun t=>⟨t,0⟩) [] ⟨fn,(vn:Int),[],false,0⟩).2.put 2).out,0)by
  rcases alB P Q (vn:Int) (fn:Int)with⟨h,_⟩|⟨_,h,_⟩|⟨_,_,_,h⟩;·exact absurd ⟨wR,nJ⟩ h
  ·omega
  ·exact h);have Jq:=zh (abq (P:=P) (q:=vn) (fun c hc=>⟨(wR.2 c hc).1.1,(wR.2 c hc).1.2.1⟩) (fn+1) fn (Gb _) (Q.map fun t=>⟨t,0⟩) [] ⟨fn,(vn:Int),[],false,0⟩ rfl (by simp) (zL _));have zq:=zh wR;have DC:=zh nJ;obtain⟨pa,pc, -, -,rfl,QO,CW,QP, -⟩:=au.at hpv;obtain⟨qa,qc,qb,atI,rfl,atJ,aaq,atK,Sz,hqe⟩:=au.at dB;have HQA:=zh Sz;have DV:=zh hqe;unfold maxLen at CW aaq;clear hpv dB wR nJ Sz hqe;go_enter Tryz.func39,Tryz.ntmps39;go_wp2_with fail;refine(FM.o).mono ?_;rintro e w1⟨v,rfl,hb1,b1,rfl,zo⟩;obtain rfl:b1=true:=zo.2 zq.o;have HB1:=zh hb1;clear hb1 zo;go_wp2_with fail;refine(yj.o w1 HB1.o).mono ?_;rintro e w2⟨v,rfl,hb2,b2,rfl,xe⟩;obtain rfl:b2=true:=xe.2 DC.o;have HB2:=zh (HB1.o.trans (hb2.mono HB1.o.size));clear hb2 xe;have hd:decide ((fn:Int)<0)=false:=by simp
 have hd3:decide (150<(fn:Int))=false:=by simp;omega
 have hz2:=HB2.o.size;go_wp2_with fail;obtain⟨W5,j5⟩:∃W5,W5=w2.alloc (.cells #[.slice pa P.length pc,.int .i64 (vn:Int),.int .i64 (fn:Int),.int .i64 (vn:Int),.slice none 0 0,.bool false,.int .i64 0] 136):=⟨_,rfl⟩;have dF:=zh (show Below w.heap.size w W5 by rw[j5];exact HB2.o.alloc hz2 _);have uz:=zh (show W5.heap[w2.heap.size]?=some (.cells #[.slice pa P.length pc,.int .i64 (vn:Int),.int .i64 (fn:Int),.int .i64 (vn:Int),.slice none 0 0,.bool false,.int .i64 0] 136 (0,0))by rw[j5];exact bJ _ _);have hs5:W5.heap.size=w2.heap.size+1:=by rw[j5];simp
 obtain⟨g,hg⟩:∃g,g=w2.heap.size:=⟨_,rfl⟩;rw[<-j5];rw[<-hg]at uz;rw[<-hg];have hgw:w.heap.size<=g:=by omega
 have hg5:g<W5.heap.size:=by omega
 have eF:=zh (show kI w.heap.size P vn g (.slice pa P.length pc) (.slice none 0 0) ⟨fn,(vn:Int),[],false,0⟩ W5 from{box:=uz.o,prog:=au.keeps Cl.aj qU.o (af.ob dF.o),out:=aG.nil ..,bg:=hgw,v0:=zN _,v1:=by show(vn:Int)<=1000000;omega,fu:=by show fn<=150;omega,qq:=by omega,cl:=by simp,Ww:=by simp});clear j5 hg hs5;go_loopw[12,11](fun i v wr=>∃j:Nat,j<=Q.length/\i= .int .i64 ((j:Int) - 1)/\Below W5.heap.size W5 wr/\lU (PA g (.slice none 0 0)) wr ((Q.drop j).map fun t=>(⟨t,0⟩:Td)) v)(fun i _ _=>(intOf i+1).toNat);case atStart=>exact⟨Q.length,zL _,by go_num,zB _ _,by rw[acb];rfl⟩
 case round=>
  obtain⟨j,hj,rfl,hb,hgl⟩:=hrel;have HB:=zh hb;have F4:=zh hgl;have mR:=hb.size;obtain⟨gp,rfl⟩:=hgl.ptr;clear hb hgl;have alD:∀b,b≠g->PA g (.slice none 0 0) b:=fun b hb hp=>by
   rcases hp with e|e;·exact hb e
   ·simp[ownB]at e
  have Nr:=zh alD;clear alD;cases j with
   |succ j=>
    rw[show((j+1:Nat):Int) - 1=(j:Int)by omega];have hj0:(0:Int)<=(j:Int):=zN _;have hj1:(j:Int)<(Q.length:Int):=by omega
    have hjl:j<Q.length:=by omega
    obtain⟨rfl,Ns⟩:=HQA.o (by omega);obtain⟨sa,sc,c0,c1,c2,c3,hr⟩:=gq DV.o Ns (af.ob (dF.o.trans (HB.o.mono dF.o.size))) hjl;have HR:=zh (Tm.aj.2.1 _ (PA g (.slice none 0 0)) _ _ _ hr fun b _ hb=>Nr.o b (by omega));clear hr;go_wp2_with fail;go_roundw;case rel=>refine⟨j,by omega,by go_num,HB.o.alloc mR _,?_⟩;rw[Js hjl,qp];exact⟨wr.heap.size,sa,sc,_,rfl,Nr.o _ (by omega),bJ _ _,Tm.aj.1 _ _ _ _ _ HR.o (af.alloc _ _ _),F4.o.keeps (af.alloc _ _ _)⟩
    case measure=>simp[intOf]
   |zero=>
    rw[show((0:Nat):Int) - 1= -1 by omega];have wy:=zh (show lU (PA g (.slice none 0 0)) wr (Q.map fun t=>(⟨t,0⟩:Td)) (.pointer gp)by have :=F4.o;rwa[Gg]at this);have uE:=zh (eF.o.below HB.o);have UW:=zh (dF.o.trans (HB.o.mono dF.o.size));clear F4;go_wp2_with fail;refine(alA zq.o (fn+1) (Q.map fun t=>(⟨t,0⟩:Td)) [] ⟨fn,(vn:Int),[],false,0⟩ wr (.slice none 0 0) _ _ (Gb _) ⟨rfl,by simp,kr _,by simp only;omega,by simp only[Pv.bY,kg];omega,fun a ha=>by obtain⟨t,ht,rfl⟩:=fZ.1 ha;exact⟨(DC.o.2.2.2 t ht).2.1,by simp⟩⟩ (cz.nil _) uE.o wy.o rfl).mono ?_;rintro e W7⟨rfl,hst⟩;generalize dh P vn (fn+1) (Q.map fun t=>⟨t,0⟩) [] ⟨fn,(vn:Int),[],false,0⟩=r at*;obtain⟨ri,rp⟩:=r;obtain⟨ov7,U8,yY,aw5⟩:=hst;have Dm:=zh U8;have hfin:∀(rp':Pv)(gI:Value)(W8:World),kI w.heap.size P vn g (.slice pa P.length pc) gI rp' W8->Ch (PM g ov7) W7 W8->Below w.heap.size w W8/\U5 (fun _=>True) W8 rp'.out gI:=fun rp' gI W8 hp hc=>by
     refine⟨?_,(hp.out.mono' (A':=fun _=>True) nN fun _ _ _ _=>trivial).sl nN (show rp'.out.length<=1048576 by have :=hp.Ww;omega) (fun _ _=>trivial)⟩;have h1:Ch (fun b=>w.heap.size<=b) w W8:=((Ch.of_below UW.o).trans yY (fun b h=> .inl (by
      rcases h with e|e;·omega
      ·simp[ownB]at e))).trans hc (fun b h=> .inl ((Dm.o.vX b h).1));exact h1.below fun k hk e=>by omega
    have CY:=zh hfin;obtain⟨_,_,oa7,oc7, -,aw6, -, -,aBd,aw7⟩:=U8.vals;subst aw6;unfold maxLen at aw7;obtain⟨b0,b1,b2,b3,b4,b5,b6,bf⟩:=mY U8.box;have HS2:=zh HS.o;simp only at HS2;have alE:=zh Jq.o;simp only at alE;clear U8 yY aw5 hfin HS Jq;obtain⟨re,hre⟩:∃re,re=rp.ended:=⟨_,rfl⟩;rw[<-hre]at b5 HS2;cases re with|true=>clear hre;have lq:=zh (HS2.o.trans (by rw[ai rfl]));go_wp2_with fail;go_ret2;rw[lq.out];obtain⟨z1,z2⟩:=CY.o _ _ _ Dm.o (Ch.refl _ _);exact⟨_,rfl,z1,z2⟩|false=>have hon:=(alE.o.on hre.symm).1;clear hre;have lq:=zh (HS2.o.trans (by rw[ag (by simp)]));go_wp2_with fail;refine(vY 2 (by unfold aA;omega) Dm.o (by omega)).mono ?_;rintro e W8⟨rfl,hst⟩;obtain⟨ov8,Pj,y7, -⟩:=hst;have RD:=zh Pj;obtain⟨z1,z2⟩:=CY.o _ _ _ Pj y7;have HZ1:=zh z1;have HZ2:=zh z2;clear b0 b1 b2 b3 b4 b5 b6 bf z1 z2;obtain⟨b0,b1,b2,b3,b4,b5,b6,bf⟩:=mY Pj.box;obtain⟨_,_,oa8,oc8, -,aw8, -, -, -⟩:=Pj.vals;subst aw8;clear Pj y7;go_wp2_with fail;go_ret2;rw[lq.out];exact⟨_,rfl,HZ1.o,HZ2.o⟩
theorem aw9(lM:qF P<=4194304)(hnq:Tm.bq Q<=4194304)(hv:aA vars)(hf:aA fuel)(w:World)(pv qv:Value)(hpv:lW (fun b=>b<w.heap.size) w P pv)(dB:eP (fun b=>b<w.heap.size) w Q qv):Calls Tryz.prog 39 #[pv,qv,.int .i64 vars,.int .i64 fuel] w (U6 w (vL P Q vars fuel)):=by
 by_cases h:dW P/\fP Q vars
 ·by_cases hfb:fuel<0\/fuel>150;·exact alC (.inr hfb) lM hnq hv hf w pv qv hpv dB
  ·exact aw2 h.1 h.2 (by omega) (by omega) lM hnq w pv qv hpv dB
 ·exact alC (.inl h) lM hnq hv hf w pv qv hpv dB
end
