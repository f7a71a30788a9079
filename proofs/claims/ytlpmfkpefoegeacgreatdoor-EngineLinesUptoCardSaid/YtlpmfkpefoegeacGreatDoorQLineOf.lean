import Derived.Test.YtlpmfkpefoegeacGreatDoorQDec
import Derived.Test.YtlpmfkpefoegeacGreatDoorQNodesOf
import Derived.Test.YtlpmfkpefoegeacGreatDoorQRd6
import Derived.Test.YtlpmfkpefoegeacGreatDoorROpenE
namespace Go.Proofs.YtlpmfkpefoegeacGreatDoor
set_option maxRecDepth 99999
set_option maxHeartbeats 0
set_option linter.all false
open Go.RowKit
def vo(s:Str):Prop:=s.length<=5000000000000
theorem Xi:gz (vF qF vo):=yI QT
theorem afX:∀r:List Tm,iA 44 r=Lib.joinTail [44] (r.map bu)|[]=>rfl|t::r=>by rw[iA,afX r];simp[Lib.joinTail]
theorem afY(l:List Tm)(h:l≠[]):iA 40 l=40::Lib.join (l.map bu) [44]:=by cases l with|nil=>exact absurd rfl h|cons t r=>rw[iA,qy,Lib.join_cons,afX]
theorem ari:∀k:Nat,k<=25->(⟨#[65,66,67,68,69,70,71,72,73,74,75,76,77,78,79,80,81,82,83,84,85,86,87,88,89,90]⟩:ByteArray).extract k (k+1)=bs [UInt8.ofNat (65+k)]:=by
 have h:∀k∈List.range 26,(⟨#[65,66,67,68,69,70,71,72,73,74,75,76,77,78,79,80,81,82,83,84,85,86,87,88,89,90]⟩:ByteArray).extract k (k+1)=bs [UInt8.ofNat (65+k)]:=by decide
 exact fun k hk=>h k (kK.2 (by omega))
theorem afZ(l:List Tm)(h:∀x∈l,∃A w us,Tm.rep A w x us):(iA 40 l).length<=eD l:=by
 have :∀(l:List Tm)(c:UInt8),(∀x∈l,∃A w us,Tm.rep A w x us)->(iA c l).length<=eD l:=by intro l;induction l with|nil=>intro c _;simp[iA,eD]|cons x r ih=>intro c hm;have h1:=A8 x (fun _=>trivial) (hm x (by simp));have h2:=ih 44 fun y hy=>hm y (by simp[hy]);simp only[iA,eD,bn,bA];omega
 exact this l 40 h
def Xj(t:Tm):Prop:=∀(A:Nat->Prop)(w:World)(us:List Value),t.nodes<=4194304->Tm.rep A w t us->Calls Tryz.prog 19 #[.agg us.toArray] w (Pure w (fun v _=>v= .string (bs (bu t))))
theorem arj(k n:Int)(s:ByteArray)(l:List Tm)(ih:∀t∈l,Xj t):Xj (.mk k n s l):=by
 intro A w us hnd hv;rw[Tm.gT]at hv;obtain⟨hk,hn,hs,v,rfl,hl⟩:=hv;have hwl:=Iz hl;obtain⟨a,cap,b,off,rfl,hlc,hcm,hlb,ha,he⟩:=hl.at;have HE:=zh he;have HA:=zh ha;have IH:=zh ih;have HN:=zh hn;have iZ:=zh hnd;have IA:eD l<=4194304*1048600:=dM hwl (by simp only[Tm.nodes]at hnd;exact Cs _ (by omega));have hn0:=hn.1;have hn1:=hn.2;have HB0:=zh ((gJ w.heap.size w).alloc (zL _) (.cells #[.int .i64 k,.int .i64 n,.string s,.slice a l.length cap] 34));unfold maxLen at hcm;clear he ha hl ih hnd hn hwl;by_cases h0:k=0
 ·subst h0;have HP:=zh (show bu (.mk 0 n s l)=if n<0\/25<n then[90,122]else[UInt8.ofNat (65+n.toNat)]by unfold bu;rw[ah rfl]);by_cases hlo:n<0
  ·have hd:decide (n<0)=true:=by simpa using hlo
   have gF:=zh (HP.o.trans (ah (.inl hlo)));clear hlo;go_enter Tryz.func19,Tryz.ntmps19;go_wp2_with fail;go_ret;rw[gF.o];exact⟨_,rfl,HB0.o,rfl⟩
  ·have hd:decide (n<0)=false:=by simpa using hlo
   by_cases hhi:25<n
   ·have hd2:decide (25<n)=true:=by simpa using hhi
    have gF:=zh (HP.o.trans (ah (.inr hhi)));clear hlo hhi;go_enter Tryz.func19,Tryz.ntmps19;go_wp2_with fail;go_ret;rw[gF.o];exact⟨_,rfl,HB0.o,rfl⟩
   ·have hd2:decide (25<n)=false:=by simpa using hhi
    have gF:=zh (HP.o.trans (ae (by omega)));have ah5:0<=n:=by omega
    have ah6:n<=25:=by omega
    clear hlo hhi;have HX:=zh (ari n.toNat (by omega));have HU:=zh (show(n+1).toNat=n.toNat+1 by omega);go_enter Tryz.func19,Tryz.ntmps19;go_wp2_with fail;go_ret;rw[gF.o,<-HX.o,<-HU.o];exact⟨_,rfl,HB0.o,rfl⟩
 have hk0:(k==0)=false:=by simpa using h0
 by_cases h2:k=2;·subst h2;have gF:=zh (show bu (.mk 2 n s l)=Lib.itoa n by unfold bu;rw[ae (by omega),ah rfl]);clear h0 hk0;go_enter Tryz.func19,Tryz.ntmps19;go_wp2_with fail;refine(afV n.natAbs n rfl HN.o _).mono ?_;rintro e w1⟨rfl,rfl⟩;go_wp2_with fail;go_ret;rw[gF.o];exact⟨_,rfl,HB0.o,rfl⟩
 have hk2:(k==2)=false:=by simpa using h2
 by_cases ed:k=1\/k=3
 ·have gF:=zh (show bu (.mk k n s l)=s.data.toList++iA 40 l++(if l=[]then[]else[41])by unfold bu;rw[ae h0,ae h2,ah ed]);clear h0 h2;rcases ed with rfl|rfl
  ·go_enter Tryz.func19,Tryz.ntmps19;go_wp2_with fail;obtain⟨W1,hW1⟩:∃W1,W1=w.alloc (.cells #[.int .i64 1,.int .i64 n,.string s,.slice a l.length cap] 34):=⟨_,rfl⟩;have bR:=zh (show W1.heap[w.heap.size]?=some (.cells #[.int .i64 1,.int .i64 n,.string s,.slice a l.length cap] 34 (0,0))by rw[hW1];exact bV _ _);rw[<-hW1]at HB0;rw[<-hW1];have Cj:W1.heap.size=w.heap.size+1:=by rw[hW1];simp
   have Xk:=zh Cj;clear hW1 Cj;go_loopw[3,49](fun u3 u49 wr=>∃j:Nat,j<=l.length/\u49= .int .i64 (j:Int)/\af qF vo 9 1 wr W1.heap.size ((l.take j).map bu) u3/\Below w.heap.size w wr/\Below W1.heap.size W1 wr)(fun _ u49 _=>l.length - (intOf u49).toNat);case atStart=>exact⟨0,dD _,rfl,af.nil,HB0.o,zB _ _⟩
   case round=>
    obtain⟨j,hj,rfl,ho,hb,hb1⟩:=hrel;have HO:=zh ho;have HB:=zh hb;have gM:=zh hb1;have hj0:(0:Int)<=(j:Int):=zN _;have kX:=zh (show((l.take j).map bu).length=j by rw[jq,dS];omega);obtain⟨oa,oc,hov,hol,GV⟩:=ho.val;rw[kX.o]at hov hol;subst hov;unfold maxLen at GV;clear ho hb hb1;by_cases hlt:j<l.length
    ·obtain⟨rfl,cO⟩:=HA.o (by omega);have hlt':(j:Int)<(l.length:Int):=by omega
     obtain⟨sa,sc,c0,c1,c2,c3,hr⟩:=pG HE.o cO (ag.ob HB.o) hlt;have htk:=Iy l j hlt;have hpx:=A8 l[j] (fun _=>trivial) ⟨A,wr,_,hr⟩;have iM:=zh ((gJ wr.heap.size wr).alloc (zL _) (.cells #[.int .i64 l[j].kind,.int .i64 l[j].n,.string l[j].s,.slice sa l[j].args.length sc] 34));have HB2:=zh (HB.o.trans (iM.o.mono HB.o.size));have xC:=zh (gM.o.trans (iM.o.mono gM.o.size));have fV:=zh (show l[j].nodes<=4194304 by have :=EO (bZ hlt);have :=iZ.o;simp only[Tm.nodes]at this;omega);have Lh:=zh (show vo (bu l[j])by unfold vo;omega);have oD:=zh (IH.out _ (bZ hlt) A (wr.alloc (.cells #[.int .i64 l[j].kind,.int .i64 l[j].n,.string l[j].s,.slice sa l[j].args.length sc] 34)) _ fV.o (Tm.aA.1 _ _ _ _ _ hr (ag.ob iM.o)));have iJ:=zh hlt;clear hr htk hpx;go_wp2_with fail;refine oD.o.mono ?_;rintro e w2⟨v,rfl,hb2,rfl⟩;have HB3:=zh (HB2.o.trans (hb2.mono HB2.o.size));have mP:=zh (xC.o.trans (hb2.mono xC.o.size));have sS:=zh ((HO.o.below iM.o).below (hb2.mono (zL _)));have Xl:=zh (show l.length<=4194303 by have h1:=Xh l;have h2:=iZ.o;simp only[Tm.nodes]at h2;omega);clear hb2 c0 c1 c2 c3;go_wp2_with(at_builtin;go_must(refine iH rfl (.tmp 53) (.tmp 56) 45 rfl W1.heap.size 9 1 16 Iu Xi (A:=fun _=>True) (.slice oa j oc) ((l.take j).map bu) rfl (af.eZ vK sS.o _) (bu l[j]) [.string (bs (bu l[j]))] (by rfl) rfl ⟨Lh.o,rfl⟩ ⟨by rw[kX.o];have :=Xl.o;have :=iJ.o;omega,mP.o.size⟩ ?_);go_must(intro v2 w6 hown hg;have hof:=af.eB hown;obtain⟨IX,IY,hv2, -⟩:=aI.j5 hown;rw[bA,kX.o,dW]at hv2;subst hv2;have gN:=zh hof;have jT:=zh (hg.below (HB3.o.alloc HB3.o.size _) (by simp only[bF];have :=HB3.o.size;omega) (fun k hk=>by have :=(sS.o.lt k hk).1;have :=Xk.o;omega));have Lf:=zh (hg.below (mP.o.alloc mP.o.size _) (by simp only[bF];have :=mP.o.size;omega) (fun k hk=>(sS.o.lt k hk).1));clear hown hg hof));go_roundw;case rel=>exact⟨j+1,iJ.o,by go_num,by rw[fF iJ.o,mF];exact gN.o,jT.o,Lf.o⟩
     case measure=>simp[intOf];omega
    ·have dm:j=l.length:=by omega
     subst dm;obtain⟨x0,x1,x2,x3,xf⟩:=aW (aL bR.o gM.o);have hlt':¬(l.length:Int)<(l.length:Int):=by omega
     by_cases hnil:l=[]
     ·have hz:((l.length:Int)==0)=true:=by rw[hnil];rfl
      have hzi:(l.length:Int)=0:=by rw[hnil];rfl
      have rW:=zh hnil;clear hnil hlt';go_wp2_with fail;go_ret;rw[gF.o,ah rW.o];exact⟨.string s,rfl,HB.o,by rw[rW.o,iA,nW,nW,Mf]⟩
     ·have hp:0<l.length:=XC.2 hnil;have hz:((l.length:Int)==0)=false:=by rw[tY];omega
      have rW:=zh hnil;have El:=zh (afY l hnil);obtain⟨ga,nP,hge, -, -, -,bX,hfz,lK,hgb,hcell⟩:=af.at vK HO.o (by rw[kX.o];exact hp);simp only[eX]at hge;obtain⟨rfl, -,rfl⟩:=hge;have yw:=zh (show(Lib.join (l.map bu) [44]).length<=5000000000000 by have h1:=afZ l (fun x hx=>by obtain⟨i,hi,hix⟩:=Es hx;obtain⟨us, -,rV, -⟩:=HE.o i x (by rw[<-hix];exact aS hi);exact⟨A,w,us,rV⟩);rw[El.o]at h1;simp only[bn]at h1;omega);have hmm:((l.map bu).map bs).map (·.data.toList)=l.map bu:=by simp[Iq]
      have fP:((l.map bu).map bs).length=l.length:=by simp
      have hcl:∀(i:Nat)x,((l.map bu).map bs)[i]?=some x->wr.cell? ⟨ga,0+i,none⟩=some (.string x):=fun i x hx=>by
       have hi:i<l.length:=by have :=(iO.1 hx).1;simpa using this
       have h2:=hcell i (by rw[kX.o];exact hi) 0 _ rfl;rw[yF,qz]at h2;rw[kL];have h3:((l.map bu).map bs)[i]?=some (bs (bu l[i])):=by simp[hi]
       rw[h3]at hx;simp only[cZ]at hx;subst hx;rw[h2];simp
      have HJ:=zh (fun(W:World)(hk:∀(i:Nat)x,((l.map bu).map bs)[i]?=some x->W.cell? ⟨ga,0+i,none⟩=some (.string x))(hw:ga<W.heap.size)=>Xg ga 0 oc ((l.map bu).map bs) ⟨#[44]⟩ W hk hw (by rw[fP];omega) (by rw[fP];omega) (by rw[hmm];have :=yw.o;show(Lib.join (l.map bu) [44]).length<=_;omega));rw[hmm,fP]at HJ;have nK:=zh hcl;have hs1:s.size+1<=9223372036854775807:=by omega
      obtain⟨J,hJ⟩:∃J,J=Lib.join (l.map bu) [44]:=⟨_,rfl⟩;rw[<-hJ]at HJ El yw;have hq2:wr.drew.cell? ⟨w.heap.size,2,none⟩=some (.string s):=x2;have sZ:=zh (show(s++⟨#[40]⟩:ByteArray).size<=1048577/\(⟨J.toArray⟩:ByteArray).size<=5000000000000 from⟨by rw[Er];show s.size+1<=_;omega,yw.o⟩);have hs1:s.size+(⟨#[40]⟩:ByteArray).size<=9223372036854775807:=by show s.size+1<=_;omega
      clear hnil hcell bX hfz hmm fP hcl hlt' hJ;go_wp2_with fail;refine iY (F:=fun k w'=>k=1->w'.cell? ⟨w.heap.size,2,none⟩=some (.string s)) (by kernel_rfl) ?_;refine aC (i:=0) (v:=?_) rfl (Or.inl ⟨by rfl,?_⟩) (fun _=>hq2) ?_;rotate_left;·(intro w' hw;clear hw;go_simp<;>with_reducible rfl)
      try simp only[zP]
      refine aC (i:=1) (v:=?_) rfl (Or.inl ⟨by rfl,?_⟩) (fun _=>hq2) ?_;rotate_left;·(intro w' hw;obtain q2:=hw (by omega);go_simp<;>with_reducible rfl)
      try simp only[zP]
      refine aC (i:=2) (v:= .string (s++⟨#[40]⟩)) rfl (Or.inl ⟨by rfl,?_⟩) (fun _=>hq2) ?_;·(intro w' hw;clear hw;go_simp<;>first|with_reducible rfl|omega)
      try simp only[zP]
      refine aC (i:=3) (v:=?_) rfl (Or.inl ⟨by rfl,?_⟩) (fun _=>hq2) ?_;rotate_left;·(intro w' hw;clear hw;go_simp<;>with_reducible rfl)
      try simp only[zP]
      refine aM (i:=4) (by kernel_rfl) (aF rfl (by rfl) ?_);go_simp;refine(HJ.o wr.drew (fun i x hx=>nK.o i x hx) lK).mono ?_;rintro e w5⟨rfl,hb5⟩;have dx:=zh (HB.o.drew.trans (hb5.mono HB.o.size));have Em:w5.cell? ⟨w.heap.size,2,none⟩=some (.string s):=(ag.ob (A:=fun _=>True) hb5).cell trivial hq2;clear hb5;refine⟨fun _ _ _ _=>Em,?_⟩;have Li:=zh (show s++(⟨#[40]⟩:ByteArray)++(⟨J.toArray⟩:ByteArray)++(⟨#[41]⟩:ByteArray)=bs (bu (.mk 1 n s l))by rw[gF.o,ae rW.o,El.o];apply XP;simp[Xx,bs]);obtain⟨hz1,hz2⟩:=sZ.o;obtain⟨P1,hP1⟩:∃P1,s++(⟨#[40]⟩:ByteArray)=P1:=⟨_,rfl⟩;obtain⟨P2,hP2⟩:∃P2:ByteArray,⟨J.toArray⟩=P2:=⟨_,rfl⟩;rw[hP1,hP2]at Li;rw[hP1]at hz1;rw[hP2]at hz2;rw[hP1,hP2];have Xm:=Li;have hs2:P1.size+P2.size<=9223372036854775807:=by omega
      clear hP1 hP2;refine aC (i:=5) (v:= .string (P1++P2)) rfl (Or.inl ⟨by rfl,?_⟩) (fun _=>Em) ?_;·(intro w' hw;clear hw;go_simp<;>first|with_reducible rfl|omega)
      try simp only[zP]
      refine aC (i:=6) (v:= .string (P1++P2++⟨#[41]⟩)) rfl (Or.inl ⟨by rfl,?_⟩) (fun _=>Em) ?_;·(intro w' hw;clear hw;go_simp<;>first|with_reducible rfl|omega)
      try simp only[zP]
      refine aM (i:=7) (by kernel_rfl) (aF rfl (by rfl) ?_);go_simp;refine⟨fun _ _ h=>h,fU (by kernel_rfl) ?_ _⟩;go_wp2_with fail;go_ret;exact⟨_,rfl,dx.o,congrArg Value.string Xm.o⟩
  ·go_enter Tryz.func19,Tryz.ntmps19;go_wp2_with fail;obtain⟨W1,hW1⟩:∃W1,W1=w.alloc (.cells #[.int .i64 3,.int .i64 n,.string s,.slice a l.length cap] 34):=⟨_,rfl⟩;have bR:=zh (show W1.heap[w.heap.size]?=some (.cells #[.int .i64 3,.int .i64 n,.string s,.slice a l.length cap] 34 (0,0))by rw[hW1];exact bV _ _);rw[<-hW1]at HB0;rw[<-hW1];have Cj:W1.heap.size=w.heap.size+1:=by rw[hW1];simp
   have Xk:=zh Cj;clear hW1 Cj;go_loopw[3,49](fun u3 u49 wr=>∃j:Nat,j<=l.length/\u49= .int .i64 (j:Int)/\af qF vo 9 1 wr W1.heap.size ((l.take j).map bu) u3/\Below w.heap.size w wr/\Below W1.heap.size W1 wr)(fun _ u49 _=>l.length - (intOf u49).toNat);case atStart=>exact⟨0,dD _,rfl,af.nil,HB0.o,zB _ _⟩
   case round=>
    obtain⟨j,hj,rfl,ho,hb,hb1⟩:=hrel;have HO:=zh ho;have HB:=zh hb;have gM:=zh hb1;have hj0:(0:Int)<=(j:Int):=zN _;have kX:=zh (show((l.take j).map bu).length=j by rw[jq,dS];omega);obtain⟨oa,oc,hov,hol,GV⟩:=ho.val;rw[kX.o]at hov hol;subst hov;unfold maxLen at GV;clear ho hb hb1;by_cases hlt:j<l.length
    ·obtain⟨rfl,cO⟩:=HA.o (by omega);have hlt':(j:Int)<(l.length:Int):=by omega
     obtain⟨sa,sc,c0,c1,c2,c3,hr⟩:=pG HE.o cO (ag.ob HB.o) hlt;have htk:=Iy l j hlt;have hpx:=A8 l[j] (fun _=>trivial) ⟨A,wr,_,hr⟩;have iM:=zh ((gJ wr.heap.size wr).alloc (zL _) (.cells #[.int .i64 l[j].kind,.int .i64 l[j].n,.string l[j].s,.slice sa l[j].args.length sc] 34));have HB2:=zh (HB.o.trans (iM.o.mono HB.o.size));have xC:=zh (gM.o.trans (iM.o.mono gM.o.size));have fV:=zh (show l[j].nodes<=4194304 by have :=EO (bZ hlt);have :=iZ.o;simp only[Tm.nodes]at this;omega);have Lh:=zh (show vo (bu l[j])by unfold vo;omega);have oD:=zh (IH.out _ (bZ hlt) A (wr.alloc (.cells #[.int .i64 l[j].kind,.int .i64 l[j].n,.string l[j].s,.slice sa l[j].args.length sc] 34)) _ fV.o (Tm.aA.1 _ _ _ _ _ hr (ag.ob iM.o)));have iJ:=zh hlt;clear hr htk hpx;go_wp2_with fail;refine oD.o.mono ?_;rintro e w2⟨v,rfl,hb2,rfl⟩;have HB3:=zh (HB2.o.trans (hb2.mono HB2.o.size));have mP:=zh (xC.o.trans (hb2.mono xC.o.size));have sS:=zh ((HO.o.below iM.o).below (hb2.mono (zL _)));have Xl:=zh (show l.length<=4194303 by have h1:=Xh l;have h2:=iZ.o;simp only[Tm.nodes]at h2;omega);clear hb2 c0 c1 c2 c3;go_wp2_with(at_builtin;go_must(refine iH rfl (.tmp 53) (.tmp 56) 45 rfl W1.heap.size 9 1 16 Iu Xi (A:=fun _=>True) (.slice oa j oc) ((l.take j).map bu) rfl (af.eZ vK sS.o _) (bu l[j]) [.string (bs (bu l[j]))] (by rfl) rfl ⟨Lh.o,rfl⟩ ⟨by rw[kX.o];have :=Xl.o;have :=iJ.o;omega,mP.o.size⟩ ?_);go_must(intro v2 w6 hown hg;have hof:=af.eB hown;obtain⟨IX,IY,hv2, -⟩:=aI.j5 hown;rw[bA,kX.o,dW]at hv2;subst hv2;have gN:=zh hof;have jT:=zh (hg.below (HB3.o.alloc HB3.o.size _) (by simp only[bF];have :=HB3.o.size;omega) (fun k hk=>by have :=(sS.o.lt k hk).1;have :=Xk.o;omega));have Lf:=zh (hg.below (mP.o.alloc mP.o.size _) (by simp only[bF];have :=mP.o.size;omega) (fun k hk=>(sS.o.lt k hk).1));clear hown hg hof));go_roundw;case rel=>exact⟨j+1,iJ.o,by go_num,by rw[fF iJ.o,mF];exact gN.o,jT.o,Lf.o⟩
     case measure=>simp[intOf];omega
    ·have dm:j=l.length:=by omega
     subst dm;obtain⟨x0,x1,x2,x3,xf⟩:=aW (aL bR.o gM.o);have hlt':¬(l.length:Int)<(l.length:Int):=by omega
     by_cases hnil:l=[]
     ·have hz:((l.length:Int)==0)=true:=by rw[hnil];rfl
      have hzi:(l.length:Int)=0:=by rw[hnil];rfl
      have rW:=zh hnil;clear hnil hlt';go_wp2_with fail;go_ret;rw[gF.o,ah rW.o];exact⟨.string s,rfl,HB.o,by rw[rW.o,iA,nW,nW,Mf]⟩
     ·have hp:0<l.length:=XC.2 hnil;have hz:((l.length:Int)==0)=false:=by rw[tY];omega
      have rW:=zh hnil;have El:=zh (afY l hnil);obtain⟨ga,nP,hge, -, -, -,bX,hfz,lK,hgb,hcell⟩:=af.at vK HO.o (by rw[kX.o];exact hp);simp only[eX]at hge;obtain⟨rfl, -,rfl⟩:=hge;have yw:=zh (show(Lib.join (l.map bu) [44]).length<=5000000000000 by have h1:=afZ l (fun x hx=>by obtain⟨i,hi,hix⟩:=Es hx;obtain⟨us, -,rV, -⟩:=HE.o i x (by rw[<-hix];exact aS hi);exact⟨A,w,us,rV⟩);rw[El.o]at h1;simp only[bn]at h1;omega);have hmm:((l.map bu).map bs).map (·.data.toList)=l.map bu:=by simp[Iq]
      have fP:((l.map bu).map bs).length=l.length:=by simp
      have hcl:∀(i:Nat)x,((l.map bu).map bs)[i]?=some x->wr.cell? ⟨ga,0+i,none⟩=some (.string x):=fun i x hx=>by
       have hi:i<l.length:=by have :=(iO.1 hx).1;simpa using this
       have h2:=hcell i (by rw[kX.o];exact hi) 0 _ rfl;rw[yF,qz]at h2;rw[kL];have h3:((l.map bu).map bs)[i]?=some (bs (bu l[i])):=by simp[hi]
       rw[h3]at hx;simp only[cZ]at hx;subst hx;rw[h2];simp
      have HJ:=zh (fun(W:World)(hk:∀(i:Nat)x,((l.map bu).map bs)[i]?=some x->W.cell? ⟨ga,0+i,none⟩=some (.string x))(hw:ga<W.heap.size)=>Xg ga 0 oc ((l.map bu).map bs) ⟨#[44]⟩ W hk hw (by rw[fP];omega) (by rw[fP];omega) (by rw[hmm];have :=yw.o;show(Lib.join (l.map bu) [44]).length<=_;omega));rw[hmm,fP]at HJ;have nK:=zh hcl;have hs1:s.size+1<=9223372036854775807:=by omega
      obtain⟨J,hJ⟩:∃J,J=Lib.join (l.map bu) [44]:=⟨_,rfl⟩;rw[<-hJ]at HJ El yw;have hq2:wr.drew.cell? ⟨w.heap.size,2,none⟩=some (.string s):=x2;have sZ:=zh (show(s++⟨#[40]⟩:ByteArray).size<=1048577/\(⟨J.toArray⟩:ByteArray).size<=5000000000000 from⟨by rw[Er];show s.size+1<=_;omega,yw.o⟩);have hs1:s.size+(⟨#[40]⟩:ByteArray).size<=9223372036854775807:=by show s.size+1<=_;omega
      clear hnil hcell bX hfz hmm fP hcl hlt' hJ;go_wp2_with fail;refine iY (F:=fun k w'=>k=1->w'.cell? ⟨w.heap.size,2,none⟩=some (.string s)) (by kernel_rfl) ?_;refine aC (i:=0) (v:=?_) rfl (Or.inl ⟨by rfl,?_⟩) (fun _=>hq2) ?_;rotate_left;·(intro w' hw;clear hw;go_simp<;>with_reducible rfl)
      try simp only[zP]
      refine aC (i:=1) (v:=?_) rfl (Or.inl ⟨by rfl,?_⟩) (fun _=>hq2) ?_;rotate_left;·(intro w' hw;obtain q2:=hw (by omega);go_simp<;>with_reducible rfl)
      try simp only[zP]
      refine aC (i:=2) (v:= .string (s++⟨#[40]⟩)) rfl (Or.inl ⟨by rfl,?_⟩) (fun _=>hq2) ?_;·(intro w' hw;clear hw;go_simp<;>first|with_reducible rfl|omega)
      try simp only[zP]
      refine aC (i:=3) (v:=?_) rfl (Or.inl ⟨by rfl,?_⟩) (fun _=>hq2) ?_;rotate_left;·(intro w' hw;clear hw;go_simp<;>with_reducible rfl)
      try simp only[zP]
      refine aM (i:=4) (by kernel_rfl) (aF rfl (by rfl) ?_);go_simp;refine(HJ.o wr.drew (fun i x hx=>nK.o i x hx) lK).mono ?_;rintro e w5⟨rfl,hb5⟩;have dx:=zh (HB.o.drew.trans (hb5.mono HB.o.size));have Em:w5.cell? ⟨w.heap.size,2,none⟩=some (.string s):=(ag.ob (A:=fun _=>True) hb5).cell trivial hq2;clear hb5;refine⟨fun _ _ _ _=>Em,?_⟩;have Li:=zh (show s++(⟨#[40]⟩:ByteArray)++(⟨J.toArray⟩:ByteArray)++(⟨#[41]⟩:ByteArray)=bs (bu (.mk 3 n s l))by rw[gF.o,ae rW.o,El.o];apply XP;simp[Xx,bs]);obtain⟨hz1,hz2⟩:=sZ.o;obtain⟨P1,hP1⟩:∃P1,s++(⟨#[40]⟩:ByteArray)=P1:=⟨_,rfl⟩;obtain⟨P2,hP2⟩:∃P2:ByteArray,⟨J.toArray⟩=P2:=⟨_,rfl⟩;rw[hP1,hP2]at Li;rw[hP1]at hz1;rw[hP2]at hz2;rw[hP1,hP2];have Xm:=Li;have hs2:P1.size+P2.size<=9223372036854775807:=by omega
      clear hP1 hP2;refine aC (i:=5) (v:= .string (P1++P2)) rfl (Or.inl ⟨by rfl,?_⟩) (fun _=>Em) ?_;·(intro w' hw;clear hw;go_simp<;>first|with_reducible rfl|omega)
      try simp only[zP]
      refine aC (i:=6) (v:= .string (P1++P2++⟨#[41]⟩)) rfl (Or.inl ⟨by rfl,?_⟩) (fun _=>Em) ?_;·(intro w' hw;clear hw;go_simp<;>first|with_reducible rfl|omega)
      try simp only[zP]
      refine aM (i:=7) (by kernel_rfl) (aF rfl (by rfl) ?_);go_simp;refine⟨fun _ _ h=>h,fU (by kernel_rfl) ?_ _⟩;go_wp2_with fail;go_ret;exact⟨_,rfl,dx.o,congrArg Value.string Xm.o⟩
 ·have gF:=zh (show bu (.mk k n s l)=[]by unfold bu;rw[ae h0,ae h2,ae ed]);have NW:(k != 1)=true:=by simpa using fun e=>ed (.inl e)
  have Fa:(k != 3)=true:=by simpa using fun e=>ed (.inr e)
  clear h0 h2 ed;go_enter Tryz.func19,Tryz.ntmps19;go_wp2_with fail;go_ret;rw[gF.o];exact⟨_,rfl,HB0.o,rfl⟩
theorem ark:∀t,Xj t:=by intro t;induction t using Tm.induct with|h k n s l ih=>exact arj k n s l ih
def mW(i:Nat):List Tm->List Str|[]=>[]|t::r=>(Lib.itoa (i:Int)++61::bu t)::mW (i+1) r
theorem af0:∀(l:List Tm)(i:Nat),(mW i l).length=l.length|[],i=>rfl|t::r,i=>by simp only[mW,bn,af0 r]
theorem af1:∀(l:List Tm)(i:Nat)(t:Tm),mW i (l++[t])=mW i l++[Lib.itoa ((i+l.length:Nat):Int)++61::bu t]|[],i,t=>by simp[mW]|x::r,i,t=>by rw[mE,mW,mW,af1 r (i+1) t,bn,show i+1+r.length=i+(r.length+1)by omega];simp
theorem af2:∀(l:List Tm)(i:Nat),Lib.joinTail [32] (mW i l)=j3 i l|[],i=>rfl|t::r,i=>by rw[mW,j3,<-af2 r (i+1)];simp[Lib.joinTail]
theorem af3(l:List Tm):Lib.join ([121,101,115]::mW 0 l) [32]=[121,101,115]++j3 0 l:=by rw[Lib.join_cons,af2]
theorem af.arl{α:Type}{f:α->List Value}{ok:α->Prop}{E:TypeId}{size base g:Nat}{w:World}{x:α}(hf:∀x,(f x).length=size)(hb:base<=g)(hok:ok x)(h:w.heap[g]?=some (.cells (f x).toArray E (0,0))):af f ok E size w base [x] (.slice (some ⟨g,0,none⟩) 1 1):=by refine⟨⟨by rw[Ip hf],.inr ⟨g,1,_,rfl,by omega,hb,h,zL _,by simp[maxLen],by simp[hf],?_⟩⟩,fun y hy=>by simp at hy;subst hy;exact hok⟩;rw[jU (by simp[hf])];simp
theorem arn(l:List Tm):∀(i:Nat),i+l.length<=1000000000->(∀x∈l,(bu x).length<=xA x)->(j3 i l).length<=23*l.length+eD l:=by induction l with|nil=>intro i _ _;simp[j3]|cons t r ih=>intro i hi h;simp only[bn]at hi;have h1:=ih (i+1) (by omega) fun x hx=>h x (by simp[hx]);have h2:=h t (by simp);have h3:=Lib.itoa_length_le (i:Int) (by omega) (by omega);simp only[j3,eD,bn,bA];omega
theorem aro(e:Ev)(A:Nat->Prop)(w:World)(vs:List Value)(hnd:Tm.aH e.terms<=4194303)(hv:oJ A w e vs):Calls Tryz.prog 22 #[.agg vs.toArray] w (Pure w (fun v _=>v= .string (bs (oz e)))):=by
 obtain⟨tv,rfl,hl,hk⟩:=hv;have hwl:=Iz hl;obtain⟨a,cap,b,off,rfl,hlc,hcm,hlb,ha,he⟩:=hl.at;have HE:=zh he;have HA:=zh ha;have IA:eD e.terms<=4194304*1048600:=dM hwl (Cs _ (by omega));have iZ:=zh hnd;obtain⟨K,hK⟩:∃K,K=e.kind:=⟨_,rfl⟩;rw[<-hK]at hk ⊢;obtain⟨L,hL⟩:∃L,L=e.terms:=⟨_,rfl⟩;rw[<-hL]at HE HA iZ IA hlc hlb ⊢;have HB0:=zh ((gJ w.heap.size w).alloc (zL _) (.cells #[.int .i64 K,.slice a L.length cap] 42));have hk0:=hk.1;have hk1:=hk.2;have IK:oz e=if K=1 then[121,101,115]++j3 0 L else xB K:=by rw[hK,hL];rfl
 have vR:=zh IK;unfold maxLen at hcm;clear he ha hl hk hnd hwl hK hL IK;by_cases h1:K=1
 ·subst h1;have HR:=zh (vR.o.trans (ah rfl));go_enter Tryz.func22,Tryz.ntmps22;go_wp2_with fail;obtain⟨W0,hW0⟩:∃W0,W0=w.alloc (.cells #[.int .i64 1,.slice a L.length cap] 42):=⟨_,rfl⟩;have hz0:W0.heap.size=w.heap.size+1:=by rw[hW0];simp
  rw[<-hW0];rw[<-hW0]at HB0;clear hW0;obtain⟨W1,hW1⟩:∃W1,W1=W0.alloc (.cells #[.string ⟨#[121,101,115]⟩] 9):=⟨_,rfl⟩;have HB1:=zh (show Below w.heap.size w W1 from by rw[hW1];exact HB0.o.alloc HB0.o.size _);have HOW:=zh (show af qF vo 9 1 W1 (w.heap.size+1) [[121,101,115]] (.slice (some ⟨w.heap.size+1,0,none⟩) 1 1)from by rw[hW1,<-hz0];exact af.arl vK (zL _) (by unfold vo;simp) (bV _ _));have HZ1:=zh (show w.heap.size+1<=W1.heap.size from by rw[hW1];simp only[bF];omega);try rw[<-hW1]
  clear hW1 hz0;go_loopw[3,24](fun u3 u24 wr=>∃j:Nat,j<=L.length/\u24= .int .i64 (j:Int)/\af qF vo 9 1 wr (w.heap.size+1) ([121,101,115]::mW 0 (L.take j)) u3/\w.heap.size+1<=wr.heap.size/\Below w.heap.size w wr)(fun _ u24 _=>L.length - (intOf u24).toNat);case atStart=>exact⟨0,dD _,rfl,HOW.o,HZ1.o,HB1.o⟩
  case round=>
   obtain⟨j,hj,rfl,ho,hz1,hb⟩:=hrel;have HO:=zh ho;have HB:=zh hb;have hj0:(0:Int)<=(j:Int):=zN _;have kX:=zh (show([121,101,115]::mW 0 (L.take j)).length=j+1 by rw[bn,af0,dS];omega);obtain⟨oa,oc,hov,hol,GV⟩:=ho.val;rw[kX.o]at hov hol;subst hov;unfold maxLen at GV;clear ho hb;by_cases hlt:j<L.length
   ·obtain⟨rfl,cO⟩:=HA.o (by omega);have hlt':(j:Int)<(L.length:Int):=by omega
    obtain⟨sa,sc,c0,c1,c2,c3,hr⟩:=pG HE.o cO (ag.ob HB.o) hlt;have htk:=Iy L j hlt;have hpx:=A8 L[j] (fun _=>trivial) ⟨A,wr,_,hr⟩;obtain⟨X,hX⟩:∃X,X=L[j]:=⟨_,rfl⟩;rw[<-hX]at c0 c1 c2 c3 hr htk hpx;have jH:=zh hX;have fV:=zh (show X.nodes<=4194304 by rw[hX];have :=EO (bZ hlt);have :=iZ.o;omega);have hij:au (j:Int):=by unfold au;omega
    have hil:=Lib.itoa_length_le (j:Int) hij.1 hij.2;have Ro:=zh hij;obtain⟨I,hI⟩:∃I,I=bs (Lib.itoa (j:Int)):=⟨_,rfl⟩;have hIz:I.size<=21:=by rw[hI,dY];exact hil
    obtain⟨P,hP⟩:∃P,P=bs (bu X):=⟨_,rfl⟩;have hPz:P.size+1<=xA X:=by rw[hP,dY];exact hpx
    have HI:=zh hI;have HP:=zh hP;have hpb:P.size<=4398147174400:=by omega
    obtain⟨OB,hOB⟩:∃OB,OB=Obj.cells #[.int .i64 X.kind,.int .i64 X.n,.string X.s,.slice sa X.args.length sc] 34 (0,0):=⟨_,rfl⟩;have iM:=zh (((gJ wr.heap.size wr).alloc (zL _) (.cells #[.int .i64 X.kind,.int .i64 X.n,.string X.s,.slice sa X.args.length sc] 34)).drew);have Rp:=zh (Tm.aA.1 _ _ (wr.alloc (.cells #[.int .i64 X.kind,.int .i64 X.n,.string X.s,.slice sa X.args.length sc] 34)).drew _ _ hr (ag.ob iM.o));have HB1:=zh (HB.o.trans (iM.o.mono HB.o.size));have ik:=zh (HO.o.below iM.o);have HXB:=zh (show(wr.alloc (.cells #[.int .i64 X.kind,.int .i64 X.n,.string X.s,.slice sa X.args.length sc] 34)).drew.heap[wr.heap.size]?=some (.cells #[.int .i64 X.kind,.int .i64 X.n,.string X.s,.slice sa X.args.length sc] 34 (0,0))from bV _ _);have HOG:=zh (show ownB (.slice oa (j+1) oc)≠some wr.heap.size from fun e=>by have :=(HO.o.lt _ e).2;omega);clear hX hr hpx htk hij hil hI hP hOB OB;go_wp2_with fail;refine iY (F:=fun k w'=>k=4->w'.cell? ⟨wr.heap.size,0,none⟩=some (.int .i64 X.kind)/\w'.cell? ⟨wr.heap.size,1,none⟩=some (.int .i64 X.n)/\w'.cell? ⟨wr.heap.size,2,none⟩=some (.string X.s)/\w'.cell? ⟨wr.heap.size,3,none⟩=some (.slice sa X.args.length sc)/\∀o,w'.frozen? ⟨wr.heap.size,o,none⟩=false) (by kernel_rfl) ?_;generalize hW0:(wr.alloc (.cells #[.int .i64 X.kind,.int .i64 X.n,.string X.s,.slice sa X.args.length sc] 34)).drew=W0 at*;have ry:=zh (aW HXB.o);have HAS:=zh (show wr.heap.size<=W0.heap.size/\w.heap.size+1<=wr.heap.size from⟨iM.o.size,hz1⟩);clear hW0 c0 c1 c2 c3;have HDC:=zh (afV _ (j:Int) rfl Ro.o W0);rw[<-HI.o]at HDC;refine aC (i:=0) (v:=?_) rfl (Or.inl ⟨by rfl,?_⟩) (fun _=>ry.o) ?_;rotate_left;·(intro w' hw;clear hw;go_simp<;>with_reducible rfl)
    try simp only[zP]
    refine aC (i:=1) (v:=?_) rfl (Or.inl ⟨by rfl,?_⟩) (fun _=>ry.o) ?_;rotate_left;·(intro w' hw;clear hw;go_simp<;>with_reducible rfl)
    try simp only[zP]
    refine aC (i:=4) (v:=?_) rfl (Or.inl ⟨by rfl,?_⟩) (fun _=>ry.o) ?_;rotate_left;·(intro w' hw;obtain⟨q0,q1,q2,q3,qf⟩:=hw (by omega);go_simp<;>with_reducible rfl)
    try simp only[zP]
    refine aM (i:=2) (by kernel_rfl) (aF rfl (by rfl) ?_);go_simp;refine HDC.o.mono ?_;rintro e w1⟨rfl,rfl⟩;have nH:=zh (ark X A w1 [.int .i64 X.kind,.int .i64 X.n,.string X.s,.slice sa X.args.length sc] fV.o Rp.o);rw[<-HP.o]at nH;refine⟨fun _ _ _ _=>ry.o,?_⟩;refine aC (i:=3) (v:= .string (I++⟨#[61]⟩)) rfl (Or.inl ⟨by rfl,?_⟩) (fun _=>ry.o) ?_;·(intro w' hw;go_simp<;>omega)
    try simp only[zP]
    refine aM (i:=5) (by kernel_rfl) (aF rfl (by rfl) ?_);go_simp;refine nH.o.mono ?_;rintro e w2⟨v,rfl,hb2,rfl⟩;have HB2:=zh (HB1.o.trans (hb2.mono HB1.o.size));have bE:=zh (ik.o.below hb2);have HZ2:=zh (show w.heap.size+1<=w2.heap.size from by have :=hb2.size;have :=HAS.o;omega);have D6:=zh (aL HXB.o hb2);have bG:=zh (aW D6.o);clear hb2;refine⟨fun _ _ _ _=>bG.o,?_⟩;refine aC (i:=6) (v:= .string (I++⟨#[61]⟩++P)) rfl (Or.inl ⟨by rfl,?_⟩) (fun _=>bG.o) ?_;·(intro w' hw;go_simp<;>omega)
    try simp only[zP]
    refine aM (i:=7) (by kernel_rfl) (aF rfl (by rfl) ?_);go_simp;refine⟨fun _ _ _ _=>aW (aX D6.o _),?_⟩;try simp only[zP]
    have hit:I++⟨#[61]⟩++P=bs (Lib.itoa (j:Int)++61::bu X):=by rw[HI.o,HP.o,show(⟨#[61]⟩:ByteArray)=bs [61]from rfl,oC,oC];simp
    have HIT:=zh hit;clear hit;have Lh:=zh (show vo (Lib.itoa (j:Int)++61::bu X)from by
     have e1:(I++⟨#[61]⟩++P).size=I.size+1+P.size:=by simp only[Er];rfl
     rw[HIT.o,dY]at e1;unfold vo;omega);rw[HIT.o];refine aM (i:=8) (by kernel_rfl) (aF rfl (by rfl) ?_);refine rH (.tmp 29) (.tmp 36) 45 rfl (w.heap.size+1) 9 1 16 Iu Xi (A:=fun _=>True) (.slice oa (j+1) oc) ([121,101,115]::mW 0 (L.take j)) rfl (af.eZ vK bE.o _) (Lib.itoa (j:Int)++61::bu X) [.string (bs (Lib.itoa (j:Int)++61::bu X))] (by rfl) rfl ⟨Lh.o,rfl⟩ ⟨by rw[kX.o];omega,by have :=HZ2.o;omega⟩ ?_;intro v2 w3 hown hg;have HG:=zh (show w3.heap[wr.heap.size]?=_ from(hg.grown.block wr.heap.size (by have :=aD D6.o;simp only[bF];omega) (fun e=>HOG.o e.symm)).trans (aX D6.o _));have Ga:=zh (af.eB hown);have HZ3:=zh (show w.heap.size+1<=w3.heap.size from by have h5:=hg.size;simp only[bF]at h5;have :=HZ2.o;omega);have HB3:=zh (hg.below (HB2.o.alloc HB2.o.size _) (by simp only[bF];have :=HB2.o.size;omega) (fun k hk=>by have :=(bE.o.lt k hk).1;omega));clear hown hg;refine⟨fun _ _ _ _=>aW HG.o,?_⟩;try simp only[zP]
    refine aM (i:=9) (by kernel_rfl) (aF rfl (by rfl) ?_);go_simp;refine⟨fun _ _ _ _=>aW HG.o,fU (by kernel_rfl) ?_ _⟩;go_wp2_with fail;go_roundw;case rel=>
     have hlj:(L.take j).length=j:=by rw[dS];omega
     refine⟨j+1,by omega,by go_num,?_,HZ3.o,HB3.o⟩;have h:=Ga.o;rw[fF hlt,af1,hlj,kL,<-jH.o];exact h
    case measure=>simp[intOf];omega
   ·have dm:j=L.length:=by omega
    subst dm;have eT:=zh (show[121,101,115]::mW 0 (L.take L.length)=[121,101,115]::mW 0 L from by rw[jW]);rw[eT.o]at HO kX;have hlt':¬(L.length:Int)<(L.length:Int):=by omega
    obtain⟨ga,nP,hge, -, -, -,bX,hfz,lK,hgb,hcell⟩:=af.at vK HO.o (by rw[kX.o];omega);simp only[eX]at hge;obtain⟨rfl, -,rfl⟩:=hge;have yw:=zh (show(Lib.join ([121,101,115]::mW 0 L) [32]).length<=5000000000000 by rw[af3];have h1:=arn L 0 (by omega) (fun x hx=>by obtain⟨i,hi,hix⟩:=Es hx;obtain⟨us, -,rV, -⟩:=HE.o i x (by rw[<-hix];exact aS hi);have :=A8 x (fun _=>trivial) ⟨A,w,us,rV⟩;omega);simp only[bA,bn,fC];omega);obtain⟨XS,Xn⟩:∃XS,XS=[121,101,115]::mW 0 L:=⟨_,rfl⟩;have HXJ:=zh (show Lib.join XS [32]=[121,101,115]++j3 0 L from by rw[Xn,af3]);rw[<-Xn]at hcell kX yw HO;have hmm:(XS.map bs).map (·.data.toList)=XS:=by simp[Function.comp_def,bs]
    have fP:(XS.map bs).length=L.length+1:=by rw[jq];exact kX.o
    have hcl:∀(i:Nat)x,(XS.map bs)[i]?=some x->wr.cell? ⟨ga,0+i,none⟩=some (.string x):=fun i x hx=>by
     have hi:i<XS.length:=by have :=(iO.1 hx).1;simpa using this
     have h2:=hcell i hi 0 _ rfl;rw[yF,qz]at h2;rw[kL];have h3:(XS.map bs)[i]?=some (bs XS[i]):=by simp[hi]
     rw[h3]at hx;simp only[cZ]at hx;subst hx;rw[h2]
    have HJ:=zh (Xg ga 0 oc (XS.map bs) ⟨#[32]⟩ wr hcl lK (by rw[fP];omega) (by rw[fP];omega) (by rw[hmm];have :=yw.o;show(Lib.join XS [32]).length<=_;omega));rw[hmm,fP]at HJ;clear hcell bX hfz hmm fP hcl Xn eT;go_wp2_with fail;refine HJ.o.mono ?_;rintro e w5⟨rfl,hb5⟩;have dx:=zh (HB.o.trans (hb5.mono HB.o.size));clear hb5;go_wp2_with fail;go_ret;exact⟨_,rfl,dx.o,congrArg Value.string (by rw[HR.o,<-HXJ.o];rfl)⟩
 ·have h1':(K==1)=false:=by simpa using h1
  have lT:=zh (vR.o.trans (ae h1));by_cases e2:K=2;·subst e2;have HR:=zh lT.o;clear h1 h1';go_enter Tryz.func22,Tryz.ntmps22;go_wp2_with fail;go_ret;rw[HR.o];exact⟨_,rfl,HB0.o,rfl⟩
  have d2:(K==2)=false:=by simpa using e2
  by_cases e3:K=3;·subst e3;have HR:=zh lT.o;clear h1 h1';go_enter Tryz.func22,Tryz.ntmps22;go_wp2_with fail;go_ret;rw[HR.o];exact⟨_,rfl,HB0.o,rfl⟩
  have d3:(K==3)=false:=by simpa using e3
  by_cases e4:K=4;·subst e4;have HR:=zh lT.o;clear h1 h1';go_enter Tryz.func22,Tryz.ntmps22;go_wp2_with fail;go_ret;rw[HR.o];exact⟨_,rfl,HB0.o,rfl⟩
  have d4:(K==4)=false:=by simpa using e4
  by_cases e5:K=5;·subst e5;have HR:=zh lT.o;clear h1 h1';go_enter Tryz.func22,Tryz.ntmps22;go_wp2_with fail;go_ret;rw[HR.o];exact⟨_,rfl,HB0.o,rfl⟩
  have d5:(K==5)=false:=by simpa using e5
  by_cases e6:K=6;·subst e6;have HR:=zh lT.o;clear h1 h1';go_enter Tryz.func22,Tryz.ntmps22;go_wp2_with fail;go_ret;rw[HR.o];exact⟨_,rfl,HB0.o,rfl⟩
  have d6:(K==6)=false:=by simpa using e6
  have HR:=zh (lT.o.trans (show xB K=[]from by unfold xB;rw[ae e2,ae e3,ae e4,ae e5,ae e6]));clear h1 e2 e3 e4 e5 e6;go_enter Tryz.func22,Tryz.ntmps22;go_wp2_with fail;go_ret;rw[HR.o];exact⟨_,rfl,HB0.o,rfl⟩
