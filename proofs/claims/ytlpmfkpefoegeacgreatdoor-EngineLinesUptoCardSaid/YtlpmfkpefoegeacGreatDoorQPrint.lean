import Derived.Test.YtlpmfkpefoegeacGreatDoorQRd1
import Derived.Test.YtlpmfkpefoegeacGreatDoorQStrc
import Derived.Test.YtlpmfkpefoegeacGreatDoorPPrint
namespace Go.Proofs.YtlpmfkpefoegeacGreatDoor
set_option maxRecDepth 99999
set_option maxHeartbeats 0
set_option linter.all false
open Go.RowKit
theorem oC(a b:Str):bs a++bs b=bs (a++b):=by apply XP;simp[bs,Xx]
def Q8(t:Tm):Prop:=∀(B:Nat)(A:Nat->Prop)(w:World)(us:List Value),B<=w.heap.size->mO B w->t.nodes<=4194304->Tm.rep A w t us->Calls Tryz.prog 17 #[.agg us.toArray] w (Pure w (fun v _=>v= .string (bs (bu t))))
theorem ah4(k n:Int)(s:ByteArray)(l:List Tm)(ih:∀t∈l,Q8 t):Q8 (.mk k n s l):=by
 intro B A w us hB htab hnd hv;rw[Tm.gT]at hv;obtain⟨hk,hn,hs,v,rfl,hl⟩:=hv;have hwl:=Iz hl;obtain⟨a,cap,b,off,rfl,hlc,hcm,hlb,ha,he⟩:=hl.at;have HE:=zh he;have HA:=zh ha;have IH:=zh ih;have HT:=zh htab;have HN:=zh hn;have iZ:=zh hnd;have IA:eD l<=4194304*1048600:=dM hwl (by simp only[Tm.nodes]at hnd;exact Cs _ (by omega));have hn0:=hn.1;have hn1:=hn.2;have HB0:=zh ((gJ w.heap.size w).alloc (zL _) (.cells #[.int .i64 k,.int .i64 n,.string s,.slice a l.length cap] 34));unfold maxLen at hcm;clear he ha hl ih htab hnd hn hwl;by_cases h0:k=0
 ·subst h0;have hpr:bu (.mk 0 n s l)=if n<0\/25<n then[90,122]else[UInt8.ofNat (65+n.toNat)]:=by unfold bu;rw[ah rfl]
  have HP:=zh hpr;clear hpr;by_cases hlo:n<0
  ·have hd:decide (n<0)=true:=by simpa using hlo
   have gF:=zh (HP.o.trans (ah (.inl hlo)));clear hlo;go_enter Tryz.func17,Tryz.ntmps17;go_wp2_with fail;go_ret;rw[gF.o];exact⟨_,rfl,HB0.o,rfl⟩
  ·have hd:decide (n<0)=false:=by simpa using hlo
   by_cases hhi:25<n
   ·have hd2:decide (25<n)=true:=by simpa using hhi
    have gF:=zh (HP.o.trans (ah (.inr hhi)));clear hlo hhi;go_enter Tryz.func17,Tryz.ntmps17;go_wp2_with fail;go_ret;rw[gF.o];exact⟨_,rfl,HB0.o,rfl⟩
   ·have hd2:decide (25<n)=false:=by simpa using hhi
    have gF:=zh (HP.o.trans (ae (by omega)));have ah5:0<=n:=by omega
    have ah6:n<=25:=by omega
    clear hlo hhi;have he:((UInt8.ofNat (65+n.toNat)).toNat:Int)=65+n:=by
     have e1:(UInt8.ofNat (65+n.toNat)).toNat=65+n.toNat:=by simp;omega
     rw[e1];omega
    obtain⟨c,hc⟩:∃c,c=UInt8.ofNat (65+n.toNat):=⟨_,rfl⟩;rw[<-hc]at he;have A9:=zh hc;clear hc;have hcv:=run_convert_bytes_back (P:=Tryz.prog) ((w.alloc (.cells #[.int .i64 0,.int .i64 n,.string s,.slice a l.length cap] 34)).alloc (.cells #[.int .u8 (65+n)] 5)) 86 9 5 ⟨w.heap.size+1,0,none⟩ 1 [c] Tryz.underlying86 Tryz.underlying5 Tryz.underlying9 (fun j hj=>by
     have hj0:j=0:=by simpa using hj
     subst hj0;have h1:=dw (mG w (.cells #[.int .i64 0,.int .i64 n,.string s,.slice a l.length cap] 34) (.cells #[.int .u8 (65+n)] 5)).2 0;rw[yx,he];exact h1);rw[dW]at hcv;have HBB:=zh (HB0.o.alloc HB0.o.size (.cells #[.int .u8 (65+n)] 5));clear he;go_enter Tryz.func17,Tryz.ntmps17;go_wp2_with fail;go_ret;rw[gF.o,<-A9.o];exact⟨_,rfl,HBB.o,rfl⟩
 have hk0:(k==0)=false:=by simpa using h0
 by_cases h2:k=2;·subst h2;have gF:=zh (show bu (.mk 2 n s l)=Lib.itoa n by unfold bu;rw[ae (by omega),ah rfl]);have Mk:=zh (HT.o.below ((gJ w.heap.size w).alloc (zL _) (.cells #[.int .i64 2,.int .i64 n,.string s,.slice a l.length cap] 34)));clear h0 hk0;go_enter Tryz.func17,Tryz.ntmps17;go_wp2_with fail;refine(QX n HN.o _ Mk.o.now.pow).mono ?_;rintro e w1⟨rfl,hb1⟩;have HB1:=zh (HB0.o.trans (hb1.mono HB0.o.size));clear hb1;go_wp2_with fail;go_ret;rw[gF.o];exact⟨_,rfl,HB1.o,rfl⟩
 have hk2:(k==2)=false:=by simpa using h2
 by_cases ed:k=1\/k=3
 ·have gF:=zh (show bu (.mk k n s l)=s.data.toList++iA 40 l++(if l=[]then[]else[41])by unfold bu;rw[ae h0,ae h2,ah ed]);have ah8:(k==1)=true\/((k==1)=false/\(k==3)=true):=by
   rcases ed with rfl|rfl;·exact .inl rfl
   ·exact .inr ⟨rfl,rfl⟩
  clear h0 h2 ed;rcases ah8 with f1|⟨f1,f3⟩;all_goals
   go_enter Tryz.func17,Tryz.ntmps17;go_wp2_with fail;obtain⟨W1,hW1⟩:∃W1,W1=w.alloc (.cells #[.int .i64 k,.int .i64 n,.string s,.slice a l.length cap] 34):=⟨_,rfl⟩;have bR:=zh (show W1.heap[w.heap.size]?=some (.cells #[.int .i64 k,.int .i64 n,.string s,.slice a l.length cap] 34 (0,0))by rw[hW1];exact bV _ _);rw[<-hW1]at HB0;rw[<-hW1];clear hW1;go_loopw[3,37](fun u3 u37 wr=>∃(j:Nat)(S:ByteArray),j<=l.length/\u37= .int .i64 (j:Int)/\u3= .string S/\S=bs (s.data.toList++iA 40 (l.take j))/\S.size<=s.size+eD (l.take j)/\Below w.heap.size w wr/\Below W1.heap.size W1 wr)(fun _ u37 _=>l.length - (intOf u37).toNat);case atStart=>exact⟨0,s,dD _,rfl,rfl,by simp[iA,bs],by simp[eD],HB0.o,zB _ _⟩
   case round=>
    obtain⟨j,S,hj,rfl,rfl,hS,hsz,hb,hb1⟩:=hrel;have HS:=zh hS;have HB:=zh hb;have gM:=zh hb1;have hj0:(0:Int)<=(j:Int):=zN _;clear hS hb hb1;by_cases hlt:j<l.length
    ·obtain⟨rfl,cO⟩:=HA.o (by omega);have hlt':(j:Int)<(l.length:Int):=by omega
     obtain⟨sa,sc,c0,c1,c2,c3,hr⟩:=pG HE.o cO (ag.ob HB.o) hlt;have HR:=zh hr;have htk:=Iy l j hlt;have hpx:=A8 l[j] (fun _=>trivial) ⟨A,wr,_,hr⟩;have iM:=zh ((gJ wr.heap.size wr).alloc (zL _) (.cells #[.int .i64 l[j].kind,.int .i64 l[j].n,.string l[j].s,.slice sa l[j].args.length sc] 34));have HB2:=zh (HB.o.trans (iM.o.mono HB.o.size));have xC:=zh (gM.o.trans (iM.o.mono gM.o.size));have fV:=zh (show l[j].nodes<=4194304 by have :=EO (bZ hlt);have :=iZ.o;simp only[Tm.nodes]at this;omega);have hsb:S.size<=5000000000000:=by omega
     have hpb:(bu l[j]).length<=5000000000000:=by omega
     have fB:=zh htk;have Zd:=zh hpx;have oD:=zh (IH.out _ (bZ hlt) B A (wr.alloc (.cells #[.int .i64 l[j].kind,.int .i64 l[j].n,.string l[j].s,.slice sa l[j].args.length sc] 34)) _ (dM hB HB2.o.size) (HT.o.below HB2.o) fV.o (Tm.aA.1 _ _ _ _ _ HR.o (ag.ob iM.o)));have hzz:(bs (bu l[j])).size=(bu l[j]).length:=dY _;have HZZ:=zh hzz;have arR:(bs (bu l[j])).size<=5000000000000:=by omega
     clear hr htk hpx hzz;by_cases hj1:j=0
     ·subst hj1;simp only[Hf,qz]at c0 c1 c2 c3;go_wp2_with fail;refine oD.o.mono ?_;rintro e w2⟨v,rfl,hb2,rfl⟩;have HB3:=zh (HB2.o.trans (hb2.mono HB2.o.size));have mP:=zh (xC.o.trans (hb2.mono xC.o.size));clear hb2;go_wp2_with fail;go_roundw;case rel=>
       have h1:=fB.o;have h2:=Zd.o;have hsn:l.take (0+1)=l.take 0++[l[0]]:=fF hlt;refine⟨0+1,_,by omega,by go_num,rfl,?_,?_,HB3.o,mP.o⟩;·rw[hsn,Zb,HS.o];rw[ah (show l.take 0=[]from rfl),show(⟨#[40]⟩:ByteArray)=bs [40]from rfl,oC,oC];simp
       ·rw[hsn,Q7];have hs1:(S++⟨#[40]⟩++bs (bu l[0])).size=S.size+1+(bu l[0]).length:=by rw[Er,Er,dY];rfl
        rw[hs1];omega
      case measure=>simp[intOf];omega
     ·have f9:((j:Int)==0)=false:=by rw[tY];omega
      have HJ:=zh hj1;clear hj1;go_wp2_with fail;refine oD.o.mono ?_;rintro e w2⟨v,rfl,hb2,rfl⟩;have HB3:=zh (HB2.o.trans (hb2.mono HB2.o.size));have mP:=zh (xC.o.trans (hb2.mono xC.o.size));clear hb2;go_wp2_with fail;go_roundw;case rel=>
       have h1:=fB.o;have h2:=Zd.o;have hsn:l.take (j+1)=l.take j++[l[j]]:=fF hlt;refine⟨j+1,_,by omega,by go_num,rfl,?_,?_,HB3.o,mP.o⟩;·rw[hsn,Zb,HS.o];rw[ae (fun h=>by have :=congrArg List.length h;rw[dS]at this;simp only[fC]at this;have :=HJ.o;omega),show(⟨#[44]⟩:ByteArray)=bs [44]from rfl,oC,oC];simp
       ·rw[hsn,Q7];have hs1:(S++⟨#[44]⟩++bs (bu l[j])).size=S.size+1+(bu l[j]).length:=by rw[Er,Er,dY];rfl
        rw[hs1];omega
      case measure=>simp[intOf];omega
    ·have dm:j=l.length:=by omega
     subst dm;obtain⟨x0,x1,x2,x3,xf⟩:=aW (aL bR.o gM.o);have hsb:S.size<=5000000000000:=by rw[jW]at hsz;omega
     by_cases hnil:l=[]
     ·have hd:decide (0<l.length)=false:=by rw[hnil];rfl
      have hd2:decide ((0:Int)<(l.length:Int))=false:=by rw[hnil];rfl
      have rW:=zh hnil;clear hnil;go_wp2_with fail;go_ret;rw[gF.o,ah rW.o];exact⟨.string S,rfl,HB.o,by rw[HS.o,jW,nW]⟩
     ·have hp:0<l.length:=XC.2 hnil;have hd:decide (0<l.length)=true:=by simpa using hp
      have hd2:decide ((0:Int)<(l.length:Int))=true:=by simp;omega
      have rW:=zh hnil;clear hnil;go_wp2_with fail;go_ret;rw[gF.o,ae rW.o];exact⟨.string (S++⟨#[41]⟩),rfl,HB.o,by rw[HS.o,jW];exact congrArg _ (oC _ [41])⟩
 ·have gF:=zh (show bu (.mk k n s l)=[]by unfold bu;rw[ae h0,ae h2,ae ed]);have hk1:(k==1)=false:=by simpa using fun e=>ed (.inl e)
  have hk3:(k==3)=false:=by simpa using fun e=>ed (.inr e)
  clear h0 h2 ed;go_enter Tryz.func17,Tryz.ntmps17;go_wp2_with fail;go_ret;rw[gF.o];exact⟨_,rfl,HB0.o,rfl⟩
theorem ah9:∀t,Q8 t:=by intro t;induction t using Tm.induct with|h k n s l ih=>exact ah4 k n s l ih
