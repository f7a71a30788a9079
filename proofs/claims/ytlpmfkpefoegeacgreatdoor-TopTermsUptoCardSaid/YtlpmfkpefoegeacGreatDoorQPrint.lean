import Derived.Test.YtlpmfkpefoegeacGreatDoorROpenL
import Derived.Test.YtlpmfkpefoegeacGreatDoorQStrc
import Derived.Test.YtlpmfkpefoegeacGreatDoorPPrint
namespace Go.Proofs.YtlpmfkpefoegeacGreatDoor
set_option maxRecDepth 99999
set_option maxHeartbeats 0
set_option linter.all false
open Go.RowKit
theorem Cv(a b:Str):bs a++bs b=bs (a++b):=by apply ByteArray.ext;simp[bs,ByteArray.data_append]
def Xy(t:Tm):Prop:=∀(B:Nat)(A:Nat->Prop)(w:World)(us:List Value),B<=w.heap.size->qh B w->t.nodes<=4194304->Tm.rep A w t us->Calls Tryz.prog 17 #[.agg us.toArray] w (Pure w (fun v _=>v= .string (bs (kF t))))
theorem aoF(k n:Int)(s:ByteArray)(l:List Tm)(ih:∀t∈l,Xy t):Xy (.mk k n s l):=by
 intro B A w us hB htab hnd hv;have hpl:=RA (.mk k n s l) (fun _=>trivial) ⟨A,w,us,hv⟩;have hwt:=ae2 (.mk k n s l) ⟨A,w,us,hv⟩;rw[Tm.jv]at hv;obtain⟨hk,hn,hs,v,rfl,hl⟩:=hv;have hwl:=Xx hl;obtain⟨a,cap,b,off,rfl,hlc,hcm,hlb,ha,he⟩:=hl.at;have HE:=Y he;have HA:=Y ha;have IH:=Y ih;have HT:=Y htab;have HN:=Y hn;have nG:=Y hnd;have ae4:gU l<=4194304*1048600:=dm hwl (by simp only[Tm.nodes]at hnd;exact F8 _ (by omega));have hn0:=hn.1;have hn1:=hn.2;have HB0:=Y ((gQ w.heap.size w).alloc (zL _) (.cells #[.int .i64 k,.int .i64 n,.string s,.slice a l.length cap] 34));unfold maxLen at hcm;clear he ha hl ih htab hnd hn hpl hwt hwl;by_cases h0:k=0
 ·subst h0;have hpr:kF (.mk 0 n s l)=if n<0\/25<n then[90,122]else[UInt8.ofNat (65+n.toNat)]:=by unfold kF;rw[G rfl]
  have HP:=Y hpr;clear hpr;by_cases hlo:n<0
  ·have hd:decide (n<0)=true:=by simpa using hlo
   have qL:=Y (HP.o.trans (G (.inl hlo)));clear hlo;go_enter Tryz.func17,Tryz.ntmps17;go_wp2_with fail;go_ret;rw[qL.o];exact⟨_,rfl,HB0.o,rfl⟩
  ·have hd:decide (n<0)=false:=by simpa using hlo
   by_cases hhi:25<n
   ·have hd2:decide (25<n)=true:=by simpa using hhi
    have qL:=Y (HP.o.trans (G (.inr hhi)));clear hlo hhi;go_enter Tryz.func17,Tryz.ntmps17;go_wp2_with fail;go_ret;rw[qL.o];exact⟨_,rfl,HB0.o,rfl⟩
   ·have hd2:decide (25<n)=false:=by simpa using hhi
    have qL:=Y (HP.o.trans (O (by omega)));have aAx:0<=n:=by omega
    have aAy:n<=25:=by omega
    clear hlo hhi;have he:((UInt8.ofNat (65+n.toNat)).toNat:Int)=65+n:=by
     have e1:(UInt8.ofNat (65+n.toNat)).toNat=65+n.toNat:=by simp;omega
     rw[e1];omega
    obtain⟨c,hc⟩:∃c,c=UInt8.ofNat (65+n.toNat):=⟨_,rfl⟩;rw[<-hc]at he;have sV:=Y hc;clear hc;have hcv:=run_convert_bytes_back (P:=Tryz.prog) ((w.alloc (.cells #[.int .i64 0,.int .i64 n,.string s,.slice a l.length cap] 34)).alloc (.cells #[.int .u8 (65+n)] 5)) 86 9 5 ⟨w.heap.size+1,0,none⟩ 1 [c] Tryz.underlying86 Tryz.underlying5 Tryz.underlying9 (fun j hj=>by
     have hj0:j=0:=by simpa using hj
     subst hj0;have h1:=bY (mi w (.cells #[.int .i64 0,.int .i64 n,.string s,.slice a l.length cap] 34) (.cells #[.int .u8 (65+n)] 5)).2 0;rw[BV,he];exact h1);rw[dZ]at hcv;have Ed:=Y (HB0.o.alloc HB0.o.size (.cells #[.int .u8 (65+n)] 5));clear he;go_enter Tryz.func17,Tryz.ntmps17;go_wp2_with fail;go_ret;rw[qL.o,<-sV.o];exact⟨_,rfl,Ed.o,rfl⟩
 have hk0:(k==0)=false:=by simpa using h0
 by_cases h2:k=2;·subst h2;have qL:=Y (show kF (.mk 2 n s l)=Lib.itoa n by unfold kF;rw[O (by omega),G rfl]);have Cw:=Y (HT.o.below ((gQ w.heap.size w).alloc (zL _) (.cells #[.int .i64 2,.int .i64 n,.string s,.slice a l.length cap] 34)));clear h0 hk0;go_enter Tryz.func17,Tryz.ntmps17;go_wp2_with fail;refine(Xq n HN.o _ Cw.o.now.pow).mono ?_;rintro e w1⟨rfl,hb1⟩;have HB1:=Y (HB0.o.trans (hb1.mono HB0.o.size));clear hb1;go_wp2_with fail;go_ret;rw[qL.o];exact⟨_,rfl,HB1.o,rfl⟩
 have hk2:(k==2)=false:=by simpa using h2
 by_cases dR:k=1\/k=3
 ·have qL:=Y (show kF (.mk k n s l)=s.data.toList++qj 40 l++(if l=[]then[]else[41])by unfold kF;rw[O h0,O h2,G dR]);have aoG:(k==1)=true\/((k==1)=false/\(k==3)=true):=by
   rcases dR with rfl|rfl;·exact .inl rfl
   ·exact .inr ⟨rfl,rfl⟩
  clear h0 h2 dR;rcases aoG with f1|⟨f1,f3⟩;all_goals
   go_enter Tryz.func17,Tryz.ntmps17;go_wp2_with fail;obtain⟨W1,hW1⟩:∃W1,W1=w.alloc (.cells #[.int .i64 k,.int .i64 n,.string s,.slice a l.length cap] 34):=⟨_,rfl⟩;have bK:=Y (show W1.heap[w.heap.size]?=some (.cells #[.int .i64 k,.int .i64 n,.string s,.slice a l.length cap] 34 (0,0))by rw[hW1];exact bq _ _);rw[<-hW1]at HB0;rw[<-hW1];have M9:W1.heap.size=w.heap.size+1:=by rw[hW1];simp
   clear hW1;go_loopw[3,37](fun u3 u37 wr=>∃(j:Nat)(S:ByteArray),j<=l.length/\u37= .int .i64 (j:Int)/\u3= .string S/\S=bs (s.data.toList++qj 40 (l.take j))/\S.size<=s.size+gU (l.take j)/\Below w.heap.size w wr/\Below W1.heap.size W1 wr)(fun _ u37 _=>l.length - (intOf u37).toNat);case atStart=>exact⟨0,s,dA _,rfl,rfl,by simp[qj,bs],by simp[gU],HB0.o,Z _ _⟩
   case round=>
    obtain⟨j,S,hj,rfl,rfl,hS,hsz,hb,hb1⟩:=hrel;have HS:=Y hS;have HB:=Y hb;have fM:=Y hb1;have hj0:(0:Int)<=(j:Int):=zN _;have hz1:W1.heap.size<=wr.heap.size:=hb1.size;clear hS hb hb1;by_cases hlt:j<l.length
    ·obtain⟨rfl,bQ⟩:=HA.o (by omega);have hlt':(j:Int)<(l.length:Int):=by omega
     obtain⟨sa,sc,c0,c1,c2,c3,hr⟩:=lJ HE.o bQ (J.ob HB.o) hlt;have HR:=Y hr;have lb:b<wr.heap.size:=iW wr _ c0;have htk:=ae1 l j hlt;have hpx:=RA l[j] (fun _=>trivial) ⟨A,wr,_,hr⟩;have sW:=Y ((gQ wr.heap.size wr).alloc (zL _) (.cells #[.int .i64 l[j].kind,.int .i64 l[j].n,.string l[j].s,.slice sa l[j].args.length sc] 34));have HB2:=Y (HB.o.trans (sW.o.mono HB.o.size));have RB:=Y (fM.o.trans (sW.o.mono fM.o.size));have dW:=Y (show l[j].nodes<=4194304 by have :=Xc (bN hlt);have :=nG.o;simp only[Tm.nodes]at this;omega);have hsb:S.size<=5000000000000:=by omega
     have hpb:(kF l[j]).length<=5000000000000:=by omega
     have dD:=Y htk;have HPX:=Y hpx;have mr:=Y (IH.out _ (bN hlt) B A (wr.alloc (.cells #[.int .i64 l[j].kind,.int .i64 l[j].n,.string l[j].s,.slice sa l[j].args.length sc] 34)) _ (dm hB HB2.o.size) (HT.o.below HB2.o) dW.o (Tm.ae.1 _ _ _ _ _ HR.o (J.ob sW.o)));have hzz:(bs (kF l[j])).size=(kF l[j]).length:=eP _;have HZZ:=Y hzz;have aAA:(bs (kF l[j])).size<=5000000000000:=by omega
     clear hr htk hpx hzz;by_cases hj1:j=0
     ·subst hj1;simp only[D7,rD]at c0 c1 c2 c3;go_wp2_with fail;refine mr.o.mono ?_;rintro e w2⟨v,rfl,hb2,rfl⟩;have HB3:=Y (HB2.o.trans (hb2.mono HB2.o.size));have Eu:=Y (RB.o.trans (hb2.mono RB.o.size));clear hb2;go_wp2_with fail;go_roundw;case rel=>
       have h1:=dD.o;have h2:=HPX.o;have hsn:l.take (0+1)=l.take 0++[l[0]]:=iq hlt;refine⟨0+1,_,by omega,by go_num,rfl,?_,?_,HB3.o,Eu.o⟩;·rw[hsn,ae0,HS.o];rw[G (show l.take 0=[]from rfl),show(⟨#[40]⟩:ByteArray)=bs [40]from rfl,Cv,Cv];simp
       ·rw[hsn,Xw];have hs1:(S++⟨#[40]⟩++bs (kF l[0])).size=S.size+1+(kF l[0]).length:=by rw[We,We,eP];rfl
        rw[hs1];omega
      case measure=>simp[intOf];omega
     ·have f9:((j:Int)==0)=false:=by rw[Ak];omega
      have HJ:=Y hj1;clear hj1;go_wp2_with fail;refine mr.o.mono ?_;rintro e w2⟨v,rfl,hb2,rfl⟩;have HB3:=Y (HB2.o.trans (hb2.mono HB2.o.size));have Eu:=Y (RB.o.trans (hb2.mono RB.o.size));clear hb2;go_wp2_with fail;go_roundw;case rel=>
       have h1:=dD.o;have h2:=HPX.o;have hsn:l.take (j+1)=l.take j++[l[j]]:=iq hlt;refine⟨j+1,_,by omega,by go_num,rfl,?_,?_,HB3.o,Eu.o⟩;·rw[hsn,ae0,HS.o];rw[O (fun h=>by have :=congrArg List.length h;rw[dX]at this;simp only[fT]at this;have :=HJ.o;omega),show(⟨#[44]⟩:ByteArray)=bs [44]from rfl,Cv,Cv];simp
       ·rw[hsn,Xw];have hs1:(S++⟨#[44]⟩++bs (kF l[j])).size=S.size+1+(kF l[j]).length:=by rw[We,We,eP];rfl
        rw[hs1];omega
      case measure=>simp[intOf];omega
    ·have bZ:j=l.length:=by omega
     subst bZ;obtain⟨x0,x1,x2,x3,xf⟩:=aF (aA bK.o fM.o);have hxl:=ax (aA bK.o fM.o);have hsb:S.size<=5000000000000:=by rw[nQ]at hsz;omega
     by_cases hnil:l=[]
     ·have hd:decide (0<l.length)=false:=by rw[hnil];rfl
      have hd2:decide ((0:Int)<(l.length:Int))=false:=by rw[hnil];rfl
      have Xz:=Y hnil;clear hnil;go_wp2_with fail;go_ret;rw[qL.o,G Xz.o];exact⟨.string S,rfl,HB.o,by rw[HS.o,nQ,sG]⟩
     ·have hp:0<l.length:=adD.2 hnil;have hd:decide (0<l.length)=true:=by simpa using hp
      have hd2:decide ((0:Int)<(l.length:Int))=true:=by simp;omega
      have Xz:=Y hnil;clear hnil;go_wp2_with fail;go_ret;rw[qL.o,O Xz.o];exact⟨.string (S++⟨#[41]⟩),rfl,HB.o,by rw[HS.o,nQ];exact congrArg _ (Cv _ [41])⟩
 ·have qL:=Y (show kF (.mk k n s l)=[]by unfold kF;rw[O h0,O h2,O dR]);have hk1:(k==1)=false:=by simpa using fun e=>dR (.inl e)
  have hk3:(k==3)=false:=by simpa using fun e=>dR (.inr e)
  clear h0 h2 dR;go_enter Tryz.func17,Tryz.ntmps17;go_wp2_with fail;go_ret;rw[qL.o];exact⟨_,rfl,HB0.o,rfl⟩
theorem aoH:∀t,Xy t:=by intro t;induction t using Tm.induct with|h k n s l ih=>exact aoF k n s l ih
