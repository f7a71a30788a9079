import Derived.Test.YtlpmfkpefoegeacDoorQRd1
import Derived.Test.YtlpmfkpefoegeacDoorQStrc
import Derived.Test.YtlpmfkpefoegeacDoorPPrint
namespace Go.Proofs.YtlpmfkpefoegeacDoor
set_option maxRecDepth 100000
set_option maxHeartbeats 16000000
set_option linter.all false
open Go.RowKit
theorem ZbM(a b:Str):bs a++bs b=bs (a++b):=by apply ByteArray.ext;simp[bs,ByteArray.data_append]
def ZdX(t:Tm):Prop:=∀(B:Nat)(A:Nat->Prop)(w:World)(us:List Value),B<=w.heap.size->TabsK B w->t.nodes<=4194304->Tm.rep A w t us->Calls Tryd.prog 10 #[.agg us.toArray] w (Pure w (fun v _=>v= .string (bs (Zaz t))))
theorem Zgd(k n:Int)(s:ByteArray)(l:List Tm)(ih:∀t∈l,ZdX t):ZdX (.mk k n s l):=by
 intro B A w us hB htab hnd hv;have hpl:=Zcc (.mk k n s l) (fun _=>trivial) ⟨A,w,us,hv⟩;have hwt:=Zeg (.mk k n s l) ⟨A,w,us,hv⟩;rw[Tm.rep_iff]at hv;obtain⟨hk,hn,hs,v,rfl,hl⟩:=hv;have hwl:=Zfv hl;obtain⟨a,cap,b,off,rfl,hlc,hcm,hlb,ha,he⟩:=hl.at;have HE:=zh he;have HA:=zh ha;have IH:=zh ih;have HT:=zh htab;have HN:=zh hn;have HND:=zh hnd;have hwl2:wtL l<=4194304*1048600:=Nat.le_trans hwl (by simp only[Tm.nodes]at hnd;exact Nat.mul_le_mul_right _ (by omega));have hn0:=hn.1;have hn1:=hn.2;have HB0:=zh ((Below.refl w.heap.size w).alloc (zL _) (.cells #[.int .i64 k,.int .i64 n,.string s,.slice a l.length cap] 27));unfold maxLen at hcm;clear he ha hl ih htab hnd hn hpl hwt hwl;by_cases h0:k=0
 ·subst h0;have hpr:Zaz (.mk 0 n s l)=if n<0\/25<n then[90,122]else[UInt8.ofNat (65+n.toNat)]:=by unfold Zaz;rw[if_pos rfl]
  have HP:=zh hpr;clear hpr;by_cases hlo:n<0
  ·have hd:decide (n<0)=true:=by simpa using hlo
   have HP2:=zh (HP.o.trans (if_pos (.inl hlo)));clear hlo;go_enter Tryd.func10,Tryd.ntmps10;go_wp2_with fail;go_ret;rw[HP2.o];exact⟨_,rfl,HB0.o,rfl⟩
  ·have hd:decide (n<0)=false:=by simpa using hlo
   by_cases hhi:25<n
   ·have hd2:decide (25<n)=true:=by simpa using hhi
    have HP2:=zh (HP.o.trans (if_pos (.inr hhi)));clear hlo hhi;go_enter Tryd.func10,Tryd.ntmps10;go_wp2_with fail;go_ret;rw[HP2.o];exact⟨_,rfl,HB0.o,rfl⟩
   ·have hd2:decide (25<n)=false:=by simpa using hhi
    have HP2:=zh (HP.o.trans (if_neg (by omega)));have hlo':0<=n:=by omega
    have hhi':n<=25:=by omega
    clear hlo hhi;have he:((UInt8.ofNat (65+n.toNat)).toNat:Int)=65+n:=by
     have e1:(UInt8.ofNat (65+n.toNat)).toNat=65+n.toNat:=by simp;omega
     rw[e1];omega
    obtain⟨c,hc⟩:∃c,c=UInt8.ofNat (65+n.toNat):=⟨_,rfl⟩;rw[<-hc]at he;have HCC:=zh hc;clear hc;have hcv:=run_convert_bytes_back (P:=Tryd.prog) ((w.alloc (.cells #[.int .i64 0,.int .i64 n,.string s,.slice a l.length cap] 27)).alloc (.cells #[.int .u8 (65+n)] 5)) 49 9 5 ⟨w.heap.size+1,0,none⟩ 1 [c] Tryd.underlying49 Tryd.underlying5 Tryd.underlying9 (fun j hj=>by
     have hj0:j=0:=by simpa using hj
     subst hj0;have h1:=Zaj (ZgO w (.cells #[.int .i64 0,.int .i64 n,.string s,.slice a l.length cap] 27) (.cells #[.int .u8 (65+n)] 5)).2 0;rw[List.getElem_cons_zero,he];exact h1);rw[List.length_singleton]at hcv;have HBB:=zh (HB0.o.alloc HB0.o.size (.cells #[.int .u8 (65+n)] 5));clear he;go_enter Tryd.func10,Tryd.ntmps10;go_wp2_with fail;go_ret;rw[HP2.o,<-HCC.o];exact⟨_,rfl,HBB.o,rfl⟩
 have hk0:(k==0)=false:=by simpa using h0
 by_cases h2:k=2;·subst h2;have HP2:=zh (show Zaz (.mk 2 n s l)=Lib.itoa n by unfold Zaz;rw[if_neg (by omega),if_pos rfl]);have HTB:=zh (HT.o.below ((Below.refl w.heap.size w).alloc (zL _) (.cells #[.int .i64 2,.int .i64 n,.string s,.slice a l.length cap] 27)));clear h0 hk0;go_enter Tryd.func10,Tryd.ntmps10;go_wp2_with fail;refine(ZbQ n HN.o _ HTB.o.now.pow).mono ?_;rintro e w1⟨rfl,hb1⟩;have HB1:=zh (HB0.o.trans (hb1.mono HB0.o.size));clear hb1;go_wp2_with fail;go_ret;rw[HP2.o];exact⟨_,rfl,HB1.o,rfl⟩
 have hk2:(k==2)=false:=by simpa using h2
 by_cases h13:k=1\/k=3
 ·have HP2:=zh (show Zaz (.mk k n s l)=s.data.toList++ZaP 40 l++(if l=[]then[]else[41])by unfold Zaz;rw[if_neg h0,if_neg h2,if_pos h13]);have h13b:(k==1)=true\/((k==1)=false/\(k==3)=true):=by
   rcases h13 with rfl|rfl;·exact .inl rfl
   ·exact .inr ⟨rfl,rfl⟩
  clear h0 h2 h13;rcases h13b with f1|⟨f1,f3⟩
  ·go_enter Tryd.func10,Tryd.ntmps10;go_wp2_with fail;obtain⟨W1,hW1⟩:∃W1,W1=w.alloc (.cells #[.int .i64 k,.int .i64 n,.string s,.slice a l.length cap] 27):=⟨_,rfl⟩;have HX1:=zh (show W1.heap[w.heap.size]?=some (.cells #[.int .i64 k,.int .i64 n,.string s,.slice a l.length cap] 27 (0,0))by rw[hW1];exact ZaC _ _);rw[<-hW1]at HB0;rw[<-hW1];have hzw:W1.heap.size=w.heap.size+1:=by rw[hW1];simp
   clear hW1;go_loopw[3,37](fun u3 u37 wr=>∃(j:Nat)(S:ByteArray),j<=l.length/\u37= .int .i64 (j:Int)/\u3= .string S/\S=bs (s.data.toList++ZaP 40 (l.take j))/\S.size<=s.size+wtL (l.take j)/\Below w.heap.size w wr/\Below W1.heap.size W1 wr)(fun _ u37 _=>l.length - (intOf u37).toNat);case atStart=>exact⟨0,s,Nat.zero_le _,rfl,rfl,by simp[ZaP,bs],by simp[wtL],HB0.o,zB _ _⟩
   case round=>
    obtain⟨j,S,hj,rfl,rfl,hS,hsz,hb,hb1⟩:=hrel;have HS:=zh hS;have HB:=zh hb;have HBW:=zh hb1;have hj0:(0:Int)<=(j:Int):=zN _;have hz1:W1.heap.size<=wr.heap.size:=hb1.size;clear hS hb hb1;by_cases hlt:j<l.length
    ·obtain⟨rfl,hAb⟩:=HA.o (by omega);have hlt':(j:Int)<(l.length:Int):=by omega
     obtain⟨sa,sc,c0,c1,c2,c3,hr⟩:=ZaW HE.o hAb (Keeps.ob HB.o) hlt;have HR:=zh hr;have lb:b<wr.heap.size:=World.block_lt_of_cell? wr _ c0;have htk:=Zef l j hlt;have hpx:=Zcc l[j] (fun _=>trivial) ⟨A,wr,_,hr⟩;have HAX:=zh ((Below.refl wr.heap.size wr).alloc (zL _) (.cells #[.int .i64 l[j].kind,.int .i64 l[j].n,.string l[j].s,.slice sa l[j].args.length sc] 27));have HB2:=zh (HB.o.trans (HAX.o.mono HB.o.size));have HBW2:=zh (HBW.o.trans (HAX.o.mono HBW.o.size));have HNX:=zh (show l[j].nodes<=4194304 by have :=ZbG (List.getElem_mem hlt);have :=HND.o;simp only[Tm.nodes]at this;omega);have hsb:S.size<=5000000000000:=by omega
     have hpb:(Zaz l[j]).length<=5000000000000:=by omega
     have HTK:=zh htk;have HPX:=zh hpx;have HCALL:=zh (IH.out _ (List.getElem_mem hlt) B A (wr.alloc (.cells #[.int .i64 l[j].kind,.int .i64 l[j].n,.string l[j].s,.slice sa l[j].args.length sc] 27)) _ (Nat.le_trans hB HB2.o.size) (HT.o.below HB2.o) HNX.o (Tm.rep_lasts.1 _ _ _ _ _ HR.o (Keeps.ob HAX.o)));have hzz:(bs (Zaz l[j])).size=(Zaz l[j]).length:=Zab _;have HZZ:=zh hzz;have hpb2:(bs (Zaz l[j])).size<=5000000000000:=by omega
     clear hr htk hpx hzz;by_cases hj1:j=0
     ·subst hj1;simp only[Nat.zero_mul,Nat.add_zero]at c0 c1 c2 c3;go_wp2_with fail;refine HCALL.o.mono ?_;rintro e w2⟨v,rfl,hb2,rfl⟩;have HB3:=zh (HB2.o.trans (hb2.mono HB2.o.size));have HBW3:=zh (HBW2.o.trans (hb2.mono HBW2.o.size));clear hb2;go_wp2_with fail;go_roundw;case rel=>
       have h1:=HTK.o;have h2:=HPX.o;have hsn:l.take (0+1)=l.take 0++[l[0]]:=List.take_succ_eq_append_getElem hlt;refine⟨0+1,_,by omega,by go_num,rfl,?_,?_,HB3.o,HBW3.o⟩;·rw[hsn,ZbA,HS.o];rw[if_pos (show l.take 0=[]from rfl),show(⟨#[40]⟩:ByteArray)=bs [40]from rfl,ZbM,ZbM];simp
       ·rw[hsn,Zck];have hs1:(S++⟨#[40]⟩++bs (Zaz l[0])).size=S.size+1+(Zaz l[0]).length:=by rw[ByteArray.size_append,ByteArray.size_append,Zab];rfl
        rw[hs1];omega
      case measure=>simp[intOf];omega
     ·have f9:((j:Int)==0)=false:=by rw[beq_eq_false_iff_ne];omega
      have HJ:=zh hj1;clear hj1;go_wp2_with fail;refine HCALL.o.mono ?_;rintro e w2⟨v,rfl,hb2,rfl⟩;have HB3:=zh (HB2.o.trans (hb2.mono HB2.o.size));have HBW3:=zh (HBW2.o.trans (hb2.mono HBW2.o.size));clear hb2;go_wp2_with fail;go_roundw;case rel=>
       have h1:=HTK.o;have h2:=HPX.o;have hsn:l.take (j+1)=l.take j++[l[j]]:=List.take_succ_eq_append_getElem hlt;refine⟨j+1,_,by omega,by go_num,rfl,?_,?_,HB3.o,HBW3.o⟩;·rw[hsn,ZbA,HS.o];rw[if_neg (fun h=>by have :=congrArg List.length h;rw[List.length_take]at this;simp only[List.length_nil]at this;have :=HJ.o;omega),show(⟨#[44]⟩:ByteArray)=bs [44]from rfl,ZbM,ZbM];simp
       ·rw[hsn,Zck];have hs1:(S++⟨#[44]⟩++bs (Zaz l[j])).size=S.size+1+(Zaz l[j]).length:=by rw[ByteArray.size_append,ByteArray.size_append,Zab];rfl
        rw[hs1];omega
      case measure=>simp[intOf];omega
    ·have hje:j=l.length:=by omega
     subst hje;obtain⟨x0,x1,x2,x3,xf⟩:=Za8 (Zan HX1.o HBW.o);have hxl:=Zag (Zan HX1.o HBW.o);have hsb:S.size<=5000000000000:=by rw[List.take_length]at hsz;omega
     by_cases hnil:l=[]
     ·have hd:decide (0<l.length)=false:=by rw[hnil];rfl
      have hd2:decide ((0:Int)<(l.length:Int))=false:=by rw[hnil];rfl
      have HNIL:=zh hnil;clear hnil;go_wp2_with fail;go_ret;rw[HP2.o,if_pos HNIL.o];exact⟨.string S,rfl,HB.o,by rw[HS.o,List.take_length,List.append_nil]⟩
     ·have hp:0<l.length:=List.length_pos_iff.2 hnil;have hd:decide (0<l.length)=true:=by simpa using hp
      have hd2:decide ((0:Int)<(l.length:Int))=true:=by simp;omega
      have HNIL:=zh hnil;clear hnil;go_wp2_with fail;go_ret;rw[HP2.o,if_neg HNIL.o];exact⟨.string (S++⟨#[41]⟩),rfl,HB.o,by rw[HS.o,List.take_length];exact congrArg _ (ZbM _ [41])⟩
  ·go_enter Tryd.func10,Tryd.ntmps10;go_wp2_with fail;obtain⟨W1,hW1⟩:∃W1,W1=w.alloc (.cells #[.int .i64 k,.int .i64 n,.string s,.slice a l.length cap] 27):=⟨_,rfl⟩;have HX1:=zh (show W1.heap[w.heap.size]?=some (.cells #[.int .i64 k,.int .i64 n,.string s,.slice a l.length cap] 27 (0,0))by rw[hW1];exact ZaC _ _);rw[<-hW1]at HB0;rw[<-hW1];have hzw:W1.heap.size=w.heap.size+1:=by rw[hW1];simp
   clear hW1;go_loopw[3,37](fun u3 u37 wr=>∃(j:Nat)(S:ByteArray),j<=l.length/\u37= .int .i64 (j:Int)/\u3= .string S/\S=bs (s.data.toList++ZaP 40 (l.take j))/\S.size<=s.size+wtL (l.take j)/\Below w.heap.size w wr/\Below W1.heap.size W1 wr)(fun _ u37 _=>l.length - (intOf u37).toNat);case atStart=>exact⟨0,s,Nat.zero_le _,rfl,rfl,by simp[ZaP,bs],by simp[wtL],HB0.o,zB _ _⟩
   case round=>
    obtain⟨j,S,hj,rfl,rfl,hS,hsz,hb,hb1⟩:=hrel;have HS:=zh hS;have HB:=zh hb;have HBW:=zh hb1;have hj0:(0:Int)<=(j:Int):=zN _;have hz1:W1.heap.size<=wr.heap.size:=hb1.size;clear hS hb hb1;by_cases hlt:j<l.length
    ·obtain⟨rfl,hAb⟩:=HA.o (by omega);have hlt':(j:Int)<(l.length:Int):=by omega
     obtain⟨sa,sc,c0,c1,c2,c3,hr⟩:=ZaW HE.o hAb (Keeps.ob HB.o) hlt;have HR:=zh hr;have lb:b<wr.heap.size:=World.block_lt_of_cell? wr _ c0;have htk:=Zef l j hlt;have hpx:=Zcc l[j] (fun _=>trivial) ⟨A,wr,_,hr⟩;have HAX:=zh ((Below.refl wr.heap.size wr).alloc (zL _) (.cells #[.int .i64 l[j].kind,.int .i64 l[j].n,.string l[j].s,.slice sa l[j].args.length sc] 27));have HB2:=zh (HB.o.trans (HAX.o.mono HB.o.size));have HBW2:=zh (HBW.o.trans (HAX.o.mono HBW.o.size));have HNX:=zh (show l[j].nodes<=4194304 by have :=ZbG (List.getElem_mem hlt);have :=HND.o;simp only[Tm.nodes]at this;omega);have hsb:S.size<=5000000000000:=by omega
     have hpb:(Zaz l[j]).length<=5000000000000:=by omega
     have HTK:=zh htk;have HPX:=zh hpx;have HCALL:=zh (IH.out _ (List.getElem_mem hlt) B A (wr.alloc (.cells #[.int .i64 l[j].kind,.int .i64 l[j].n,.string l[j].s,.slice sa l[j].args.length sc] 27)) _ (Nat.le_trans hB HB2.o.size) (HT.o.below HB2.o) HNX.o (Tm.rep_lasts.1 _ _ _ _ _ HR.o (Keeps.ob HAX.o)));have hzz:(bs (Zaz l[j])).size=(Zaz l[j]).length:=Zab _;have HZZ:=zh hzz;have hpb2:(bs (Zaz l[j])).size<=5000000000000:=by omega
     clear hr htk hpx hzz;by_cases hj1:j=0
     ·subst hj1;simp only[Nat.zero_mul,Nat.add_zero]at c0 c1 c2 c3;go_wp2_with fail;refine HCALL.o.mono ?_;rintro e w2⟨v,rfl,hb2,rfl⟩;have HB3:=zh (HB2.o.trans (hb2.mono HB2.o.size));have HBW3:=zh (HBW2.o.trans (hb2.mono HBW2.o.size));clear hb2;go_wp2_with fail;go_roundw;case rel=>
       have h1:=HTK.o;have h2:=HPX.o;have hsn:l.take (0+1)=l.take 0++[l[0]]:=List.take_succ_eq_append_getElem hlt;refine⟨0+1,_,by omega,by go_num,rfl,?_,?_,HB3.o,HBW3.o⟩;·rw[hsn,ZbA,HS.o];rw[if_pos (show l.take 0=[]from rfl),show(⟨#[40]⟩:ByteArray)=bs [40]from rfl,ZbM,ZbM];simp
       ·rw[hsn,Zck];have hs1:(S++⟨#[40]⟩++bs (Zaz l[0])).size=S.size+1+(Zaz l[0]).length:=by rw[ByteArray.size_append,ByteArray.size_append,Zab];rfl
        rw[hs1];omega
      case measure=>simp[intOf];omega
     ·have f9:((j:Int)==0)=false:=by rw[beq_eq_false_iff_ne];omega
      have HJ:=zh hj1;clear hj1;go_wp2_with fail;refine HCALL.o.mono ?_;rintro e w2⟨v,rfl,hb2,rfl⟩;have HB3:=zh (HB2.o.trans (hb2.mono HB2.o.size));have HBW3:=zh (HBW2.o.trans (hb2.mono HBW2.o.size));clear hb2;go_wp2_with fail;go_roundw;case rel=>
       have h1:=HTK.o;have h2:=HPX.o;have hsn:l.take (j+1)=l.take j++[l[j]]:=List.take_succ_eq_append_getElem hlt;refine⟨j+1,_,by omega,by go_num,rfl,?_,?_,HB3.o,HBW3.o⟩;·rw[hsn,ZbA,HS.o];rw[if_neg (fun h=>by have :=congrArg List.length h;rw[List.length_take]at this;simp only[List.length_nil]at this;have :=HJ.o;omega),show(⟨#[44]⟩:ByteArray)=bs [44]from rfl,ZbM,ZbM];simp
       ·rw[hsn,Zck];have hs1:(S++⟨#[44]⟩++bs (Zaz l[j])).size=S.size+1+(Zaz l[j]).length:=by rw[ByteArray.size_append,ByteArray.size_append,Zab];rfl
        rw[hs1];omega
      case measure=>simp[intOf];omega
    ·have hje:j=l.length:=by omega
     subst hje;obtain⟨x0,x1,x2,x3,xf⟩:=Za8 (Zan HX1.o HBW.o);have hxl:=Zag (Zan HX1.o HBW.o);have hsb:S.size<=5000000000000:=by rw[List.take_length]at hsz;omega
     by_cases hnil:l=[]
     ·have hd:decide (0<l.length)=false:=by rw[hnil];rfl
      have hd2:decide ((0:Int)<(l.length:Int))=false:=by rw[hnil];rfl
      have HNIL:=zh hnil;clear hnil;go_wp2_with fail;go_ret;rw[HP2.o,if_pos HNIL.o];exact⟨.string S,rfl,HB.o,by rw[HS.o,List.take_length,List.append_nil]⟩
     ·have hp:0<l.length:=List.length_pos_iff.2 hnil;have hd:decide (0<l.length)=true:=by simpa using hp
      have hd2:decide ((0:Int)<(l.length:Int))=true:=by simp;omega
      have HNIL:=zh hnil;clear hnil;go_wp2_with fail;go_ret;rw[HP2.o,if_neg HNIL.o];exact⟨.string (S++⟨#[41]⟩),rfl,HB.o,by rw[HS.o,List.take_length];exact congrArg _ (ZbM _ [41])⟩
 ·have HP2:=zh (show Zaz (.mk k n s l)=[]by unfold Zaz;rw[if_neg h0,if_neg h2,if_neg h13]);have hk1:(k==1)=false:=by simpa using fun e=>h13 (.inl e)
  have hk3:(k==3)=false:=by simpa using fun e=>h13 (.inr e)
  clear h0 h2 h13;go_enter Tryd.func10,Tryd.ntmps10;go_wp2_with fail;go_ret;rw[HP2.o];exact⟨_,rfl,HB0.o,rfl⟩
theorem Zge:∀t,ZdX t:=by intro t;induction t using Tm.induct with|h k n s l ih=>exact Zgd k n s l ih
end Go.Proofs.YtlpmfkpefoegeacDoor
