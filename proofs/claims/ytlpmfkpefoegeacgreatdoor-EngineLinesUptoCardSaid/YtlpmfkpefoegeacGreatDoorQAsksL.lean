import Derived.Test.YtlpmfkpefoegeacGreatDoorQAsk
import Derived.Test.YtlpmfkpefoegeacGreatDoorPCalc
namespace Go.Proofs.YtlpmfkpefoegeacGreatDoor
set_option maxRecDepth 99999
set_option maxHeartbeats 0
set_option linter.all false
open Go.RowKit
theorem afS{A:Nat->Prop}{w wr:World}{l:List Str}{b off:Nat}(he:kM A w 1 (vF qF PT) l b off)(hA:A b)(hk:ag A w wr){k:Nat}(hlt:k<l.length):wr.cell? ⟨b,off+k,none⟩=some (.string (bs l[k])):=by obtain⟨vs,hvl,⟨hok,rfl⟩,hrow⟩:=he k _ (aS hlt);have :=ni.keeps hA hrow hk 0 _ rfl;rw[yF,qz]at this;exact this
def Xd:Str:=[112,40,52,41,46]
def Xe:Str:=[112,40,88,41,46]
def afT:List Cl:=[⟨afR 112 (Xc 4),[],0⟩]
def afU:List Tm:=[afR 112 (aq7 0)]
def P8:Str:=[121,101,115,32,48,61,52]
theorem aq8:gL Xd=(afT,0):=aq3 (by decide) (by kernel_rfl) (by decide)
theorem aq9:eO Xe=(afU,1,0):=aq4 (n:=1) (by decide) (by kernel_rfl) (by kernel_rfl) (by kernel_rfl) (by kernel_rfl) (by kernel_rfl)
theorem ara:uq afT afU 1 9=([⟨1,[Xc 4]⟩,⟨2,[]⟩],0):=aq6 (by kernel_rfl) (by kernel_rfl) (by omega) (by omega) (by kernel_rfl)
theorem arb:JI Xd Xe 9 0=([P8,[100,111,110,101]],0):=by
 rw[ald _ _ _ _ (by omega)];unfold TA;rw[aq8,aq9];simp only;rw[ae (by simp),ae (by simp),ara];simp only;rw[ae (by simp)];have h4:Lib.itoa 4=[52]:=by decide+kernel
 have h0:Lib.itoa 0=[48]:=by decide+kernel
 simp[oz,j3,bu,Xc,P8,xB,h0,h4]
theorem arc(B:Nat)(w:World)(hB:B<=w.heap.size)(ht:mO B w)(hn:Be B w):Calls Tryz.prog 23 #[] w (Pure w (fun r _=>r= .bool true)):=by
 have i9:au 9:=by unfold au;omega
 have i0:au 0:=by unfold au;omega
 have HA:=zh (aqW Xd Xe 9 0 (by decide) (by decide) i9 i0 B w hB ht hn);rw[arb]at HA;clear ht hn i9 i0;go_enter Tryz.func23,Tryz.ntmps23;go_wp2_with fail;refine HA.o.mono ?_;rintro e w1⟨lv,rfl,hb1,hr1⟩;obtain⟨a,cap,b,off,rfl,hlc,hcm,hlb,ha,he⟩:=aj.at hr1;obtain⟨rfl,cO⟩:=ha (by simp);have c0:=afS he cO (ag.refl _ _) (k:=0) (by simp);have c1:=afS he cO (ag.refl _ _) (k:=1) (by simp);simp only[yx,G7,qz]at c0 c1;have HB1:=zh hb1;have t0b:((bs P8).toList==[121,101,115,32,48,61,52])=true:=by rw[show(bs P8).toList=_ from jE _];rfl
 have t1b:((bs [100,111,110,101]).toList==[100,111,110,101])=true:=by rw[show(bs [100,111,110,101]).toList=_ from jE _];rfl
 unfold maxLen at hcm;clear hb1 hr1 ha he cO HA;simp only[bn,fC]at hlc hlb;go_wp2_with fail;go_ret;exact⟨_,rfl,HB1.o,rfl⟩
