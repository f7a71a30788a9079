import Derived.Test.YtlpmfkpefoegeacGreatDoorQAsk
import Derived.Test.YtlpmfkpefoegeacGreatDoorPCalc
namespace Go.Proofs.YtlpmfkpefoegeacGreatDoor
set_option maxRecDepth 99999
set_option maxHeartbeats 0
set_option linter.all false
open Go.RowKit
theorem acK{A:Nat->Prop}{w wr:World}{l:List Str}{b off:Nat}(he:nE A w 1 (Av Ct Vv) l b off)(hA:A b)(hk:J A w wr){k:Nat}(hlt:k<l.length):wr.cell? ⟨b,off+k,none⟩=some (.string (bs l[k])):=by obtain⟨vs,hvl,⟨hok,rfl⟩,hrow⟩:=he k _ (aJ hlt);have :=qJ.keeps hA hrow hk 0 _ rfl;rw[Gc,rD]at this;exact this
def VH:Str:=[121,101,115,32,48,61,52,32,49,61,53]
theorem ax7:Ou acI acJ 20 1=([VH,[100,111,110,101]],0):=by
 rw[aht _ _ _ _ (by omega)];unfold Ot;rw[ax4,ax5];simp only;rw[O (by simp),O (by simp),ax6];simp only;rw[O (by simp)];have h4:Lib.itoa 4=[52]:=by decide+kernel
 have h5:Lib.itoa 5=[53]:=by decide+kernel
 have h0:Lib.itoa 0=[48]:=by decide+kernel
 have h1:Lib.itoa 1=[49]:=by decide+kernel
 simp[qO,uI,kF,Qt,VH,GG,h0,h1,h4,h5]
theorem ax8(B:Nat)(w:World)(hB:B<=w.heap.size)(ht:qh B w)(hn:Ey B w):Calls Tryz.prog 27 #[] w (Pure w (fun r _=>r= .bool true)):=by
 have i20:ah 20:=by unfold ah;omega
 have i1:ah 1:=by unfold ah;omega
 have HA:=Y (alv acI acJ 20 1 (by decide) (by decide) i20 i1 B w hB ht hn);rw[ax7]at HA;clear ht hn i20 i1;go_enter Tryz.func27,Tryz.ntmps27;go_wp2_with fail;refine HA.o.mono ?_;rintro e w1⟨lv,rfl,hb1,hr1⟩;obtain⟨a,cap,b,off,rfl,hlc,hcm,hlb,ha,he⟩:=ag.at hr1;obtain⟨rfl,bQ⟩:=ha (by simp);have c0:=acK he bQ (J.refl _ _) (k:=0) (by simp);have c1:=acK he bQ (J.refl _ _) (k:=1) (by simp);simp only[BV,Mc,rD]at c0 c1;have lb:b<w1.heap.size:=iW w1 _ c0;have HB1:=Y hb1;have t0:(bs VH).toList=[121,101,115,32,48,61,52,32,49,61,53]:=lN _;have t1:(bs [100,111,110,101]).toList=[100,111,110,101]:=lN _;have HT0:=Y (And.intro t0 t1);have t0b:((bs VH).toList==[121,101,115,32,48,61,52,32,49,61,53])=true:=by rw[t0];rfl
 have t1b:((bs [100,111,110,101]).toList==[100,111,110,101])=true:=by rw[t1];rfl
 unfold maxLen at hcm;clear hb1 hr1 ha he bQ t0 t1 HA;simp only[bn,fT]at hlc hlb;go_wp2_with fail;go_ret;exact⟨_,rfl,HB1.o,rfl⟩
