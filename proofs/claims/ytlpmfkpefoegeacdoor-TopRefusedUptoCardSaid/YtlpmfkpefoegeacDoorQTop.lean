import Derived.Test.YtlpmfkpefoegeacDoorQAsk
import Derived.Test.YtlpmfkpefoegeacDoorPCalc
namespace Go.Proofs.YtlpmfkpefoegeacDoor
set_option maxRecDepth 100000
set_option maxHeartbeats 16000000
set_option linter.all false
open Go.RowKit
theorem ZkA{A:Nat->Prop}{w wr:World}{l:List Str}{b off:Nat}(he:Elems A w 1 (ZgK ZmV Zpw) l b off)(hA:A b)(hk:Keeps A w wr){k:Nat}(hlt:k<l.length):wr.cell? ⟨b,off+k,none⟩=some (.string (bs l[k])):=by obtain⟨vs,hvl,⟨hok,rfl⟩,hrow⟩:=he k _ (List.getElem?_eq_getElem hlt);have :=RowAt.keeps hA hrow hk 0 _ rfl;rw[Nat.mul_one,Nat.add_zero]at this;exact this
def ZkB:Str:=[121,101,115,32,48,61,52,32,49,61,53]
theorem ZmC:ZmD Zmy Zmz 20 1=([ZkB,[100,111,110,101]],0):=by
 rw[Ziw _ _ _ _ (by omega)];unfold ZcP;rw[Zli,Zjv];simp only;rw[if_neg (by simp),if_neg (by simp),Zjw];simp only;rw[if_neg (by simp)];have h4:Lib.itoa 4=[52]:=by decide+kernel
 have h5:Lib.itoa 5=[53]:=by decide+kernel
 have h0:Lib.itoa 0=[48]:=by decide+kernel
 have h1:Lib.itoa 1=[49]:=by decide+kernel
 simp[Zef,ZeD,Za2,Zpq,ZkB,Zop,h0,h1,h4,h5]
theorem Zn1(B:Nat)(w:World)(hB:B<=w.heap.size)(ht:TabsK B w)(hn:EndsK B w):Calls Tryd.prog 18 #[] w (Pure w (fun r _=>r= .bool true)):=by
 have i20:I64 20:=by unfold I64;omega
 have i1:I64 1:=by unfold I64;omega
 have HA:=zh (Zmx Zmy Zmz 20 1 (by decide) (by decide) i20 i1 B w hB ht hn);rw[ZmC]at HA;clear ht hn i20 i1;go_enter Tryd.func18,Tryd.ntmps18;go_wp2_with fail;refine HA.o.mono ?_;rintro e w1⟨lv,rfl,hb1,hr1⟩;obtain⟨a,cap,b,off,rfl,hlc,hcm,hlb,ha,he⟩:=SlR.at hr1;obtain⟨rfl,hAb⟩:=ha (by simp);have c0:=ZkA he hAb (Keeps.refl _ _) (k:=0) (by simp);have c1:=ZkA he hAb (Keeps.refl _ _) (k:=1) (by simp);simp only[List.getElem_cons_zero,List.getElem_cons_succ,Nat.add_zero]at c0 c1;have lb:b<w1.heap.size:=World.block_lt_of_cell? w1 _ c0;have HB1:=zh hb1;have t0:(bs ZkB).toList=[121,101,115,32,48,61,52,32,49,61,53]:=Zax _;have t1:(bs [100,111,110,101]).toList=[100,111,110,101]:=Zax _;have HT0:=zh (And.intro t0 t1);have t0b:((bs ZkB).toList==[121,101,115,32,48,61,52,32,49,61,53])=true:=by rw[t0];rfl
 have t1b:((bs [100,111,110,101]).toList==[100,111,110,101])=true:=by rw[t1];rfl
 unfold maxLen at hcm;clear hb1 hr1 ha he hAb t0 t1 HA;simp only[List.length_cons,List.length_nil]at hlc hlb;go_wp2_with fail;go_ret;exact⟨_,rfl,HB1.o,rfl⟩
end Go.Proofs.YtlpmfkpefoegeacDoor
