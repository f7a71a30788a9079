import Derived.Test.YtlpmfkpefoegeabDoorQTop
import Derived.Test.YtlpmfkpefoegeabDoorPTop
namespace Go.Proofs.YtlpmfkpefoegeabDoor
set_option maxRecDepth 100000
set_option maxHeartbeats 16000000
set_option linter.all false
open Go.RowKit
theorem ZiJ(p q:ByteArray)(fuel every:Int)(hp:p.size<=1048576)(hq:q.size<=1048576)(hf:I64 fuel)(hy:I64 every)(w:World)(ht:TabsK w.heap.size w)(hn:EndsK w.heap.size w):Calls Tryd.prog 4 #[.string p,.string q,.int .i64 fuel,.int .i64 every] w (Pure w (fun r _=>r= .bool true)):=by
 obtain⟨P,hP⟩:∃P:Str,p=bs P:=⟨p.data.toList,(ZmX p).symm⟩;obtain⟨Q,hQ⟩:∃Q:Str,q=bs Q:=⟨q.data.toList,(ZmX q).symm⟩;subst hP hQ;rw[Zau]at hp hq;have HAL:=zh (fun(W:World)(hb:Below w.heap.size w W)=>Zn4 w.heap.size W hb.size (ht.below hb) (hn.below (zL _) hb));have HASK:=zh (fun(W:World)(hb:Below w.heap.size w W)(k n:Int)(hk:I64 k)(hn':I64 n)=>ZmB P Q k n hp hq hk hn' w.heap.size W hb.size (ht.below hb) (hn.below (zL _) hb));have HE:=zh (fun h=>ZoX (fun P Q v=>Zcb P Q v fuel every) P Q h);have HT:=zh (fun h=>Zn5 (p:=P) (q:=Q) (fuel:=fuel) (every:=every) h);have HA:=zh (HASK.o w (zB _ _) fuel every hf hy);clear HASK hp hq ht hn;change Hd (¬(Zlj P Q fuel every).2=0->(Zlj P Q fuel every).1=[])at HE;generalize Zlj P Q fuel every=ra at*;obtain⟨ls,er⟩:=ra;generalize(ZaK Q).2.1.toNat=vn at*;simp only at HE HT;go_enter Tryd.func4,Tryd.ntmps4;go_wp2_with fail;refine(HA.o).mono ?_;rintro e w1⟨lv,rfl,hb1,hl1⟩;change ZpZ _ _ ls _ at hl1;have HB1:=zh hb1;clear hb1 HA;by_cases hz:er=0
 ·obtain⟨ans,en,hls,hen,ha, -⟩:=HT.o hz;subst hz;obtain⟨la,lc,lb,lo,rfl,hlc,hcm,hlb,hA0,hEl⟩:=SlR.at hl1;have hlen:ls.length=ans.length+1:=by rw[hls];simp
  obtain⟨rfl,hAb⟩:=hA0 (by omega);rw[hlen]at hlc ⊢;have HLS:=zh hls;have HEN:=zh hen;have HEl:=zh hEl;have HAb:=zh hAb;unfold maxLen at hcm;clear hls hl1 hA0 hen hEl hAb HE HT;go_wp2_with fail;refine(HAL.o w1 HB1.o).mono ?_;rintro e w2⟨r,rfl,hb2,rfl⟩;have HB12:=zh hb2;have HB2:=zh (HB1.o.trans (hb2.mono HB1.o.size));clear hb2;go_wp2_with fail;go_loopw[36](fun i wr=>∃k:Nat,k<=ans.length+1/\i= .int .i64 (k:Int)/\Below w1.heap.size w1 wr)(fun i _=>ans.length+1 - (intOf i).toNat);case atStart=>exact⟨0,Nat.zero_le _,rfl,HB12.o⟩
  case round=>
   obtain⟨k,hk,rfl,hb⟩:=hrel;have HB:=zh hb;clear hb;have hk0:(0:Int)<=(k:Int):=zN _;by_cases hlt:k<ans.length+1
   ·have hc:=ZhN HEl.o HAb.o (Keeps.ob HB.o) (k:=k) (by omega);have hbl:=World.block_lt_of_cell? wr _ hc;simp only at hbl;obtain⟨s,hs⟩:∃s,s=ls[k]'(by omega):=⟨_,rfl⟩;rw[<-hs]at hc;have hk1:(k:Int)<((ans.length:Int)+1):=by omega
    by_cases hl2:k<ans.length
    ·have hs2:∃r,s=121::101::115::r:=by rw[hs];have h1:=HLS.o;subst h1;exact⟨_,by rw[List.getElem_append_left (by simpa using hl2),List.getElem_map];rfl⟩
     obtain⟨r,rfl⟩:=hs2;have z1:(3:Int)<=((bs (121::101::115::r)).size:Int):=by rw[Zau];simp;omega
     have z2:(bs (121::101::115::r)).extract 0 3=bs ZpS:=by rw[Za1];rfl
     have z3:((bs ZpS).toList==[121,101,115])=true:=by rw[Zai];rfl
     have hk2:(k:Int)<(ans.length:Int):=by omega
     have z4:(((bs (121::101::115::r)).extract 0 3).toList==[121,101,115])=true:=by rw[z2];exact z3
     clear hs z2 z3;go_wp2_with fail;exact⟨⟨k+1,by omega,by go_num,HB.o⟩,by simp[intOf];omega⟩
    ·have hke:k=ans.length:=by omega
     subst hke;have hs2:s=en:=by rw[hs];have h1:=HLS.o;subst h1;simp
     subst hs2;have hk3:¬(ans.length:Int)<(ans.length:Int)+1 - 1:=by omega
     clear hs;rcases HEN.o with rfl|rfl|rfl|rfl|rfl
     ·have y0:(((bs ZiI).extract 0 3).toList==[121,101,115])=false:=by rw[Za1,Zai];rfl
      have y1:(3:Int)<=((bs ZiI).size:Int):=by rw[Zau];decide
      have y2:((bs ZiI).toList==[100,111,110,101])=true:=by rw[Zai];rfl
      have y3:((bs ZiI).toList==[102,117,101,108])=false:=by rw[Zai];rfl
      have y4:((bs ZiI).toList==[108,97,114,103,101])=false:=by rw[Zai];rfl
      have y5:((bs ZiI).toList==[102,97,117,108,116])=false:=by rw[Zai];rfl
      have y6:((bs ZiI).toList==[101,110,111,117,103,104])=false:=by rw[Zai];rfl
      go_wp2_with fail;all_goals exact⟨⟨ans.length+1,by omega,by go_num,HB.o⟩,by simp[intOf]<;>omega⟩
     ·have y0:(((bs ZhO).extract 0 3).toList==[121,101,115])=false:=by rw[Za1,Zai];rfl
      have y1:(3:Int)<=((bs ZhO).size:Int):=by rw[Zau];decide
      have y2:((bs ZhO).toList==[100,111,110,101])=false:=by rw[Zai];rfl
      have y3:((bs ZhO).toList==[102,117,101,108])=true:=by rw[Zai];rfl
      have y4:((bs ZhO).toList==[108,97,114,103,101])=false:=by rw[Zai];rfl
      have y5:((bs ZhO).toList==[102,97,117,108,116])=false:=by rw[Zai];rfl
      have y6:((bs ZhO).toList==[101,110,111,117,103,104])=false:=by rw[Zai];rfl
      go_wp2_with fail;all_goals exact⟨⟨ans.length+1,by omega,by go_num,HB.o⟩,by simp[intOf]<;>omega⟩
     ·have y0:(((bs Zfz).extract 0 3).toList==[121,101,115])=false:=by rw[Za1,Zai];rfl
      have y1:(3:Int)<=((bs Zfz).size:Int):=by rw[Zau];decide
      have y2:((bs Zfz).toList==[100,111,110,101])=false:=by rw[Zai];rfl
      have y3:((bs Zfz).toList==[102,117,101,108])=false:=by rw[Zai];rfl
      have y4:((bs Zfz).toList==[108,97,114,103,101])=true:=by rw[Zai];rfl
      have y5:((bs Zfz).toList==[102,97,117,108,116])=false:=by rw[Zai];rfl
      have y6:((bs Zfz).toList==[101,110,111,117,103,104])=false:=by rw[Zai];rfl
      go_wp2_with fail;all_goals exact⟨⟨ans.length+1,by omega,by go_num,HB.o⟩,by simp[intOf]<;>omega⟩
     ·have y0:(((bs ZfA).extract 0 3).toList==[121,101,115])=false:=by rw[Za1,Zai];rfl
      have y1:(3:Int)<=((bs ZfA).size:Int):=by rw[Zau];decide
      have y2:((bs ZfA).toList==[100,111,110,101])=false:=by rw[Zai];rfl
      have y3:((bs ZfA).toList==[102,117,101,108])=false:=by rw[Zai];rfl
      have y4:((bs ZfA).toList==[108,97,114,103,101])=false:=by rw[Zai];rfl
      have y5:((bs ZfA).toList==[102,97,117,108,116])=true:=by rw[Zai];rfl
      have y6:((bs ZfA).toList==[101,110,111,117,103,104])=false:=by rw[Zai];rfl
      go_wp2_with fail;all_goals exact⟨⟨ans.length+1,by omega,by go_num,HB.o⟩,by simp[intOf]<;>omega⟩
     ·have y0:(((bs ZdO).extract 0 3).toList==[121,101,115])=false:=by rw[Za1,Zai];rfl
      have y1:(3:Int)<=((bs ZdO).size:Int):=by rw[Zau];decide
      have y2:((bs ZdO).toList==[100,111,110,101])=false:=by rw[Zai];rfl
      have y3:((bs ZdO).toList==[102,117,101,108])=false:=by rw[Zai];rfl
      have y4:((bs ZdO).toList==[108,97,114,103,101])=false:=by rw[Zai];rfl
      have y5:((bs ZdO).toList==[102,97,117,108,116])=false:=by rw[Zai];rfl
      have y6:((bs ZdO).toList==[101,110,111,117,103,104])=true:=by rw[Zai];rfl
      go_wp2_with fail;all_goals exact⟨⟨ans.length+1,by omega,by go_num,HB.o⟩,by simp[intOf]<;>omega⟩
   ·have hke:k=ans.length+1:=by omega
    subst hke;have hx1:(1:Int)<=(ans.length:Int)+1:=by omega
    have hx2:(ans.length:Int)+1<=13:=by omega
    go_wp2_with fail;go_ret;exact⟨_,rfl,HB1.o.trans (HB.o.mono HB1.o.size),rfl⟩
 ·obtain rfl:ls=[]:=HE.o hz;have hz1:(er != 0)=true:=by simpa using hz
  obtain⟨la,lc,lb,lo,rfl, -⟩:=SlR.at hl1;clear hl1 HE HT;simp only[List.length_nil];go_wp2_with fail;refine(HAL.o w1 HB1.o).mono ?_;rintro e w2⟨r,rfl,hb9,rfl⟩;have HBz:=zh (HB1.o.trans (hb9.mono HB1.o.size));clear hb9;go_wp2_with fail;go_ret;exact⟨_,rfl,HBz.o,rfl⟩
end Go.Proofs.YtlpmfkpefoegeabDoor
