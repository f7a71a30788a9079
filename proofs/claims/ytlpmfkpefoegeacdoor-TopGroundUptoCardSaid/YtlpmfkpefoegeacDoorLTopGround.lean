import Derived.Test.YtlpmfkpefoegeacDoorQTop
import Derived.Test.YtlpmfkpefoegeacDoorPTop
namespace Go.Proofs.YtlpmfkpefoegeacDoor
set_option maxRecDepth 100000
set_option maxHeartbeats 16000000
set_option linter.all false
open Go.RowKit
theorem ZgK(p q:ByteArray)(fuel every:Int)(hp:p.size<=1048576)(hq:q.size<=1048576)(hf:I64 fuel)(hy:I64 every)(w:World)(ht:TabsK w.heap.size w)(hn:EndsK w.heap.size w):Calls Tryd.prog 5 #[.string p,.string q,.int .i64 fuel,.int .i64 every] w (Pure w (fun r _=>r= .bool true)):=by
 obtain⟨P,hP⟩:∃P:Str,p=bs P:=⟨p.data.toList,(ZmV p).symm⟩;obtain⟨Q,hQ⟩:∃Q:Str,q=bs Q:=⟨q.data.toList,(ZmV q).symm⟩;subst hP hQ;rw[Zax]at hp hq;have HAL:=zh (fun(W:World)(hb:Below w.heap.size w W)=>Zn2 w.heap.size W hb.size (ht.below hb) (hn.below (zL _) hb));have HASK:=zh (fun(W:World)(hb:Below w.heap.size w W)(k n:Int)(hk:I64 k)(hn':I64 n)=>Zmx P Q k n hp hq hk hn' w.heap.size W hb.size (ht.below hb) (hn.below (zL _) hb));have HRQ:=zh (Zif Q hq w.heap.size w (zL _) ht);obtain⟨X,hX⟩:∃X,X=max 0 every:=⟨_,rfl⟩;have hX0:0<=X:=by omega
 have iX:I64 X:=by unfold I64 at hy ⊢;omega
 have hmx:max 0 every=X:=hX.symm;have HT:=zh (fun h=>Zn3 (p:=P) (q:=Q) (fuel:=fuel) (every:=X) h);have HN:=zh (fun(h:(ZaH Q).2.2=0)=>Zlg h);have HA:=zh (fun(W:World)(hb:Below w.heap.size w W)=>HASK.o W hb fuel X hf iX);clear HASK hp hq ht hn hX;generalize ZmE P Q fuel X=ra at*;obtain⟨ls,er⟩:=ra;generalize ZaH Q=rq at*;obtain⟨gl,vs,e2⟩:=rq;simp only at HT HN;go_enter Tryd.func5,Tryd.ntmps5;go_wp2_with fail;refine(HRQ.o).mono ?_;rintro e w1⟨qv,rfl,hb1,hq1⟩;have HB1:=zh hb1;have HQ1:=zh hq1;clear hb1 HRQ hq1;go_wp2_with fail;refine(HA.o w1 HB1.o).mono ?_;rintro e w3⟨lv,rfl,hb3,hl3⟩;change ZpY _ _ ls _ at hl3;have HB3:=zh (HB1.o.trans (hb3.mono HB1.o.size));have HB13:=zh hb3;clear hb3 HA;by_cases z1:e2=0
 ·by_cases z2:er=0
  ·by_cases z3:vs<=0
   ·subst z1 z2;have d3:decide (0<vs)=false:=by simpa using z3
    obtain⟨ans,en,hls, -,ha,hans⟩:=HT.o rfl;have hgl:=HN.o rfl;obtain⟨la,lc,lb,lo,rfl,hlc,hcm,hlb,hA0,hEl⟩:=SlR.at hl3;have hlen:ls.length=ans.length+1:=by rw[hls];simp
    obtain⟨rfl,hAb⟩:=hA0 (by omega);rw[hlen]at hlc ⊢;have HLS:=zh hls;have HANS:=zh hans;have HEl:=zh hEl;have HAb:=zh hAb;have hgp:(0:Int)<(gl.length:Int):=by cases gl with|nil=>exact absurd rfl hgl|cons x r=>simp only[List.length_cons];omega
    unfold maxLen at hcm;have hv0:vs.toNat=0:=by omega
    rw[hv0]at HANS;obtain⟨qa,qc,qb,qo,rfl, -⟩:=SlR.at HQ1.o;clear hls hl3 hA0 hEl hAb HT HN hgl hans hv0;go_wp2_with fail;refine(HAL.o w3 HB3.o).mono ?_;rintro e w4⟨r,rfl,hb4,rfl⟩;have HB34:=zh hb4;clear hb4;go_wp2_with fail;go_loopw[48](fun i wr=>∃k:Nat,k<=ans.length+1/\i= .int .i64 (k:Int)/\Below w3.heap.size w3 wr)(fun i _=>ans.length+1 - (intOf i).toNat);case atStart=>exact⟨0,Nat.zero_le _,rfl,HB34.o⟩
    case round=>
     obtain⟨k,hk,rfl,hb⟩:=hrel;have HB:=zh hb;clear hb;have hk0:(0:Int)<=(k:Int):=zN _;by_cases hlt:k<ans.length+1
     ·have hc:=ZhM HEl.o HAb.o (Keeps.ob HB.o) (k:=k) (by omega);have hbl:=World.block_lt_of_cell? wr _ hc;simp only at hbl;obtain⟨s,hs⟩:∃s,s=ls[k]'(by omega):=⟨_,rfl⟩;rw[<-hs]at hc;have hk1:(k:Int)<((ans.length:Int)+1):=by omega
      by_cases hl2:k<ans.length
      ·have hs2:s=ZpE:=by rw[hs];have h1:=HLS.o;subst h1;have h2:=HANS.o ans[k] (List.getElem_mem hl2);have h3:ans[k]=[]:=List.length_eq_zero_iff.1 h2.1;rw[List.getElem_append_left (by simpa using hl2),List.getElem_map,h3];rfl
       subst hs2;have y1:((bs ZpE).toList==[121,101,115])=true:=by rw[Zaw];rfl
       have hk2:(k:Int)<(ans.length:Int):=by omega
       clear hs;go_wp2_with fail;exact⟨⟨k+1,by omega,by go_num,HB.o⟩,by simp[intOf];omega⟩
      ·have hke:k=ans.length:=by omega
       subst hke;have hk3:¬(ans.length:Int)<(ans.length:Int)+1 - 1:=by omega
       clear hs;go_wp2_with fail;exact⟨⟨ans.length+1,by omega,by go_num,HB.o⟩,by simp[intOf]<;>omega⟩
     ·have hke:k=ans.length+1:=by omega
      subst hke;go_wp2_with fail;go_ret;exact⟨_,rfl,HB3.o.trans (HB.o.mono HB3.o.size),congrArg Value.bool (decide_eq_true (by omega))⟩
   ·have d1:(e2 != 0)=false:=by simpa using z1
    have d2:(er != 0)=false:=by simpa using z2
    have d3:decide (0<vs)=true:=by simpa using z3
    obtain⟨qa,qc,qb,qo,rfl, -⟩:=SlR.at HQ1.o;obtain⟨la,lc,lb,lo,rfl, -⟩:=SlR.at hl3;clear hl3 HT HN z1 z2 z3;go_wp2_with fail;refine(HAL.o w3 HB3.o).mono ?_;rintro e w4⟨r,rfl,hb9,rfl⟩;have HBz:=zh (HB3.o.trans (hb9.mono HB3.o.size));clear hb9;go_wp2_with fail;go_ret;exact⟨_,rfl,HBz.o,rfl⟩
  ·have d1:(e2 != 0)=false:=by simpa using z1
   have d2:(er != 0)=true:=by simpa using z2
   obtain⟨qa,qc,qb,qo,rfl, -⟩:=SlR.at HQ1.o;obtain⟨la,lc,lb,lo,rfl, -⟩:=SlR.at hl3;clear hl3 HT HN z1 z2;go_wp2_with fail;refine(HAL.o w3 HB3.o).mono ?_;rintro e w4⟨r,rfl,hb9,rfl⟩;have HBz:=zh (HB3.o.trans (hb9.mono HB3.o.size));clear hb9;go_wp2_with fail;go_ret;exact⟨_,rfl,HBz.o,rfl⟩
 ·have d1:(e2 != 0)=true:=by simpa using z1
  obtain⟨qa,qc,qb,qo,rfl, -⟩:=SlR.at HQ1.o;obtain⟨la,lc,lb,lo,rfl, -⟩:=SlR.at hl3;clear hl3 HT HN z1;go_wp2_with fail;refine(HAL.o w3 HB3.o).mono ?_;rintro e w4⟨r,rfl,hb9,rfl⟩;have HBz:=zh (HB3.o.trans (hb9.mono HB3.o.size));clear hb9;go_wp2_with fail;go_ret;exact⟨_,rfl,HBz.o,rfl⟩
end Go.Proofs.YtlpmfkpefoegeacDoor
