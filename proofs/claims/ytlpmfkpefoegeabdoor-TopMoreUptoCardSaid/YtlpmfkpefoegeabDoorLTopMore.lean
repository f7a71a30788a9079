import Derived.Test.YtlpmfkpefoegeabDoorQTop
import Derived.Test.YtlpmfkpefoegeabDoorPTop
namespace Go.Proofs.YtlpmfkpefoegeabDoor
set_option maxRecDepth 100000
set_option maxHeartbeats 16000000
set_option linter.all false
open Go.RowKit
theorem ZiU(p q:ByteArray)(fuel more:Int)(hp:p.size<=1048576)(hq:q.size<=1048576)(hf:I64 fuel)(hy:I64 more)(w:World)(ht:TabsK w.heap.size w)(hn:EndsK w.heap.size w):Calls Tryd.prog 3 #[.string p,.string q,.int .i64 fuel,.int .i64 more] w (Pure w (fun r _=>r= .bool true)):=by
 obtain⟨P,hP⟩:∃P:Str,p=bs P:=⟨p.data.toList,(Zm9 p).symm⟩;obtain⟨Q,hQ⟩:∃Q:Str,q=bs Q:=⟨q.data.toList,(Zm9 q).symm⟩;subst hP hQ;rw[Zax]at hp hq;have HAL:=zh (fun(W:World)(hb:Below w.heap.size w W)=>Zog w.heap.size W hb.size (ht.below hb) (hn.below (zL _) hb));have HASK:=zh (fun(W:World)(hb:Below w.heap.size w W)(k n:Int)(hk:I64 k)(hn':I64 n)=>ZmK P Q k n hp hq hk hn' w.heap.size W hb.size (ht.below hb) (hn.below (zL _) hb));by_cases hr:fuel<0\/150<=fuel\/more<0
 ·have HR:=zh hr;have HA1:=zh (HAL.o w (zB _ _));clear HASK HAL hp hq ht hn hr;by_cases r0:fuel<0
  ·have d0:decide (fuel<0)=true:=by simpa using r0
   clear r0;go_enter Tryd.func3,Tryd.ntmps3;go_wp2_with fail;refine HA1.o.mono ?_;rintro e w1⟨r,rfl,hb1,rfl⟩;have HB1:=zh hb1;clear hb1;go_wp2_with fail;go_ret;exact⟨_,rfl,HB1.o,rfl⟩
  ·have d0:decide (fuel<0)=false:=by simpa using r0
   by_cases r1:150<=fuel
   ·have d1:decide (150<=fuel)=true:=by simpa using r1
    clear r0 r1;go_enter Tryd.func3,Tryd.ntmps3;go_wp2_with fail;refine HA1.o.mono ?_;rintro e w1⟨r,rfl,hb1,rfl⟩;have HB1:=zh hb1;clear hb1;go_wp2_with fail;go_ret;exact⟨_,rfl,HB1.o,rfl⟩
   ·have d1:decide (150<=fuel)=false:=by simpa using r1
    have r2:more<0:=(HR.o.resolve_left r0).resolve_left r1;have d2:decide (more<0)=true:=by simpa using r2
    clear r0 r1 r2;go_enter Tryd.func3,Tryd.ntmps3;go_wp2_with fail;refine HA1.o.mono ?_;rintro e w1⟨r,rfl,hb1,rfl⟩;have HB1:=zh hb1;clear hb1;go_wp2_with fail;go_ret;exact⟨_,rfl,HB1.o,rfl⟩
 have r0:¬fuel<0:=fun h=>hr (.inl h);have r1:¬150<=fuel:=fun h=>hr (.inr (.inl h));have r2:¬more<0:=fun h=>hr (.inr (.inr h));clear hr;have d0:decide (fuel<0)=false:=by simpa using r0
 have d1:decide (150<=fuel)=false:=by simpa using r1
 have d2:decide (more<0)=false:=by simpa using r2
 obtain⟨F2,hF2⟩:∃F2,F2=fuel+1+more%(150 - fuel):=⟨_,rfl⟩;have hm0:0<=more%(150 - fuel):=Int.emod_nonneg _ (by omega);have hm1:more%(150 - fuel)<150 - fuel:=Int.emod_lt_of_pos _ (by omega);obtain⟨hme,hmo⟩:=Zoi P Q (fuel:=fuel) (fuel':=F2) (by omega) (by omega) (by omega);have HE:=zh (fun h=>ZmQ (fun P' Q' v=>Zcd P' Q' v fuel 0) P Q h);have HE2:=zh (fun h=>ZmQ (fun P' Q' v=>Zcd P' Q' v F2 0) P Q h);have HA:=zh (HASK.o w (zB _ _) fuel 0 hf (by unfold I64;omega));have HB:=zh (fun(W:World)(hb:Below w.heap.size w W)=>HASK.o W hb F2 0 (by unfold I64;omega) (by unfold I64;omega));clear HASK hp hq ht hn;change Hd (¬(Ze5 P Q fuel 0).2=0->(Ze5 P Q fuel 0).1=[])at HE;change Hd (¬(Ze5 P Q F2 0).2=0->(Ze5 P Q F2 0).1=[])at HE2;generalize Ze5 P Q fuel 0=ra at*;generalize Ze5 P Q F2 0=rb at*;obtain⟨la,ea⟩:=ra;obtain⟨lb,eb⟩:=rb;simp only at hme hmo HE HE2;subst hme;have HMO:=zh hmo;have hrem:Int.tmod more (150 - fuel)=more%(150 - fuel):=Int.tmod_eq_emod_of_nonneg (by omega);have hi1: -9223372036854775808<=150 - fuel:=by omega
 have hi2:150 - fuel<=9223372036854775807:=by omega
 have hi3:fuel+1<=9223372036854775807:=by omega
 have hi4:¬150 - fuel=0:=by omega
 have HF2:=zh hF2;clear hmo hF2;go_enter Tryd.func3,Tryd.ntmps3;go_wp2_with fail;refine HA.o.mono ?_;rintro e w1⟨av,rfl,hb1,hav⟩;have HB1:=zh hb1;have HAV:=zh hav;clear hb1 hav HA;go_wp2_with fail;rw[<-HF2.o];refine(HB.o w1 HB1.o).mono ?_;rintro e w2⟨bv,rfl,hb2,hbv⟩;change Zou _ _ lb _ at hbv;have HAV1:Zou _ _ la _:=HAV.o;have HB2:=zh (HB1.o.trans (hb2.mono HB1.o.size));have HAV2:Hd (Zou _ _ la _):=zh (SlR.keeps ZbC HAV1 (Keeps.ob hb2));have HBV:=zh hbv;obtain⟨aa,ac,ab,ao,rfl,hac1,hac2,hac3,haa,hae⟩:=SlR.at HAV2.o;obtain⟨ba,bc,bb,bo,rfl,hbc1,hbc2,hbc3,hba,hbe⟩:=SlR.at hbv;have hbz:=HB2.o.size;have HAL2:=zh (HAL.o w2 HB2.o);clear hb2 hbv HB HF2 HAV1;by_cases he:ea=0
 ·subst he;obtain⟨hne,hmo⟩:=HMO.o rfl;obtain⟨n,hn,hle,hlast,hfr⟩:=ZmS hne hmo;have hpn:¬la.length=0:=by omega
  have hpz:((la.length:Int)==0)=false:=by rw[beq_eq_false_iff_ne];omega
  have hgt:¬(lb.length:Int)<(la.length:Int):=by omega
  have hgd:decide ((lb.length:Int)<(la.length:Int))=false:=by simpa using hgt
  have hnl:n<la.length:=by omega
  obtain⟨rfl,hAb⟩:=haa (by omega);have c0:=Ze4 hae hAb (Keeps.refl _ _) hnl;have HL:=zh (show la[n]≠ZjL->la=lb from fun h=>hlast h);have HFR:=zh hfr;have hn0:(0:Int)<=(n:Int):=zN _;have hnn:(la.length:Int) - 1=(n:Int):=by omega
  have hnn1:(n:Int)<(la.length:Int):=by omega
  have hnlb:n<=lb.length:=by omega
  unfold maxLen at hac2 hbc2;clear hae haa hba hbe hlast hfr hne hmo hn hgt HE HE2;go_wp2_with fail;refine HAL2.o.mono ?_;rintro e w3⟨r,rfl,hb3,rfl⟩;have HB3:=zh (HB2.o.trans (hb3.mono hbz));have HAV3:Hd (Zou _ _ la _):=zh (SlR.keeps ZbC HAV2.o (Keeps.ob hb3));have HBV3:Hd (Zou _ _ lb _):=zh (SlR.keeps ZbC HBV.o (Keeps.ob hb3));have k3:=Keeps.ob (A:=fun _=>True) hb3;have d0:=k3.cell trivial c0;have hl3:=World.block_lt_of_cell? w3 _ d0;simp only at hl3;clear hb3 c0 k3;have hnz:¬(la.length:Int)=0:=by omega
  by_cases hk:la[n]=ZjL
  ·have hkb:((bs la[n]).toList==[102,117,101,108])=true:=by rw[hk,Zav];rfl
   have HF:=HFR;have HSE:=zh (ZfG (la.take n) (lb.take n) (fun _=>True) w3.drew _ _ (SlR.keeps ZbC (SlR.mono ZbC (by omega) (SlR.take HAV3.o (k:=n) (by omega)) (fun _ _ _=>trivial)) (Keeps.drew _ _)) (SlR.keeps ZbC (SlR.mono ZbC (by omega) (SlR.take HBV3.o (k:=n) (by omega)) (fun _ _ _=>trivial)) (Keeps.drew _ _)));have hlac:(n:Int)<=(ac:Int):=by omega
   have hlbc:(n:Int)<=(bc:Int):=by omega
   have hz3:=HB3.o.size;clear hk;go_wp2_with fail;refine ZaE (F:=fun _ _=>True) (by kernel_rfl) ?_;refine zT 0 trivial ?_;try simp only[zP]
   refine zT 1 trivial ?_;try simp only[zP]
   refine zT 2 trivial ?_;try simp only[zP]
   refine ZaN (i:=3) (v:= .int .i64 (n:Int)) rfl (Or.inl ⟨by rfl,?_⟩) trivial ?_;·(intro w' hw;clear hw;go_simp;rw[IntKind.wrap_i64];omega)
   try simp only[zP]
   refine ZaN (i:=4) (v:= .slice (some ⟨ab,ao,none⟩) n ac) rfl (Or.inl ⟨by rfl,?_⟩) trivial ?_;·(intro w' hw;clear hw;go_simp<;>first|omega|(intro h9;omega))
   try simp only[zP]
   refine zT 5 trivial ?_;try simp only[zP]
   refine zT 6 trivial ?_;try simp only[zP]
   refine zT 7 trivial ?_;try simp only[zP]
   refine ZaN (i:=8) (v:= .int .i64 (n:Int)) rfl (Or.inl ⟨by rfl,?_⟩) trivial ?_;·(intro w' hw;clear hw;go_simp;rw[IntKind.wrap_i64];omega)
   try simp only[zP]
   refine ZaN (i:=9) (v:= .slice ba n bc) rfl (Or.inl ⟨by rfl,?_⟩) trivial ?_;·(intro w' hw;clear hw;go_simp<;>first|omega|(intro h9;omega))
   try simp only[zP]
   have HBd:=zh (show Below w.heap.size w w3.drew from HB3.o.drew);generalize w3.drew=w4 at*;refine Zac (i:=10) (by kernel_rfl) (Zae rfl (by rfl) ?_);go_simp;refine(HSE.o).mono ?_;rintro e w5⟨v,rfl,hb5,r,rfl,hr⟩;obtain rfl:r=true:=hr.2 HF.o;have HB5:=zh (HBd.o.trans (hb5.mono HBd.o.size));clear hb5 hr;refine⟨fun _ _ h=>h,?_⟩;refine Zac (i:=11) (by kernel_rfl) (Zae rfl (by rfl) ?_);go_simp;refine⟨fun _ _ h=>h,Zat (by kernel_rfl) ?_ _⟩;go_wp2_with fail;go_ret;exact⟨_,rfl,HB5.o,rfl⟩
  ·have hkb:((bs la[n]).toList==[102,117,101,108])=false:=by rw[Zav,beq_eq_false_iff_ne];exact hk
   have HF:=zh (HL.o hk);clear hk;have HSE:=zh (ZfG la lb (fun _=>True) w3 _ _ (SlR.mono ZbC (by omega) HAV3.o (fun _ _ _=>trivial)) (SlR.mono ZbC (by omega) HBV3.o (fun _ _ _=>trivial)));have hz3:=HB3.o.size;go_wp2_with fail;refine(HSE.o).mono ?_;rintro e w5⟨v,rfl,hb5,r,rfl,hr⟩;obtain rfl:r=true:=hr.2 HF.o;have HB5:=zh (HB3.o.trans (hb5.mono HB3.o.size));clear hb5 hr;go_wp2_with fail;go_ret;exact⟨_,rfl,HB5.o,rfl⟩
 ·obtain rfl:la=[]:=HE.o he;obtain rfl:lb=[]:=HE2.o he;have he':(ea==0)=false:=by simpa using he
  have he2:(ea != 0)=true:=by simpa using he
  have hee:(ea==ea)=true:=by simp
  clear he haa hae hba hbe HE HE2;simp only[List.length_nil];go_wp2_with fail;refine HAL2.o.mono ?_;rintro e w3⟨r,rfl,hb3,rfl⟩;have HB3:=zh (HB2.o.trans (hb3.mono hbz));clear hb3;go_wp2_with fail;go_ret;exact⟨_,rfl,HB3.o,rfl⟩
end Go.Proofs.YtlpmfkpefoegeabDoor
