import Derived.Test.YtlpmfkpefoegeacDoorQPs10
import Derived.Test.YtlpmfkpefoegeacDoorQSameP
import Derived.Test.YtlpmfkpefoegeacDoorQReadsL
namespace Go.Proofs.YtlpmfkpefoegeacDoor
set_option maxRecDepth 100000
set_option maxHeartbeats 16000000
set_option linter.all false
open Go.RowKit
theorem Zcd(s:ByteArray)(hs:s.size<=1048576)(w:World)(ht:TabsK w.heap.size w):Calls Tryd.prog 4 #[.string s] w (Pure w (fun r _=>r= .bool true)):=by
 obtain⟨S,hS⟩:∃S:Str,s=bs S:=⟨s.data.toList,(ZgU s).symm⟩;subst hS;rw[Zab]at hs;have HRS:=zh (fun(W:World)(hb:Below w.heap.size w W)=>Zfw w.heap.size W hb.size (ht.below hb));have HRD:=zh (Zed S hs w.heap.size w (zL _) ht);have HPD:=zh (fun(W:World)=>show Calls _ _ _ _ (ZdT W (ZbJ S))from ZeX S▸Zgc S hs W);clear ht hs;generalize ZbJ S=rp at*;obtain⟨cl,er⟩:=rp;go_enter Tryd.func4,Tryd.ntmps4;go_wp2_with fail;refine HRD.o.mono ?_;rintro e w1⟨pv,rfl,hb1,hl1⟩;have HB1:=zh hb1;have HL1:Hd (ZgK _ _ cl _):=zh hl1;clear hb1 hl1;go_wp2_with fail;refine(HPD.o w1).mono ?_;rintro e w2⟨qv,rfl,hb2,hl2⟩;have HB2:=zh (HB1.o.trans (hb2.mono HB1.o.size));have HSP:=zh (ZcG cl _ _ w2 _ _ (SlR.keeps Cl.rep_lasts HL1.o (Keeps.ob hb2)) (show ZgK _ _ cl _ from hl2));have dE:(er==er)=true:=by simp
 obtain⟨pa,pc,pb,po,rfl, -⟩:=SlR.at HL1.o;obtain⟨qa,qc,qb,qo,rfl, -⟩:=SlR.at (show ZgK _ _ cl _ from hl2);clear hb2 hl2 HRD HPD;go_wp2_with fail;refine HSP.o.mono ?_;rintro e w3⟨r,rfl,hb3,rfl⟩;have HB3:=zh (HB2.o.trans (hb3.mono HB2.o.size));clear hb3 HSP;go_wp2_with fail;refine(HRS.o w3 HB3.o).mono ?_;rintro e w4⟨r,rfl,hb4,rfl⟩;have HB4:=zh (HB3.o.trans (hb4.mono HB3.o.size));clear hb4;go_wp2_with fail;go_ret;exact⟨_,rfl,HB4.o,rfl⟩
end Go.Proofs.YtlpmfkpefoegeacDoor
