import Derived.Test.YtlpmfkpefoegeacDoorQTop
import Derived.Test.YtlpmfkpefoegeacDoorPTop
namespace Go.Proofs.YtlpmfkpefoegeacDoor
set_option maxRecDepth 100000
set_option maxHeartbeats 16000000
set_option linter.all false
open Go.RowKit
theorem ZgI(p q:ByteArray)(fuel every:Int)(hp:p.size<=1048576)(hq:q.size<=1048576)(hf:I64 fuel)(hy:I64 every)(w:World)(ht:TabsK w.heap.size w)(hn:EndsK w.heap.size w):Calls Tryd.prog 6 #[.string p,.string q,.int .i64 fuel,.int .i64 every] w (Pure w (fun r _=>r= .bool true)):=by
 obtain⟨P,hP⟩:∃P:Str,p=bs P:=⟨p.data.toList,(ZmU p).symm⟩;obtain⟨Q,hQ⟩:∃Q:Str,q=bs Q:=⟨q.data.toList,(ZmU q).symm⟩;subst hP hQ;rw[Zaw]at hp hq;have HAL:=zh (fun(W:World)(hb:Below w.heap.size w W)=>Zn1 w.heap.size W hb.size (ht.below hb) (hn.below (zL _) hb));have HASK:=zh (fun(W:World)(hb:Below w.heap.size w W)(k n:Int)(hk:I64 k)(hn':I64 n)=>Zmx P Q k n hp hq hk hn' w.heap.size W hb.size (ht.below hb) (hn.below (zL _) hb));have HRP:=zh (ZjX P hp w.heap.size w (zL _) ht);have HRQ:=zh (fun(W:World)(hb:Below w.heap.size w W)=>Zif Q hq w.heap.size W hb.size (ht.below hb));have HX:=zh (Zjx P Q fuel every);have HE:=zh (fun h=>ZoT (fun P Q v=>Zcd P Q v fuel every) P Q h);have HA:=zh (fun(W:World)(hb:Below w.heap.size w W)=>HASK.o W hb fuel every hf hy);clear HASK hp hq ht hn;change Hd (¬(ZmD P Q fuel every).2=0->(ZmD P Q fuel every).1=[])at HE;have HW:=zh (show ∀r:List Str×Int,(r.2=0↔((Zbc P).2=0/\(ZaE Q).2.2=0/\0<=fuel/\fuel<=150/\0<=every))->(¬r.2=0->r.1=[])->(∃b1 b2 b3 b4 b5 b6,((Zbc P).2 != 0)=b1/\((ZaE Q).2.2 != 0)=b2/\decide (fuel<0)=b3/\decide (150<fuel)=b4/\decide (every<0)=b5/\(r.2 != 0)=b6/\(r.2==0)=!b6/\b6=(b1||b2||b3||b4||b5)/\(b6=true->r.1=[]))from by
  intro r h1 h2;refine⟨_,_,_,_,_,_,rfl,rfl,rfl,rfl,rfl,rfl,?_,?_,?_⟩;·simp[bne]
  ·rw[Bool.eq_iff_iff];simp only[bne_iff_ne,ne_eq,Bool.or_eq_true,decide_eq_true_eq];rw[h1];omega
  ·intro h3;exact h2 (by simpa using h3));have HV:=HW.o _ HX.o HE.o;clear HW HX HE;generalize ZmD P Q fuel every=ra at*;obtain⟨ls,er⟩:=ra;generalize Zbc P=rp at*;obtain⟨cl,e1⟩:=rp;generalize ZaE Q=rq at*;obtain⟨gl,vs,e2⟩:=rq;simp only at HV;obtain⟨b1,b2,b3,b4,b5,b6,f1,f2,f3,f4,f5,f6,f7,hb6,hls⟩:=HV;have HLS:=zh hls;have hbb:(b6==(b1||b2||b3||b4||b5))=true:=by rw[hb6];simp
 have HB6:=zh hb6;clear hls hb6;go_enter Tryd.func6,Tryd.ntmps6;go_wp2_with fail;refine(HRP.o).mono ?_;rintro e w1⟨pv,rfl,hb1, -⟩;have HB1:=zh hb1;clear hb1 HRP;go_wp2_with fail;refine(HRQ.o w1 HB1.o).mono ?_;rintro e w2⟨qv,rfl,hb2, -⟩;have HB2:=zh (HB1.o.trans (hb2.mono HB1.o.size));clear hb2 HRQ;go_wp2_with fail;refine(HA.o w2 HB2.o).mono ?_;rintro e w3⟨lv,rfl,hb3,hl3⟩;change ZpQ _ _ ls _ at hl3;have HB3:=zh (HB2.o.trans (hb3.mono HB2.o.size));clear hb3 HA;cases b6 with
  |true=>
   obtain rfl:ls=[]:=HLS.o rfl;obtain⟨la,lc,lb,lo,rfl, -⟩:=SlR.at hl3;clear hl3;simp only[List.length_nil];rcases b1 with _|_
   ·rcases b2 with _|_
    ·rcases b3 with _|_
     ·rcases b4 with _|_
      ·rcases b5 with _|_;·exact absurd HB6.o (by simp)
       ·go_wp2_with fail;refine(HAL.o w3 HB3.o).mono ?_;rintro e w4⟨r,rfl,hb9,rfl⟩;have HBz:=zh (HB3.o.trans (hb9.mono HB3.o.size));clear hb9;go_wp2_with fail;go_ret;exact⟨_,rfl,HBz.o,rfl⟩
      ·go_wp2_with fail;refine(HAL.o w3 HB3.o).mono ?_;rintro e w4⟨r,rfl,hb9,rfl⟩;have HBz:=zh (HB3.o.trans (hb9.mono HB3.o.size));clear hb9;go_wp2_with fail;go_ret;exact⟨_,rfl,HBz.o,rfl⟩
     ·go_wp2_with fail;refine(HAL.o w3 HB3.o).mono ?_;rintro e w4⟨r,rfl,hb9,rfl⟩;have HBz:=zh (HB3.o.trans (hb9.mono HB3.o.size));clear hb9;go_wp2_with fail;go_ret;exact⟨_,rfl,HBz.o,rfl⟩
    ·go_wp2_with fail;refine(HAL.o w3 HB3.o).mono ?_;rintro e w4⟨r,rfl,hb9,rfl⟩;have HBz:=zh (HB3.o.trans (hb9.mono HB3.o.size));clear hb9;go_wp2_with fail;go_ret;exact⟨_,rfl,HBz.o,rfl⟩
   ·go_wp2_with fail;refine(HAL.o w3 HB3.o).mono ?_;rintro e w4⟨r,rfl,hb9,rfl⟩;have HBz:=zh (HB3.o.trans (hb9.mono HB3.o.size));clear hb9;go_wp2_with fail;go_ret;exact⟨_,rfl,HBz.o,rfl⟩
  |false=>have h1:=HB6.o;simp only[Bool.false_eq,Bool.or_eq_false_iff]at h1;obtain⟨⟨⟨⟨rfl,rfl⟩,rfl⟩,rfl⟩,rfl⟩:=h1;obtain⟨la,lc,lb,lo,rfl, -⟩:=SlR.at hl3;clear hl3;go_wp2_with fail;refine(HAL.o w3 HB3.o).mono ?_;rintro e w4⟨r,rfl,hb9,rfl⟩;have HBz:=zh (HB3.o.trans (hb9.mono HB3.o.size));clear hb9;go_wp2_with fail;go_ret;exact⟨_,rfl,HBz.o,rfl⟩
end Go.Proofs.YtlpmfkpefoegeacDoor
