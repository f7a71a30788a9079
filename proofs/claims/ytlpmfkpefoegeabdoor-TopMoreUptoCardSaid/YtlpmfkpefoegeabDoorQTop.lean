import Derived.Test.YtlpmfkpefoegeabDoorQAsk
import Derived.Test.YtlpmfkpefoegeabDoorPCalc
namespace Go.Proofs.YtlpmfkpefoegeabDoor
set_option maxRecDepth 100000
set_option maxHeartbeats 16000000
set_option linter.all false
open Go.RowKit
theorem Ze4{A:Nat->Prop}{w wr:World}{l:List Str}{b off:Nat}(he:Elems A w 1 (ZgV Zna ZpR) l b off)(hA:A b)(hk:Keeps A w wr){k:Nat}(hlt:k<l.length):wr.cell? ⟨b,off+k,none⟩=some (.string (bs l[k])):=by obtain⟨vs,hvl,⟨hok,rfl⟩,hrow⟩:=he k _ (List.getElem?_eq_getElem hlt);have :=RowAt.keeps hA hrow hk 0 _ rfl;rw[Nat.mul_one,Nat.add_zero]at this;exact this
theorem Zh1{l l':List Str}(h:l.length=l'.length){k:Nat}(hk:l.take k=l'.take k)(h1:k<l.length)(h2:k<l'.length)(he:l[k]=l'[k]):l.take (k+1)=l'.take (k+1):=by rw[List.take_succ_eq_append_getElem h1,List.take_succ_eq_append_getElem h2,hk,he]
theorem ZfG(l l':List Str)(A:Nat->Prop)(w:World)(u v:Value)(hu:Zou A w l u)(hv:Zou A w l' v):Calls Tryd.prog 11 #[u,v] w (Pure w (fun r _=>∃t,r= .bool t/\(t=true↔l=l'))):=by
 obtain⟨a,cap,b,off,rfl,hlc,hcm,hlb,ha,he⟩:=SlR.at hu;obtain⟨a',cap',b',off',rfl,hlc',hcm',hlb',ha',he'⟩:=SlR.at hv;have HE:=zh he;have HA:=zh ha;have HE':=zh he';have HA':=zh ha';unfold maxLen at hcm hcm';clear hu hv he ha he' ha';by_cases hl:l.length=l'.length
 ·have hne:((l.length:Int)!= (l'.length:Int))=false:=by rw[hl];simp
  have HL:=zh hl;have hl1:l.length<=l'.length:=by omega
  have hl2:l'.length<=l.length:=by omega
  clear hl;go_enter Tryd.func11,Tryd.ntmps11;go_wp2_with fail;go_loopw[13](fun i wr=>∃k:Nat,k<=l.length/\i= .int .i64 (k:Int)/\l.take k=l'.take k/\Below w.heap.size w wr)(fun i _=>l.length - (intOf i).toNat);case atStart=>exact⟨0,Nat.zero_le _,rfl,rfl,zB _ _⟩
  case round=>
   obtain⟨k,hk,rfl,htk,hb⟩:=hrel;have HTK:=zh htk;have HB:=zh hb;have hk0:(0:Int)<=(k:Int):=zN _;clear htk hb;by_cases hlt:k<l.length
   ·have hlt':(k:Int)<(l.length:Int):=by omega
    have hlt2:(k:Int)<(l'.length:Int):=by omega
    have hltn:k<l'.length:=by omega
    obtain⟨rfl,hAb⟩:=HA.o (by omega);obtain⟨rfl,hAb'⟩:=HA'.o (by omega);have c0:=Ze4 HE.o hAb (Keeps.ob HB.o) hlt;have c1:=Ze4 HE'.o hAb' (Keeps.ob HB.o) hltn;have lb:b<wr.heap.size:=World.block_lt_of_cell? wr _ c0;have lb':b'<wr.heap.size:=World.block_lt_of_cell? wr _ c1;by_cases hx:l[k]=l'[k]
    ·have hE:((bs l[k]).toList==(bs l'[k]).toList)=true:=by rw[hx];simp
     have HX:=zh (Zh1 HL.o HTK.o hlt hltn hx);clear hx;go_wp2_with fail;go_quiet(fail);have HB2:=zh (show Below w.heap.size w (wr.drewN nq)from HB.o.trans ⟨rfl,rfl,rfl,zL _,fun _ _=>rfl⟩);go_wp2_with fail;go_roundw;case rel=>exact⟨k+1,by omega,by go_num,HX.o,HB2.o⟩
     case measure=>simp[intOf];omega
    ·have hE:((bs l[k]).toList==(bs l'[k]).toList)=false:=by rw[Zav,Zav];simpa using hx
     have HX:=zh (show l≠l' from fun e=>hx (by subst e;rfl));clear hx;go_wp2_with fail;go_quiet(fail);have HB2:=zh (show Below w.heap.size w (wr.drewN nq)from HB.o.trans ⟨rfl,rfl,rfl,zL _,fun _ _=>rfl⟩);go_wp2_with fail;go_ret;exact⟨_,rfl,HB2.o,false,rfl,by simp[HX.o]⟩
   ·have hke:k=l.length:=by omega
    subst hke;have HX:=zh (show l=l' by have :=HTK.o;rw[List.take_length,List.take_of_length_le (by omega)]at this;exact this);go_wp2_with fail;go_ret;exact⟨_,rfl,HB.o,true,rfl,by simp[HX.o]⟩
 ·have hne:((l.length:Int)!= (l'.length:Int))=true:=by rw[bne_iff_ne];intro e;exact hl (by omega)
  have HX:=zh (show l≠l' from fun e=>hl (by rw[e]));clear hl;go_enter Tryd.func11,Tryd.ntmps11;go_wp2_with fail;go_ret;exact⟨_,rfl,zB _ _,false,rfl,by simp[HX.o]⟩
def ZkL:Str:=[121,101,115,32,48,61,52,32,49,61,53]
theorem ZmP:Ze5 ZmL ZmM 20 1=([ZkL,[100,111,110,101]],0):=by
 rw[Zc4 _ _ _ _ (by omega)];unfold ZcI;rw[Zls,ZjJ];simp only;rw[if_neg (by simp),if_neg (by simp),ZjK];simp only;rw[if_neg (by simp)];have h4:Lib.itoa 4=[52]:=by decide+kernel
 have h5:Lib.itoa 5=[53]:=by decide+kernel
 have h0:Lib.itoa 0=[48]:=by decide+kernel
 have h1:Lib.itoa 1=[49]:=by decide+kernel
 simp[ZcR,Zee,Za2,ZpK,ZkL,ZoI,h0,h1,h4,h5]
theorem Zog(B:Nat)(w:World)(hB:B<=w.heap.size)(ht:TabsK B w)(hn:EndsK B w):Calls Tryd.prog 9 #[] w (Pure w (fun r _=>r= .bool true)):=by
 have i20:I64 20:=by unfold I64;omega
 have i1:I64 1:=by unfold I64;omega
 have HA:=zh (ZmK ZmL ZmM 20 1 (by decide) (by decide) i20 i1 B w hB ht hn);rw[ZmP]at HA;clear ht hn i20 i1;go_enter Tryd.func9,Tryd.ntmps9;go_wp2_with fail;refine HA.o.mono ?_;rintro e w1⟨lv,rfl,hb1,hr1⟩;obtain⟨a,cap,b,off,rfl,hlc,hcm,hlb,ha,he⟩:=SlR.at hr1;obtain⟨rfl,hAb⟩:=ha (by simp);have c0:=Ze4 he hAb (Keeps.refl _ _) (k:=0) (by simp);have c1:=Ze4 he hAb (Keeps.refl _ _) (k:=1) (by simp);simp only[List.getElem_cons_zero,List.getElem_cons_succ,Nat.add_zero]at c0 c1;have lb:b<w1.heap.size:=World.block_lt_of_cell? w1 _ c0;have HB1:=zh hb1;have t0:(bs ZkL).toList=[121,101,115,32,48,61,52,32,49,61,53]:=Zav _;have t1:(bs [100,111,110,101]).toList=[100,111,110,101]:=Zav _;have HT0:=zh (And.intro t0 t1);have t0b:((bs ZkL).toList==[121,101,115,32,48,61,52,32,49,61,53])=true:=by rw[t0];rfl
 have t1b:((bs [100,111,110,101]).toList==[100,111,110,101])=true:=by rw[t1];rfl
 unfold maxLen at hcm;clear hb1 hr1 ha he hAb t0 t1 HA;simp only[List.length_cons,List.length_nil]at hlc hlb;go_wp2_with fail;go_ret;exact⟨_,rfl,HB1.o,rfl⟩
end Go.Proofs.YtlpmfkpefoegeabDoor
