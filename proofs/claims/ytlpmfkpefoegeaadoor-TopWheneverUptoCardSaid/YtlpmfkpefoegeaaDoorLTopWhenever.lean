/-
  TopWhenever: whenever the heap is collected, and however often, the same is told.
-/
import Derived.Test.YtlpmfkpefoegeaaDoorQAsk
import Derived.Test.YtlpmfkpefoegeaaDoorPCalc
namespace Go.Proofs.YtlpmfkpefoegeaaDoor
set_option linter.unusedVariables false
set_option linter.unusedSimpArgs false
open Go.RowKit
theorem ZfO{A:Nat->Prop}{w wr:World}{l:List Str}{b off:Nat}(he:Elems A w 1 (ZgL ZmT Zpt) l b off)(hA:A b)(hk:Keeps A w wr){k:Nat}(hlt:k<l.length):wr.cell? ⟨b,off+k,none⟩=some (.string (bs l[k])):=by obtain⟨vs,hvl,⟨hok,rfl⟩,hrow⟩:=he k _ (List.getElem?_eq_getElem hlt);have :=RowAt.keeps hA hrow hk 0 _ rfl;rw[Nat.mul_one,Nat.add_zero]at this;exact this
theorem ZhM{l l':List Str}(h:l.length=l'.length){k:Nat}(hk:l.take k=l'.take k)(h1:k<l.length)(h2:k<l'.length)(he:l[k]=l'[k]):l.take (k+1)=l'.take (k+1):=by rw[List.take_succ_eq_append_getElem h1,List.take_succ_eq_append_getElem h2,hk,he]
set_option maxRecDepth 100000 in set_option maxHeartbeats 8000000 in theorem ZiG(l l':List Str)(A:Nat->Prop)(w:World)(u v:Value)(hu:ZpJ A w l u)(hv:ZpJ A w l' v):Calls Tryd.prog 5 #[u,v] w (Pure w (fun r _=>∃t,r= .bool t/\(t=true↔l=l'))):=by
 obtain⟨a,cap,b,off,rfl,hlc,hcm,hlb,ha,he⟩:=SlR.at hu;obtain⟨a',cap',b',off',rfl,hlc',hcm',hlb',ha',he'⟩:=SlR.at hv;have HE:=hid he;have HA:=hid ha;have HE':=hid he';have HA':=hid ha';unfold maxLen at hcm hcm';clear hu hv he ha he' ha';by_cases hl:l.length=l'.length
 ·have hne:((l.length:Int)!= (l'.length:Int))=false:=by rw[hl];simp
  have HL:=hid hl;have hl1:l.length<=l'.length:=by omega
  have hl2:l'.length<=l.length:=by omega
  clear hl;go_enter Tryd.func5,Tryd.ntmps5;go_wp2_with fail;go_loopw[13](fun i wr=>∃k:Nat,k<=l.length/\i= .int .i64 (k:Int)/\l.take k=l'.take k/\Below w.heap.size w wr)(fun i _=>l.length - (intOf i).toNat);case atStart=>exact⟨0,Nat.zero_le _,rfl,rfl,Below.refl _ _⟩
  case round=>
   obtain⟨k,hk,rfl,htk,hb⟩:=hrel;have HTK:=hid htk;have HB:=hid hb;have hk0:(0:Int)<=(k:Int):=Int.natCast_nonneg _;clear htk hb;by_cases hlt:k<l.length
   ·have hlt':(k:Int)<(l.length:Int):=by omega
    have hlt2:(k:Int)<(l'.length:Int):=by omega
    have hltn:k<l'.length:=by omega
    obtain⟨rfl,hAb⟩:=HA.out (by omega);obtain⟨rfl,hAb'⟩:=HA'.out (by omega);have c0:=ZfO HE.out hAb (Keeps.of_below HB.out) hlt;have c1:=ZfO HE'.out hAb' (Keeps.of_below HB.out) hltn;have lb:b<wr.heap.size:=World.block_lt_of_cell? wr _ c0;have lb':b'<wr.heap.size:=World.block_lt_of_cell? wr _ c1;by_cases hx:l[k]=l'[k]
    ·have hE:((bs l[k]).toList==(bs l'[k]).toList)=true:=by rw[hx];simp
     have HX:=hid (ZhM HL.out HTK.out hlt hltn hx);clear hx;go_wp2_with fail;go_quiet(fail);have HB2:=hid (show Below w.heap.size w (wr.drewN nq)from HB.out.trans ⟨rfl,rfl,rfl,Nat.le_refl _,fun _ _=>rfl⟩);go_wp2_with fail;go_roundw;case rel=>exact⟨k+1,by omega,by go_num,HX.out,HB2.out⟩
     case measure=>simp[intOf];omega
    ·have hE:((bs l[k]).toList==(bs l'[k]).toList)=false:=by rw[Zav,Zav];simpa using hx
     have HX:=hid (show l≠l' from fun e=>hx (by subst e;rfl));clear hx;go_wp2_with fail;go_quiet(fail);have HB2:=hid (show Below w.heap.size w (wr.drewN nq)from HB.out.trans ⟨rfl,rfl,rfl,Nat.le_refl _,fun _ _=>rfl⟩);go_wp2_with fail;go_ret;exact⟨_,rfl,HB2.out,false,rfl,by simp[HX.out]⟩
   ·have hke:k=l.length:=by omega
    subst hke;have HX:=hid (show l=l' by have :=HTK.out;rw[List.take_length,List.take_of_length_le (by omega)]at this;exact this);go_wp2_with fail;go_ret;exact⟨_,rfl,HB.out,true,rfl,by simp[HX.out]⟩
 ·have hne:((l.length:Int)!= (l'.length:Int))=true:=by rw[bne_iff_ne];intro e;exact hl (by omega)
  have HX:=hid (show l≠l' from fun e=>hl (by rw[e]));clear hl;go_enter Tryd.func5,Tryd.ntmps5;go_wp2_with fail;go_ret;exact⟨_,rfl,Below.refl _ _,false,rfl,by simp[HX.out]⟩
def Zkz:Str:=[121,101,115,32,48,61,52,32,49,61,53]
theorem ZmB:Zpd Zmx Zmy 20 1=([Zkz,[100,111,110,101]],0):=by
 rw[Ziv _ _ _ _ (by omega)];unfold Zgw;rw[Zlf,Zjv];simp only;rw[if_neg (by simp),if_neg (by simp),Zjw];simp only;rw[if_neg (by simp)];have h4:Lib.itoa 4=[52]:=by decide+kernel
 have h5:Lib.itoa 5=[53]:=by decide+kernel
 have h0:Lib.itoa 0=[48]:=by decide+kernel
 have h1:Lib.itoa 1=[49]:=by decide+kernel
 simp[ZeC,ZeB,Za2,Zpo,Zkz,Zoo,h0,h1,h4,h5]
set_option maxRecDepth 100000 in set_option maxHeartbeats 8000000 in theorem Zn0(B:Nat)(w:World)(hB:B<=w.heap.size)(ht:TabsK B w)(hn:EndsK B w):Calls Tryd.prog 6 #[] w (Pure w (fun r _=>r= .bool true)):=by
 have i20:I64 20:=by unfold I64;omega
 have i1:I64 1:=by unfold I64;omega
 have HA:=hid (Zmw Zmx Zmy 20 1 (by decide) (by decide) i20 i1 B w hB ht hn);rw[ZmB]at HA;clear ht hn i20 i1;go_enter Tryd.func6,Tryd.ntmps6;go_wp2_with fail;refine HA.out.mono ?_;rintro e w1⟨lv,rfl,hb1,hr1⟩;obtain⟨a,cap,b,off,rfl,hlc,hcm,hlb,ha,he⟩:=SlR.at hr1;obtain⟨rfl,hAb⟩:=ha (by simp);have c0:=ZfO he hAb (Keeps.refl _ _) (k:=0) (by simp);have c1:=ZfO he hAb (Keeps.refl _ _) (k:=1) (by simp);simp only[List.getElem_cons_zero,List.getElem_cons_succ,Nat.add_zero]at c0 c1;have lb:b<w1.heap.size:=World.block_lt_of_cell? w1 _ c0;have HB1:=hid hb1;have t0:(bs Zkz).toList=[121,101,115,32,48,61,52,32,49,61,53]:=Zav _;have t1:(bs [100,111,110,101]).toList=[100,111,110,101]:=Zav _;have HT0:=hid (And.intro t0 t1);have t0b:((bs Zkz).toList==[121,101,115,32,48,61,52,32,49,61,53])=true:=by rw[t0];rfl
 have t1b:((bs [100,111,110,101]).toList==[100,111,110,101])=true:=by rw[t1];rfl
 unfold maxLen at hcm;clear hb1 hr1 ha he hAb t0 t1 HA;simp only[List.length_cons,List.length_nil]at hlc hlb;go_wp2_with fail;go_ret;exact⟨_,rfl,HB1.out,rfl⟩
set_option maxRecDepth 100000 in set_option maxHeartbeats 8000000 in theorem ZfA(p q:ByteArray)(fuel x y:Int)(hp:p.size<=1048576)(hq:q.size<=1048576)(hf:I64 fuel)(hx:I64 x)(hy:I64 y)(w:World)(ht:TabsK w.heap.size w)(hn:EndsK w.heap.size w):Calls Tryd.prog 3 #[.string p,.string q,.int .i64 fuel,.int .i64 x,.int .i64 y] w (Pure w (fun r _=>r= .bool true)):=by
 obtain⟨P,hP⟩:∃P:Str,p=bs P:=⟨p.data.toList,(ZmS p).symm⟩;obtain⟨Q,hQ⟩:∃Q:Str,q=bs Q:=⟨q.data.toList,(ZmS q).symm⟩;subst hP hQ;rw[Zax]at hp hq;obtain⟨X,hX⟩:∃X,X=max 0 x:=⟨_,rfl⟩;obtain⟨Y,hY⟩:∃Y,Y=max 0 y:=⟨_,rfl⟩;have hX0:0<=X:=by omega
 have hY0:0<=Y:=by omega
 have iX:I64 X:=by unfold I64 at hx ⊢;omega
 have iY:I64 Y:=by unfold I64 at hy ⊢;omega
 have HALL:=hid (fun(W:World)(hb:Below w.heap.size w W)(k:Int)(h0:0<=k)(hk:I64 k)=>show Calls Tryd.prog 4 #[.string (bs P),.string (bs Q),.int .i64 fuel,.int .i64 k] W (Zmu W (Zgw (fun A B v=>ZcI A B v fuel) P Q))by rw[<-Ziv P Q fuel k h0];exact Zmw P Q fuel k hp hq hf hk w.heap.size W hb.size (ht.below hb) (hn.below (Nat.le_refl _) hb));have HAL:=hid (fun(W:World)(hb:Below w.heap.size w W)=>Zn0 w.heap.size W hb.size (ht.below hb) (hn.below (Nat.le_refl _) hb));generalize Zgw (fun A B v=>ZcI A B v fuel) P Q=R at HALL;obtain⟨ls,er⟩:=R;have HIX:=hid (And.intro hX0 iX);have HIY:=hid (And.intro hY0 iY);have hmx:max 0 x=X:=hX.symm;have hmy:max 0 y=Y:=hY.symm;clear hp hq hf hx hy ht hn hX hY hX0 hY0 iX iY;go_enter Tryd.func3,Tryd.ntmps3;go_wp2_with fail;refine(HALL.out w (Below.refl _ _) X HIX.out.1 HIX.out.2).mono ?_;rintro e w1⟨av,rfl,hb1,hr1⟩;obtain⟨aa,ac,ab,ao,rfl, -⟩:=SlR.at hr1;have HB1:=hid hb1;have HR1:=hid hr1;clear hb1 hr1;go_wp2_with fail;refine(HALL.out w1 HB1.out Y HIY.out.1 HIY.out.2).mono ?_;rintro e w2⟨bv,rfl,hb2,hr2⟩;obtain⟨ba,bc,bb,bo,rfl, -⟩:=SlR.at hr2;have HB2:=hid (HB1.out.trans (hb2.mono HB1.out.size));have HS:=hid (ZiG ls ls (fun _=>True) w2 _ _ (SlR.mono ZdM (by omega) (SlR.keeps ZdM HR1.out (Keeps.of_below hb2)) fun _ _ _=>trivial) (SlR.mono ZdM (by omega) hr2 fun _ _ _=>trivial));have hee:(er==er)=true:=by simp
 clear hb2 hr2;go_wp2_with fail;refine HS.out.mono ?_;rintro e w3⟨v,rfl,hb3,t,rfl,ht⟩;obtain rfl:t=true:=ht.2 (by first|rfl|trivial);have HB3:=hid (HB2.out.trans (hb3.mono HB2.out.size));clear hb3 ht;go_wp2_with fail;refine(HAL.out w3 HB3.out).mono ?_;rintro e w4⟨r,rfl,hb4,rfl⟩;have HB4:=hid (HB3.out.trans (hb4.mono HB3.out.size));clear hb4;go_wp2_with fail;go_ret;exact⟨_,rfl,HB4.out,rfl⟩
end Go.Proofs.YtlpmfkpefoegeaaDoor
