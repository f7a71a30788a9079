import Derived.Shelf.Strings.SlTrimAscii
import Derived.Test.YtlpmfkpefoegeacDoorQLib
import Derived.Test.YtlpmfkpefoegeacDoorProg
import Derived.Test.YtlpmfkpefoegeacDoorQCopy
namespace Go.Proofs.YtlpmfkpefoegeacDoor
set_option maxRecDepth 100000
set_option maxHeartbeats 16000000
set_option linter.all false
open Go.Shelf Go.RowKit
def Zdv:Go.Shelf.Ren:=⟨fun|160=>116|232=>126|231=>125|227=>127|234=>129|233=>128|236=>131|235=>130|228=>137|271=>140|151=>139|197=>138|120=>143|152=>142|260=>141|137=>47|119=>144|224=>145|225=>146|217=>65|266=>91|n=>n,fun|9=>9|4=>4|3=>3|5=>5|117=>182|116=>181|0=>0|124=>185|21=>21|105=>194|46=>158|119=>198|139=>201|138=>200|n=>n,fun|3=>7|4=>8|n=>n⟩
theorem Zga:Lays.n160 Tryd.prog Zdv:={mixed:=by kernel_rfl,f119:=Tryd.func144.trans (congrArg some (by kernel_rfl)),f120:=Tryd.func143.trans (congrArg some (by kernel_rfl)),f137:=Tryd.func47.trans (congrArg some (by kernel_rfl)),f151:=Tryd.func139.trans (congrArg some (by kernel_rfl)),f152:=Tryd.func142.trans (congrArg some (by kernel_rfl)),f160:=Tryd.func116.trans (congrArg some (by kernel_rfl)),f197:=Tryd.func138.trans (congrArg some (by kernel_rfl)),f217:=Tryd.func65.trans (congrArg some (by kernel_rfl)),f224:=Tryd.func145.trans (congrArg some (by kernel_rfl)),f225:=Tryd.func146.trans (congrArg some (by kernel_rfl)),f227:=Tryd.func127.trans (congrArg some (by kernel_rfl)),f228:=Tryd.func137.trans (congrArg some (by kernel_rfl)),f231:=Tryd.func125.trans (congrArg some (by kernel_rfl)),f232:=Tryd.func126.trans (congrArg some (by kernel_rfl)),f233:=Tryd.func128.trans (congrArg some (by kernel_rfl)),f234:=Tryd.func129.trans (congrArg some (by kernel_rfl)),f235:=Tryd.func130.trans (congrArg some (by kernel_rfl)),f236:=Tryd.func131.trans (congrArg some (by kernel_rfl)),f260:=Tryd.func141.trans (congrArg some (by kernel_rfl)),f266:=Tryd.func91.trans (congrArg some (by kernel_rfl)),f271:=Tryd.func140.trans (congrArg some (by kernel_rfl)),t0:=Tryd.underlying0,a0:=Tryd.isAgg0,z0:=Tryd.sizeOf0,v0:=Tryd.zeroValue0,t3:=Tryd.underlying3,a3:=Tryd.isAgg3,z3:=Tryd.sizeOf3,v3:=Tryd.zeroValue3,t4:=Tryd.underlying4,a4:=Tryd.isAgg4,z4:=Tryd.sizeOf4,v4:=Tryd.zeroValue4,t5:=Tryd.underlying5,a5:=Tryd.isAgg5,z5:=Tryd.sizeOf5,v5:=Tryd.zeroValue5,t9:=Tryd.underlying9,a9:=Tryd.isAgg9,z9:=Tryd.sizeOf9,v9:=Tryd.zeroValue9,t21:=Tryd.underlying21,a21:=Tryd.isAgg21,z21:=Tryd.sizeOf21,v21:=Tryd.zeroValue21,t46:=Tryd.underlying158,a46:=Tryd.isAgg158,z46:=Tryd.sizeOf158,v46:=Tryd.zeroValue158,t105:=Tryd.underlying194,a105:=Tryd.isAgg194,z105:=Tryd.sizeOf194,v105:=Tryd.zeroValue194,t116:=Tryd.underlying181,a116:=Tryd.isAgg181,z116:=Tryd.sizeOf181,t117:=Tryd.underlying182,a117:=Tryd.isAgg182,z117:=Tryd.sizeOf182,v117:=Tryd.zeroValue182,t119:=Tryd.underlying198,a119:=Tryd.isAgg198,z119:=Tryd.sizeOf198,t124:=Tryd.underlying185,a124:=Tryd.isAgg185,z124:=Tryd.sizeOf185,v124:=Tryd.zeroValue185,t138:=Tryd.underlying200,a138:=Tryd.isAgg200,z138:=Tryd.sizeOf200,v138:=Tryd.zeroValue200,t139:=Tryd.underlying201,a139:=Tryd.isAgg201,z139:=Tryd.sizeOf201,v139:=Tryd.zeroValue201,g3:=by kernel_rfl,g4:=by kernel_rfl}
theorem Zfk(s cutset:ByteArray)(w:World)(hs:s.size<=9223372036854775807)(hcs:cutset.size<4294967281)(hascii:∀(j:Nat)b,cutset.data.toList[j]?=some b->b.toNat<128):Calls Tryd.prog 116 #[.string s,.string cutset] w fun e w'=>e= .returned (.string ⟨(Lib.trimS s.data.toList cutset.data.toList).toArray⟩)/\Below w.heap.size w w':=Any.strings_Trim_laid Zga (by kernel_rfl) s cutset w hs hcs hascii
end Go.Proofs.YtlpmfkpefoegeacDoor
namespace Go.Proofs.YtlpmfkpefoegeacDoor
set_option maxRecDepth 100000
set_option maxHeartbeats 16000000
set_option linter.all false
open Go.RowKit
theorem Zbb{p:UInt8->Bool}:∀(l:List UInt8),l.dropWhile p=[]↔∀b∈l,p b=true|[]=>by simp|b::r=>by rw[List.dropWhile_cons];cases h:p b with|true=>simpa[h]using Zbb r|false=>simp[h]
theorem Zfl(l cs:List UInt8):Lib.trimS l cs=[]↔∀b∈l,cs.contains b=true:=by
 unfold Lib.trimS Lib.trimLeftS Lib.trimRightS;constructor
 ·intro h;rw[Zbb]at h;have h0:l.reverse.dropWhile (cs.contains ·)=[]:=by cases e:l.reverse.dropWhile (cs.contains ·)with|nil=>rfl|cons b r=>have h1:=List.head?_dropWhile_not (cs.contains ·) l.reverse;rw[e]at h1 h;simp only[List.head?_cons]at h1;have h2:=h b (by simp);rw[h2]at h1;cases h1
  rw[Zbb]at h0;exact fun b hb=>h0 b (by simpa using hb)
 ·intro h;rw[(Zbb l.reverse).2 (fun b hb=>h b (by simpa using hb))];rfl
def abc:ByteArray:=⟨#[97,98,99,100,101,102,103,104,105,106,107,108,109,110,111,112,113,114,115,116,117,118,119,120,121,122]⟩
theorem ZdU(b:UInt8):abc.data.toList.contains b=true↔97<=(b.toNat:Int)/\(b.toNat:Int)<=122:=by simp only[abc,List.contains_iff_mem,List.mem_cons,List.mem_nil_iff,or_false,<-UInt8.toNat_inj];show(b.toNat=97\/b.toNat=98\/b.toNat=99\/b.toNat=100\/b.toNat=101\/b.toNat=102\/b.toNat=103\/b.toNat=104\/b.toNat=105\/b.toNat=106\/b.toNat=107\/b.toNat=108\/b.toNat=109\/b.toNat=110\/b.toNat=111\/b.toNat=112\/b.toNat=113\/b.toNat=114\/b.toNat=115\/b.toNat=116\/b.toNat=117\/b.toNat=118\/b.toNat=119\/b.toNat=120\/b.toNat=121\/b.toNat=122)↔_;omega
theorem ZeI{s:ByteArray}(h:s≠⟨#[33]⟩)(h1:1<=s.size)(h8:s.size<=8):IsName s↔Lib.trimS s.data.toList abc.data.toList=[]:=by
 rw[Zfl];constructor
 ·rintro(e|⟨_,_,k⟩);·exact absurd e h
  ·intro b hb;obtain⟨i,hi,rfl⟩:=List.mem_iff_getElem.1 hb;rw[ZdU];exact k i (by simpa using hi)
 ·intro k;refine .inr ⟨h1,h8,fun i hi=>?_⟩;have :=(ZdU _).1 (k (s.data.toList[i]'(by simpa using hi)) (List.getElem_mem _));exact this
theorem Zfm:∀(j:Nat)b,abc.data.toList[j]?=some b->b.toNat<128:=by intro j b h;have h2:=(ZdU b).1 (by rw[List.contains_iff_mem];exact List.mem_of_getElem? h);omega
theorem Zdw(s:ByteArray)(w:World)(hs:s.size<=1048576):Calls Tryd.prog 93 #[.string s] w (Pure w fun v _=>∃r,v= .bool r/\(r=true↔IsName s)):=by
 have hc:(⟨#[33]⟩:ByteArray).toList=[33]:=by decide+kernel
 by_cases h1:s.toList=(⟨#[33]⟩:ByteArray).toList
 ·have h1b:(s.toList==[33])=true:=by rw[h1,hc];rfl
  have hn:IsName s:= .inl (Zbv h1);have HN:=zh hn;clear hn h1 hc;go_enter Tryd.func93,Tryd.ntmps93;go_wp2_with fail;go_ret;exact⟨_,rfl,zB _ _,true,rfl,by simp[HN.o]⟩
 ·have h1':¬s=⟨#[33]⟩:=fun e=>h1 (by rw[e]);have h1b:(s.toList==[33])=false:=by rw[hc]at h1;simpa using h1
  have HN:=zh h1';clear h1' h1 hc;by_cases h2:s.toList.isEmpty=true
  ·have hz:s=ByteArray.empty:=by
    refine Zbv ?_;have :s.toList=[]:=by simpa using h2
    rw[this];decide+kernel
   have hn:¬IsName s:=by
    rintro(e|⟨e,_⟩);·exact HN.o e
    ·rw[hz]at e;simp at e
   have HZ:=zh hn;clear hn hz;go_enter Tryd.func93,Tryd.ntmps93;go_wp2_with fail;go_ret;exact⟨_,rfl,zB _ _,false,rfl,by simp[HZ.o]⟩
  ·have h2b:s.toList.isEmpty=false:=by simpa using h2
   have hp:1<=s.size:=by
    rcases Nat.eq_zero_or_pos s.size with h|h
    ·exfalso;apply h2;have :s=ByteArray.empty:=by cases s with|mk d=>congr 1;exact Array.eq_empty_of_size_eq_zero h
     rw[this];decide+kernel
    ·exact h
   clear h2;by_cases h9:decide ((s.size:Int)<9)=true
   ·have h8:s.size<=8:=by have :=of_decide_eq_true h9;omega
    have HI:=zh (ZeI HN.o hp h8);have HT:=zh (fun(W:World)=>Zfk s abc W (by omega) (by decide) Zfm);go_enter Tryd.func93,Tryd.ntmps93;go_wp2_with fail;refine(HT.o _).mono ?_;rintro e w1⟨rfl,hb⟩;have HB:=zh hb;clear hb HT;by_cases ht:Lib.trimS s.data.toList abc.data.toList=[]
    ·have ht2:(ByteArray.toList ⟨(Lib.trimS s.data.toList abc.data.toList).toArray⟩).isEmpty=true:=by rw[ht];decide+kernel
     have HX:=zh (HI.o.2 ht);clear ht;generalize(⟨(Lib.trimS s.data.toList abc.data.toList).toArray⟩:ByteArray)=u at ht2 ⊢;go_wp2_with fail;go_ret;exact⟨_,rfl,HB.o,true,rfl,by simp[HX.o]⟩
    ·have ht2:(ByteArray.toList ⟨(Lib.trimS s.data.toList abc.data.toList).toArray⟩).isEmpty=false:=by rw[ByteArray.toList_eq];simpa using ht
     have HX:=zh (show ¬IsName s from fun k=>ht (HI.o.1 k));clear ht;generalize(⟨(Lib.trimS s.data.toList abc.data.toList).toArray⟩:ByteArray)=u at ht2 ⊢;go_wp2_with fail;go_ret;exact⟨_,rfl,HB.o,false,rfl,by simp[HX.o]⟩
   ·have h9b:decide ((s.size:Int)<9)=false:=by simpa using h9
    have hn:¬IsName s:=by
     rintro(e|⟨_,e,_⟩);·exact HN.o e
     ·have :=of_decide_eq_false h9b;omega
    have HZ:=zh hn;clear hn h9;go_enter Tryd.func93,Tryd.ntmps93;go_wp2_with fail;go_ret;exact⟨_,rfl,zB _ _,false,rfl,by simp[HZ.o]⟩
end Go.Proofs.YtlpmfkpefoegeacDoor
