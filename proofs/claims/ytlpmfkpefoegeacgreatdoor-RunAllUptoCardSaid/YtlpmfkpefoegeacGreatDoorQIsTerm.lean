import Derived.Shelf.Strings.SlTrimAscii
import Derived.Test.YtlpmfkpefoegeacGreatDoorQIsHeap
namespace Go.Proofs.YtlpmfkpefoegeacGreatDoor
set_option maxRecDepth 99999
set_option maxHeartbeats 0
set_option linter.all false
open Go.Shelf Go.RowKit
def awK:Go.Shelf.Ren:=⟨fun|160=>159|232=>172|231=>171|227=>173|234=>175|233=>174|236=>177|235=>176|228=>183|271=>186|151=>185|197=>184|120=>191|152=>190|260=>189|137=>78|119=>192|224=>193|225=>194|217=>117|266=>140|n=>n,fun|9=>9|4=>4|3=>3|5=>5|117=>229|116=>228|0=>0|124=>232|21=>21|105=>240|46=>217|119=>250|139=>253|138=>252|n=>n,fun|3=>7|4=>8|n=>n⟩
theorem awL:Lays.n160 Tryz.prog awK:={mixed:=by kernel_rfl,f119:=Tryz.func192.trans (congrArg some (by kernel_rfl)),f120:=Tryz.func191.trans (congrArg some (by kernel_rfl)),f137:=Tryz.func78.trans (congrArg some (by kernel_rfl)),f151:=Tryz.func185.trans (congrArg some (by kernel_rfl)),f152:=Tryz.func190.trans (congrArg some (by kernel_rfl)),f160:=Tryz.func159.trans (congrArg some (by kernel_rfl)),f197:=Tryz.func184.trans (congrArg some (by kernel_rfl)),f217:=Tryz.func117.trans (congrArg some (by kernel_rfl)),f224:=Tryz.func193.trans (congrArg some (by kernel_rfl)),f225:=Tryz.func194.trans (congrArg some (by kernel_rfl)),f227:=Tryz.func173.trans (congrArg some (by kernel_rfl)),f228:=Tryz.func183.trans (congrArg some (by kernel_rfl)),f231:=Tryz.func171.trans (congrArg some (by kernel_rfl)),f232:=Tryz.func172.trans (congrArg some (by kernel_rfl)),f233:=Tryz.func174.trans (congrArg some (by kernel_rfl)),f234:=Tryz.func175.trans (congrArg some (by kernel_rfl)),f235:=Tryz.func176.trans (congrArg some (by kernel_rfl)),f236:=Tryz.func177.trans (congrArg some (by kernel_rfl)),f260:=Tryz.func189.trans (congrArg some (by kernel_rfl)),f266:=Tryz.func140.trans (congrArg some (by kernel_rfl)),f271:=Tryz.func186.trans (congrArg some (by kernel_rfl)),t0:=Tryz.underlying0,a0:=Tryz.isAgg0,z0:=Tryz.sizeOf0,v0:=Tryz.zeroValue0,t3:=Tryz.underlying3,a3:=Tryz.isAgg3,z3:=Tryz.sizeOf3,v3:=Tryz.zeroValue3,t4:=Tryz.underlying4,a4:=Tryz.isAgg4,z4:=Tryz.sizeOf4,v4:=Tryz.zeroValue4,t5:=Tryz.underlying5,a5:=Tryz.isAgg5,z5:=Tryz.sizeOf5,v5:=Tryz.zeroValue5,t9:=Tryz.underlying9,a9:=Tryz.isAgg9,z9:=Tryz.sizeOf9,v9:=Tryz.zeroValue9,t21:=Tryz.underlying21,a21:=Tryz.isAgg21,z21:=Tryz.sizeOf21,v21:=Tryz.zeroValue21,t46:=Tryz.underlying217,a46:=Tryz.isAgg217,z46:=Tryz.sizeOf217,v46:=Tryz.zeroValue217,t105:=Tryz.underlying240,a105:=Tryz.isAgg240,z105:=Tryz.sizeOf240,v105:=Tryz.zeroValue240,t116:=Tryz.underlying228,a116:=Tryz.isAgg228,z116:=Tryz.sizeOf228,t117:=Tryz.underlying229,a117:=Tryz.isAgg229,z117:=Tryz.sizeOf229,v117:=Tryz.zeroValue229,t119:=Tryz.underlying250,a119:=Tryz.isAgg250,z119:=Tryz.sizeOf250,t124:=Tryz.underlying232,a124:=Tryz.isAgg232,z124:=Tryz.sizeOf232,v124:=Tryz.zeroValue232,t138:=Tryz.underlying252,a138:=Tryz.isAgg252,z138:=Tryz.sizeOf252,v138:=Tryz.zeroValue252,t139:=Tryz.underlying253,a139:=Tryz.isAgg253,z139:=Tryz.sizeOf253,v139:=Tryz.zeroValue253,g3:=by kernel_rfl,g4:=by kernel_rfl}
theorem awM(s cutset:ByteArray)(w:World)(hs:s.size<=9223372036854775807)(hcs:cutset.size<4294967281)(hascii:∀(j:Nat)b,cutset.data.toList[j]?=some b->b.toNat<128):Calls Tryz.prog 159 #[.string s,.string cutset] w fun e w'=>e= .returned (.string ⟨(Lib.trimS s.data.toList cutset.data.toList).toArray⟩)/\Below w.heap.size w w':=Any.strings_Trim_laid awL (by kernel_rfl) s cutset w hs hcs hascii
open Go.RowKit
theorem dropWhile_nil{p:UInt8->Bool}:∀(l:List UInt8),l.dropWhile p=[]↔∀b∈l,p b=true|[]=>by simp|b::r=>by rw[alX];cases h:p b with|true=>simpa[h]using dropWhile_nil r|false=>simp[h]
theorem awN(l cs:List UInt8):Lib.trimS l cs=[]↔∀b∈l,cs.contains b=true:=by
 unfold Lib.trimS Lib.trimLeftS Lib.trimRightS;constructor
 ·intro h;rw[dropWhile_nil]at h;have h0:l.reverse.dropWhile (cs.contains ·)=[]:=by cases e:l.reverse.dropWhile (cs.contains ·)with|nil=>rfl|cons b r=>have h1:=List.head?_dropWhile_not (cs.contains ·) l.reverse;rw[e]at h1 h;simp only[List.head?_cons]at h1;have h2:=h b (by simp);rw[h2]at h1;cases h1
  rw[dropWhile_nil]at h0;exact fun b hb=>h0 b (by simpa using hb)
 ·intro h;rw[(dropWhile_nil l.reverse).2 (fun b hb=>h b (by simpa using hb))];rfl
def abc:ByteArray:=⟨#[97,98,99,100,101,102,103,104,105,106,107,108,109,110,111,112,113,114,115,116,117,118,119,120,121,122]⟩
theorem abL(b:UInt8):abc.data.toList.contains b=true↔97<=(b.toNat:Int)/\(b.toNat:Int)<=122:=by simp only[abc,List.contains_iff_mem,gK,List.mem_nil_iff,pz,<-UInt8.toNat_inj];show(b.toNat=97\/b.toNat=98\/b.toNat=99\/b.toNat=100\/b.toNat=101\/b.toNat=102\/b.toNat=103\/b.toNat=104\/b.toNat=105\/b.toNat=106\/b.toNat=107\/b.toNat=108\/b.toNat=109\/b.toNat=110\/b.toNat=111\/b.toNat=112\/b.toNat=113\/b.toNat=114\/b.toNat=115\/b.toNat=116\/b.toNat=117\/b.toNat=118\/b.toNat=119\/b.toNat=120\/b.toNat=121\/b.toNat=122)↔_;omega
theorem awO{s:ByteArray}(h:s≠⟨#[33]⟩)(h1:1<=s.size)(h8:s.size<=8):nA s↔Lib.trimS s.data.toList abc.data.toList=[]:=by
 rw[awN];constructor
 ·rintro(e|⟨_,_,k⟩);·exact absurd e h
  ·intro b hb;obtain⟨i,hi,rfl⟩:=ng.1 hb;rw[abL];exact k i (by simpa using hi)
 ·intro k;refine .inr ⟨h1,h8,fun i hi=>?_⟩;have :=(abL _).1 (k (s.data.toList[i]'(by simpa using hi)) (bO _));exact this
theorem awP:∀(j:Nat)b,abc.data.toList[j]?=some b->b.toNat<128:=by intro j b h;have h2:=(abL b).1 (by rw[List.contains_iff_mem];exact Pt h);omega
theorem alx(s:ByteArray)(w:World)(hs:s.size<=1048576):Calls Tryz.prog 142 #[.string s] w (Pure w fun v _=>∃r,v= .bool r/\(r=true↔nA s)):=by
 have hc:(⟨#[33]⟩:ByteArray).toList=[33]:=by decide+kernel
 by_cases h1:s.toList=(⟨#[33]⟩:ByteArray).toList
 ·have h1b:(s.toList==[33])=true:=by rw[h1,hc];rfl
  have hn:nA s:= .inl (Gu h1);have HN:=zh hn;clear hn h1 hc;go_enter Tryz.func142,Tryz.ntmps142;go_wp2_with fail;go_ret;exact⟨_,rfl,zB _ _,true,rfl,by simp[HN.o]⟩
 ·have h1':¬s=⟨#[33]⟩:=fun e=>h1 (by rw[e]);have h1b:(s.toList==[33])=false:=by rw[hc]at h1;simpa using h1
  have HN:=zh h1';clear h1' h1 hc;by_cases h2:s.toList.isEmpty=true
  ·have hz:s=.empty:=by
    refine Gu ?_;have :s.toList=[]:=by simpa using h2
    rw[this];decide+kernel
   have hn:¬nA s:=by
    rintro(e|⟨e,_⟩);·exact HN.o e
    ·rw[hz]at e;simp at e
   have HZ:=zh hn;clear hn hz;go_enter Tryz.func142,Tryz.ntmps142;go_wp2_with fail;go_ret;exact⟨_,rfl,zB _ _,false,rfl,by simp[HZ.o]⟩
  ·have h2b:s.toList.isEmpty=false:=by simpa using h2
   have hp:1<=s.size:=by
    rcases Nat.eq_zero_or_pos s.size with h|h
    ·exfalso;apply h2;have :s=.empty:=by cases s with|mk d=>congr 1;exact Array.eq_empty_of_size_eq_zero h
     rw[this];decide+kernel
    ·exact h
   clear h2;by_cases h9:decide ((s.size:Int)<9)=true
   ·have h8:s.size<=8:=by have :=of_decide_eq_true h9;omega
    have HI:=zh (awO HN.o hp h8);have HT:=zh (fun(W:World)=>awM s abc W (by omega) (by decide) awP);go_enter Tryz.func142,Tryz.ntmps142;go_wp2_with fail;refine(HT.o _).mono ?_;rintro e w1⟨rfl,hb⟩;have HB:=zh hb;clear hb HT;by_cases ht:Lib.trimS s.data.toList abc.data.toList=[]
    ·have ht2:(ByteArray.toList ⟨(Lib.trimS s.data.toList abc.data.toList).toArray⟩).isEmpty=true:=by rw[ht];decide+kernel
     have HX:=zh (HI.o.2 ht);clear ht;generalize(⟨(Lib.trimS s.data.toList abc.data.toList).toArray⟩:ByteArray)=u at ht2 ⊢;go_wp2_with fail;go_ret;exact⟨_,rfl,HB.o,true,rfl,by simp[HX.o]⟩
    ·have ht2:(ByteArray.toList ⟨(Lib.trimS s.data.toList abc.data.toList).toArray⟩).isEmpty=false:=by rw[F8];simpa using ht
     have HX:=zh (show ¬nA s from fun k=>ht (HI.o.1 k));clear ht;generalize(⟨(Lib.trimS s.data.toList abc.data.toList).toArray⟩:ByteArray)=u at ht2 ⊢;go_wp2_with fail;go_ret;exact⟨_,rfl,HB.o,false,rfl,by simp[HX.o]⟩
   ·have h9b:decide ((s.size:Int)<9)=false:=by simpa using h9
    have hn:¬nA s:=by
     rintro(e|⟨_,e,_⟩);·exact HN.o e
     ·have :=of_decide_eq_false h9b;omega
    have HZ:=zh hn;clear hn h9;go_enter Tryz.func142,Tryz.ntmps142;go_wp2_with fail;go_ret;exact⟨_,rfl,zB _ _,false,rfl,by simp[HZ.o]⟩
theorem awR{v:Int}{t:Tm}(h:t.Good v):∀x∈t.args,x.Good v:=by cases h with|comp s l h h1 h2 h3 h4=>exact h4|_=>intro x hx;simp[Tm.args]at hx
theorem Pe{vars n:Int}{s:ByteArray}{l:List Tm}:Tm.Good vars (.mk 0 n s l)↔((l.length:Int)==0)=true/\s.toList.isEmpty=true/\decide (0<=n)=true/\decide (n<vars)=true:=by
 rw[Tm.Gv];constructor;·rintro⟨h1,h2,h3,h4⟩;exact⟨h4,h3,h1,h2⟩
 ·rintro⟨h1,h2,h3,h4⟩;exact⟨h3,h4,h2,h1⟩
theorem U7{vars n:Int}{s:ByteArray}{l:List Tm}:Tm.Good vars (.mk 1 n s l)↔((l.length:Int)==0)=true/\(n==0)=true/\nA s:=by
 rw[Tm.JK];constructor;·rintro⟨h1,h2,h3⟩;exact⟨h3,h1,h2⟩
 ·rintro⟨h1,h2,h3⟩;exact⟨h2,h3,h1⟩
theorem Pf{vars n:Int}{s:ByteArray}{l:List Tm}:Tm.Good vars (.mk 2 n s l)↔((l.length:Int)==0)=true/\s.toList.isEmpty=true/\decide (n<=1099511627776)=true/\decide (-1099511627776<=n)=true:=by
 rw[Tm.Gw];constructor;·rintro⟨h1,h2,h3,h4⟩;exact⟨h4,h3,h2,h1⟩
 ·rintro⟨h1,h2,h3,h4⟩;exact⟨h4,h3,h2,h1⟩
theorem Jr{vars n:Int}{s:ByteArray}{l:List Tm}(hl:∀t∈l,t.Good vars):Tm.Good vars (.mk 3 n s l)↔decide (0<l.length)=true/\decide ((l.length:Int)<5)=true/\(n==0)=true/\(s.toList==[33])=false/\nA s:=by
 rw[Tm.Cs];have e:((n != 0)=false)↔((n==0)=true):=by simp
 rw[e];simp only[Ed,alN];constructor;·rintro⟨h1,h2,h3,h4,h5,h6⟩;exact⟨by omega,by omega,h1,h3,h2⟩
 ·rintro⟨h1,h2,h3,h4,h5⟩;exact⟨h3,h5,h4,by omega,by omega,hl⟩
def abM(t:Tm):Prop:=∀(vars:Int)(A:Nat->Prop)(w:World)(vs:List Value),aA vars->Tm.rep A w t vs->Calls Tryz.prog 120 #[.agg vs.toArray,.int .i64 vars] w (Pure w fun v _=>∃r,v= .bool r/\(r=true↔t.Good vars))
theorem awS(k n:Int)(s:ByteArray)(l:List Tm)(ih:∀t∈l,abM t):abM (.mk k n s l):=by
 intro vars A w vs hvars hv;rw[Tm.gL]at hv;obtain⟨hk,hn,hs,v,rfl,hl⟩:=hv;obtain⟨a,cap,b,off,rfl,hlc,hcm,hlb,ha,he⟩:=hl.at;have HE:=zh he;have HA:=zh ha;have IH:=zh ih;have Gx:=zh hvars;clear he ha hl ih;go_enter Tryz.func120,Tryz.ntmps120;go_wp2_with fail;have HX0:=zh (bJ w (.cells #[.int .i64 k,.int .i64 n,.string s,.slice a l.length cap] 34));have HB0:=zh (eB (iF _ (w.alloc (.cells #[.int .i64 k,.int .i64 n,.string s,.slice a l.length cap] 34))));have hz0:w.heap.size<(w.alloc (.cells #[.int .i64 k,.int .i64 n,.string s,.slice a l.length cap] 34)).heap.size:=by simp
 generalize w.alloc (.cells #[.int .i64 k,.int .i64 n,.string s,.slice a l.length cap] 34)=wa at HX0 HB0 hz0 ⊢;go_loopw[11](fun q wr=>∃j:Nat,j<=l.length/\q= .int .i64 j/\(∀i(hi:i<l.length),i<j->l[i].Good vars)/\Below wa.heap.size wa wr)(fun q _=>l.length - (intOf q).toNat);case atStart=>exact⟨0,dn _,rfl,fun i _ hi=>by omega,zB _ _⟩
 case round=>
  obtain⟨j,hj,rfl,hg,hb⟩:=hrel;have HB:=zh hb;have HG:=zh hg;have hz:=hb.size;clear hb hg;by_cases hlt:j<l.length
  ·obtain⟨rfl,bC⟩:=HA.o (by omega);obtain⟨sa,sc,c0,c1,c2,c3,hr⟩:=gq HE.o bC ((af.ob HB0.o).trans (af.ob HB.o)) hlt;have HC:=zh (IH.out _ (bO hlt) vars _ (wr.alloc _) _ Gx.o (Tm.aj.1 _ _ _ _ _ hr (af.alloc _ _ (.cells (#[.int .i64 l[j].kind,.int .i64 l[j].n,.string l[j].s,.slice sa l[j].args.length sc]:Array Value) 34))));clear hr;go_wp2_with fail;refine(HC.o).mono ?_;rintro e w1⟨v,rfl,hb1,r,rfl,hgr⟩;have HB1:=zh ((HB.o.alloc hz _).trans (hb1.mono (by simp;omega)));have HR:=zh hgr;clear hb1 HC c0 c1 c2 c3 hgr;cases r with
    |false=>go_wp2_with fail;go_ret;refine⟨_,rfl,HB0.o.trans (HB1.o.mono HB0.o.size),false,rfl,?_⟩;simp only[mD,false_iff];exact fun h=>by have h1:=HR.o.2 (awR h _ (bO hlt));cases h1
    |true=>
     have Jl:=zh (HR.o.1 rfl);clear HR;go_wp2_with fail;go_roundw;case rel=>
      refine⟨j+1,by omega,by go_num,fun i hi hij=>?_,HB1.o⟩;by_cases e:i=j;·subst e;exact Jl.o
      ·exact HG.o i hi (by omega)
     case measure=>simp[intOf];omega
  ·have :j=l.length:=by omega
   subst this;have HL:=zh (show ∀t∈l,t.Good vars from fun t ht=>by obtain⟨i,hi,rfl⟩:=ng.1 ht;exact HG.o i hi hi);have HX:=zh (aL HX0.o HB.o);have mq:=zh (HB0.o.trans (HB.o.mono HB0.o.size));obtain⟨x0,x1,x2,x3,xz⟩:=aU HX.o;have hxz:=aJ HX.o;clear hlt HG HE HA IH hj hz hz0;by_cases k0:(k==0)=true
   ·have KD:=zh (show k=0 by simpa using k0);by_cases a0:((l.length:Int)==0)=true
    ·by_cases a1:s.toList.isEmpty=true
     ·by_cases a2:decide (0<=n)=true
      ·by_cases a3:decide (n<vars)=true;·go_wp2_with fail;go_ret;refine⟨_,rfl,mq.o,true,rfl,?_⟩;obtain rfl:=KD.out;rw[Pe];simp[a0,a1,a2,a3]
       ·have a3':decide (n<vars)=false:=by simpa using a3
        clear a3;go_wp2_with fail;go_ret;refine⟨_,rfl,mq.o,false,rfl,?_⟩;obtain rfl:=KD.out;rw[Pe];simp[a0,a1,a2,a3']
      ·have uS:decide (0<=n)=false:=by simpa using a2
       clear a2;go_wp2_with fail;go_ret;refine⟨_,rfl,mq.o,false,rfl,?_⟩;obtain rfl:=KD.out;rw[Pe];simp[a0,a1,uS]
     ·have a1':s.toList.isEmpty=false:=by simpa using a1
      clear a1;go_wp2_with fail;go_ret;refine⟨_,rfl,mq.o,false,rfl,?_⟩;obtain rfl:=KD.out;rw[Pe];simp[a0,a1']
    ·have a0':((l.length:Int)==0)=false:=by simpa using a0
     clear a0;go_wp2_with fail;go_ret;refine⟨_,rfl,mq.o,false,rfl,?_⟩;obtain rfl:=KD.out;rw[Pe];simp[a0']
   ·replace k0:(k==0)=false:=by simpa using k0
    by_cases k1:(k==1)=true
    ·have KD:=zh (show k=1 by simpa using k1);by_cases a0:((l.length:Int)==0)=true
     ·by_cases a1:(n==0)=true;·have HN:=zh (alx s);go_wp2_with fail;refine(HN.o _ hs).mono ?_;rintro e w2⟨v2,rfl,hb2,r,rfl,hr⟩;have Pg:=zh (mq.o.trans (hb2.mono mq.o.size));have HR:=zh hr;clear hb2 hr HN x0 x1 x2 x3 xz;cases r with|false=>have HF:=zh (show ¬nA s from fun h=>by have :=HR.o.2 h;cases this);go_wp2_with fail;go_ret;refine⟨_,rfl,Pg.o,false,rfl,?_⟩;obtain rfl:=KD.out;rw[U7];simp[a0,a1,HF.o]|true=>have HF:=zh (show nA s from HR.o.1 rfl);go_wp2_with fail;go_ret;refine⟨_,rfl,Pg.o,true,rfl,?_⟩;obtain rfl:=KD.out;rw[U7];simp[a0,a1,HF.o]
      ·have a1':(n==0)=false:=by simpa using a1
       clear a1;go_wp2_with fail;go_ret;refine⟨_,rfl,mq.o,false,rfl,?_⟩;obtain rfl:=KD.out;rw[U7];simp[a0,a1']
     ·have a0':((l.length:Int)==0)=false:=by simpa using a0
      clear a0;go_wp2_with fail;go_ret;refine⟨_,rfl,mq.o,false,rfl,?_⟩;obtain rfl:=KD.out;rw[U7];simp[a0']
    ·replace k1:(k==1)=false:=by simpa using k1
     by_cases k2:(k==2)=true
     ·have KD:=zh (show k=2 by simpa using k2);by_cases a0:((l.length:Int)==0)=true
      ·by_cases a1:s.toList.isEmpty=true
       ·by_cases a2:decide (n<=1099511627776)=true
        ·by_cases a3:decide (-1099511627776<=n)=true;·go_wp2_with fail;go_ret;refine⟨_,rfl,mq.o,true,rfl,?_⟩;obtain rfl:=KD.out;rw[Pf];simp[a0,a1,a2,a3]
         ·have a3':decide (-1099511627776<=n)=false:=by simpa using a3
          clear a3;go_wp2_with fail;go_ret;refine⟨_,rfl,mq.o,false,rfl,?_⟩;obtain rfl:=KD.out;rw[Pf];simp[a0,a1,a2,a3']
        ·have uS:decide (n<=1099511627776)=false:=by simpa using a2
         clear a2;go_wp2_with fail;go_ret;refine⟨_,rfl,mq.o,false,rfl,?_⟩;obtain rfl:=KD.out;rw[Pf];simp[a0,a1,uS]
       ·have a1':s.toList.isEmpty=false:=by simpa using a1
        clear a1;go_wp2_with fail;go_ret;refine⟨_,rfl,mq.o,false,rfl,?_⟩;obtain rfl:=KD.out;rw[Pf];simp[a0,a1']
      ·have a0':((l.length:Int)==0)=false:=by simpa using a0
       clear a0;go_wp2_with fail;go_ret;refine⟨_,rfl,mq.o,false,rfl,?_⟩;obtain rfl:=KD.out;rw[Pf];simp[a0']
     ·replace k2:(k==2)=false:=by simpa using k2
      by_cases k3:(k==3)=true
      ·have KD:=zh (show k=3 by simpa using k3);by_cases a0:decide (0<l.length)=true
       ·by_cases a1:decide ((l.length:Int)<5)=true
        ·by_cases a2:(n==0)=true
         ·by_cases a3:(s.toList==[33])=false;·have HN:=zh (alx s);go_wp2_with fail;refine(HN.o _ hs).mono ?_;rintro e w2⟨v2,rfl,hb2,r,rfl,hr⟩;have Pg:=zh (mq.o.trans (hb2.mono mq.o.size));have HR:=zh hr;clear hb2 hr HN x0 x1 x2 x3 xz;cases r with|false=>have HF:=zh (show ¬nA s from fun h=>by have :=HR.o.2 h;cases this);go_wp2_with fail;go_ret;refine⟨_,rfl,Pg.o,false,rfl,?_⟩;obtain rfl:=KD.out;rw[Jr HL.o];simp[a0,a1,a2,a3,HF.o]|true=>have HF:=zh (show nA s from HR.o.1 rfl);go_wp2_with fail;go_ret;refine⟨_,rfl,Pg.o,true,rfl,?_⟩;obtain rfl:=KD.out;rw[Jr HL.o];simp[a0,a1,a2,a3,HF.o]
          ·have a3':(s.toList==[33])=true:=by simpa using a3
           clear a3;go_wp2_with fail;go_ret;refine⟨_,rfl,mq.o,false,rfl,?_⟩;obtain rfl:=KD.out;rw[Jr HL.o];simp[a0,a1,a2,a3']
         ·have uS:(n==0)=false:=by simpa using a2
          clear a2;go_wp2_with fail;go_ret;refine⟨_,rfl,mq.o,false,rfl,?_⟩;obtain rfl:=KD.out;rw[Jr HL.o];simp[a0,a1,uS]
        ·have a1':decide ((l.length:Int)<5)=false:=by simpa using a1
         clear a1;go_wp2_with fail;go_ret;refine⟨_,rfl,mq.o,false,rfl,?_⟩;obtain rfl:=KD.out;rw[Jr HL.o];simp[a0,a1']
       ·have a0':decide (0<l.length)=false:=by simpa using a0
        clear a0;go_wp2_with fail;go_ret;refine⟨_,rfl,mq.o,false,rfl,?_⟩;obtain rfl:=KD.out;rw[Jr HL.o];simp[a0']
      ·replace k3:(k==3)=false:=by simpa using k3
       have KN:=zh (show ¬(k=0\/k=1\/k=2\/k=3)by simp at k0 k1 k2 k3;omega);go_wp2_with fail;go_ret;refine⟨_,rfl,mq.o,false,rfl,?_⟩;simp only[mD,false_iff];exact fun h=>KN.out (Tm.acN h)
theorem awT:∀t,abM t:=by intro t;induction t using Tm.induct with|h k n s l ih=>exact awS k n s l ih
