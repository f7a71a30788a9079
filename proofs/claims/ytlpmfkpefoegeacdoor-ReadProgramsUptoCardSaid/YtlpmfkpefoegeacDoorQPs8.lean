import Derived.Test.YtlpmfkpefoegeacDoorQPs3
import Derived.Test.YtlpmfkpefoegeacDoorQIdxB
namespace Go.Proofs.YtlpmfkpefoegeacDoor
set_option maxRecDepth 100000
set_option maxHeartbeats 16000000
set_option linter.all false
open Go.RowKit
theorem ZdN(c:UInt8):∀l:List UInt8,0<=Lib.indexByte l c↔c∈l
 |[]=>by simp[Lib.indexByte]
 |b::l=>by
  have ih:=ZdN c l;have hge:=Lib.indexByte_ge l c;unfold Lib.indexByte;by_cases hb:b=c;·subst hb;simp
  ·have h1:(b==c)=false:=beq_eq_false_iff_ne.2 hb;rw[h1];by_cases hx:Lib.indexByte l c= -1
   ·have h2:(Lib.indexByte l c== -1)=true:=by rw[hx];rfl
    rw[h2];have h3:c∉l:=fun h=>by have :=ih.2 h;omega
    simp[h3,Ne.symm hb]
   ·have h2:(Lib.indexByte l c== -1)=false:=beq_eq_false_iff_ne.2 hx;rw[h2];have h3:c∈l:=ih.1 (by omega);simp[h3];omega
theorem Zgo(c:UInt8):((c.toNat:Int)).toNat.toUInt8=c:=by simp
theorem Zf0(c:UInt8)(w:World):Calls Tryd.prog 47 #[.string ⟨#[32,10,9,13]⟩,.int .u8 (c.toNat:Int)] w (fun e w'=>(∃j:Int,e= .returned (.int .i64 j)/\decide (0<=j)=spB c)/\w'=w):=by refine(ZbK _ _ _).mono ?_;rintro e w'⟨rfl,rfl⟩;refine⟨⟨_,rfl,?_⟩,rfl⟩;rw[Zgo,Bool.eq_iff_iff,decide_eq_true_eq,ZdN];unfold spB;simp[or_assoc]
theorem Zf1(c:UInt8)(w:World):Calls Tryd.prog 47 #[.string ⟨#[40,41,44,46,33]⟩,.int .u8 (c.toNat:Int)] w (fun e w'=>(∃j:Int,e= .returned (.int .i64 j)/\decide (0<=j)=decide (c=40\/c=41\/c=44\/c=46\/c=33))/\w'=w):=by refine(ZbK _ _ _).mono ?_;rintro e w'⟨rfl,rfl⟩;refine⟨⟨_,rfl,?_⟩,rfl⟩;rw[Zgo,Bool.eq_iff_iff,decide_eq_true_eq,ZdN];simp
theorem Zdm(c:UInt8)(w:World):Calls Tryd.prog 45 #[.int .u8 (c.toNat:Int)] w (fun e w'=>e= .returned (.bool (Zba c))/\w'=w):=by
 have hl:=low_iff (c:=c);by_cases h1:(97:Int)<=(c.toNat:Int)
 ·have f1:decide ((97:Int)<=(c.toNat:Int))=true:=decide_eq_true h1;by_cases h2:(c.toNat:Int)<=122;·have f2:decide ((c.toNat:Int)<=122)=true:=decide_eq_true h2;have HR:=zh (hl.2 ⟨h1,h2⟩);clear h1 h2 hl;go_enter Tryd.func45,Tryd.ntmps45;go_wp2_with fail;go_ret;rw[HR.o];exact⟨rfl,rfl⟩
  ·have f2:decide ((c.toNat:Int)<=122)=false:=decide_eq_false h2;have HR:=zh (show Zba c=false from Bool.eq_false_iff.2 fun e=>h2 (hl.1 e).2);clear h1 h2 hl;go_enter Tryd.func45,Tryd.ntmps45;go_wp2_with fail;go_ret;rw[HR.o];exact⟨rfl,rfl⟩
 ·have f1:decide ((97:Int)<=(c.toNat:Int))=false:=decide_eq_false h1;have HR:=zh (show Zba c=false from Bool.eq_false_iff.2 fun e=>h1 (hl.1 e).1);clear h1 hl;go_enter Tryd.func45,Tryd.ntmps45;go_wp2_with fail;go_ret;rw[HR.o];exact⟨rfl,rfl⟩
theorem Zdn(c:UInt8)(w:World):Calls Tryd.prog 46 #[.int .u8 (c.toNat:Int)] w (fun e w'=>e= .returned (.bool (ZaR c))/\w'=w):=by
 have hl:=dig_iff (c:=c);by_cases h1:(48:Int)<=(c.toNat:Int)
 ·have f1:decide ((48:Int)<=(c.toNat:Int))=true:=decide_eq_true h1;by_cases h2:(c.toNat:Int)<=57;·have f2:decide ((c.toNat:Int)<=57)=true:=decide_eq_true h2;have HR:=zh (hl.2 ⟨h1,h2⟩);clear h1 h2 hl;go_enter Tryd.func46,Tryd.ntmps46;go_wp2_with fail;go_ret;rw[HR.o];exact⟨rfl,rfl⟩
  ·have f2:decide ((c.toNat:Int)<=57)=false:=decide_eq_false h2;have HR:=zh (show ZaR c=false from Bool.eq_false_iff.2 fun e=>h2 (hl.1 e).2);clear h1 h2 hl;go_enter Tryd.func46,Tryd.ntmps46;go_wp2_with fail;go_ret;rw[HR.o];exact⟨rfl,rfl⟩
 ·have f1:decide ((48:Int)<=(c.toNat:Int))=false:=decide_eq_false h1;have HR:=zh (show ZaR c=false from Bool.eq_false_iff.2 fun e=>h1 (hl.1 e).1);clear h1 hl;go_enter Tryd.func46,Tryd.ntmps46;go_wp2_with fail;go_ret;rw[HR.o];exact⟨rfl,rfl⟩
def ZgW(w:World)(l:List Str)(e:Ending)(w':World):Prop:=∃lv,e= .returned lv/\Below w.heap.size w w'/\SlR 1 (ZbD ZdH Zbk) (fun b=>w.heap.size<=b) w' l lv
structure WLoop (s : Str) (k : Nat) (done : List Str) (v : Value) (w wr : World) : Prop where
  eq : words s = done ++ words (s.drop k)
  len : done.length ≤ k
  own : ZgL wr w.heap.size done v
  bel : Below w.heap.size w wr
theorem Zbc(c:UInt8)(r:Str):Zam (c::r)=if Zba c||upB c then 1+lows r else if ZaR c||c==45 then 1+digs r else if c=58/\r.head?=some 45 then 2 else if c=40\/c=41\/c=44\/c=46\/c=33 then 1 else 0:=rfl
theorem WLoop.next{s:Str}{k n:Nat}{done:List Str}{v v2:Value}{w wr w2:World}{cells:Array Value}{c:UInt8}{r:Str}(h:WLoop s k done v w wr)(hd:s.drop k=c::r)(hsp:spB c=false)(hn:n=Zam (c::r))(h0:n≠0)(hown:ZgL w2 w.heap.size (done++[(s.drop k).take n]) v2)(hg:Grew (wr.alloc (.cells cells 9)) w2 v v2):WLoop s (k+n) (done++[(s.drop k).take n]) v2 w w2:=by
 refine⟨?_,?_,hown,?_⟩;·rw[h.eq,<-List.drop_drop,hd,Zbo hsp (by rw[<-hn];exact h0),<-hn];simp
 ·have :=h.len;simp only[List.length_append,List.length_singleton];omega
 ·exact hg.below (h.bel.alloc h.bel.size _) (by have :=h.bel.size;simp only[World.size_alloc];omega) (fun k hk=>(h.own.lt k hk).1)
theorem Zf2(s:Str)(hs:s.length<=2000)(w:World):Calls Tryd.prog 29 #[.string (bs s)] w (ZgW w (words s)):=by
 obtain⟨S,hS⟩:∃S,S=bs s:=⟨_,rfl⟩;rw[<-hS];have HZ:=zh (show S.size=s.length by rw[hS,Zab]);have hsz:S.size<=2000:=by rw[HZ.o];exact hs
 have HS:=zh hS;have HLN:=zh hs;clear hS hs;go_enter Tryd.func29,Tryd.ntmps29;go_wp2_with fail;go_loopw[3,6](fun v i wr=>∃(k:Nat)(done:List Str),i= .int .i64 (k:Int)/\k<=s.length/\WLoop s k done v w wr)(fun _ i _=>s.length - (intOf i).toNat);case atStart=>exact⟨0,[],rfl,Nat.zero_le _,rfl,zL _,OwnF.nil,zB _ _⟩
 case round=>
  obtain⟨k,done,rfl,hk,hT⟩:=hrel;have HT:=zh hT;have HK:=zh hk;have hk0:(0:Int)<=(k:Int):=zN _;obtain⟨pa,pc,rfl,hpl,hpm⟩:=hT.own.val;unfold maxLen at hpm;clear hT hk;by_cases hlt:k<s.length
  ·have hkS:k<S.size:=by rw[HZ.o];exact hlt
   have hd:decide (k<S.size)=true:=decide_eq_true hkS;obtain⟨c,hc⟩:∃c,c=s[k]:=⟨_,rfl⟩;obtain⟨r,hr⟩:∃r,r=s.drop (k+1):=⟨_,rfl⟩;have HD:=zh (show s.drop k=c::r by rw[hc,hr];exact List.drop_eq_getElem_cons hlt);have hg:S[k]=c:=by have e:=HS.o;subst e;rw[hc];exact ZbY s k hkS
   have HG:=zh hg;have HRL:=zh (show r.length+k+1=s.length by rw[hr,List.length_drop];omega);have HRG:=zh (show ∀(q:Nat)(hq:q<r.length)(m:Nat)(hm:m<S.size),m=k+q+1->S[m]=r[q]from fun q hq m hm e=>by have e1:=HS.o;subst e1 e;rw[ZbY s _ hm];simp only[hr,List.getElem_drop];congr 1;omega);clear hg hc hr;go_wp2_with fail;refine(Zf0 S[k] wr).mono ?_;rintro e w'⟨⟨j,rfl,hj⟩,rfl⟩;rw[HG.o]at hj;cases hsp:spB c with
    |true=>
     rw[hsp]at hj;have HSP:=zh hsp;clear hsp;go_wp2_with fail;go_roundw;case rel=>exact⟨k+1,done,by go_num,by omega,by have h1:=HT.o.eq;rw[HD.o,ZcR HSP.o]at h1;rw[h1,<-List.drop_drop,HD.o];rfl,by have :=HT.o.len;omega,HT.o.own,HT.o.bel⟩
     case measure=>simp[intOf];omega
    |false=>
     rw[hsp]at hj;have HSP:=zh hsp;clear hsp;go_upto_region 11 with fail;go_cut[25](fun o wx=>o= .bool (Zba c||upB c)/\wx=w');case first=>
      go_wp2_with fail;refine(Zdm S[k] _).mono ?_;rintro e w3⟨rfl,rfl⟩;rw[show Zba S[k]=Zba c by rw[HG.o]];cases hlw:Zba c with
       |true=>have HLW:=zh hlw;clear hlw;go_wp2_with fail;go_meet;case rel=>rw[HLW.o];exact⟨rfl,rfl⟩
       |false=>
        have HLW:=zh hlw;clear hlw;have hui:=up_iff (c:=c);by_cases h65:(65:Int)<=(c.toNat:Int)
        ·have f1:decide ((65:Int)<=(S[k].toNat:Int))=true:=by rw[HG.o];exact decide_eq_true (by omega)
         by_cases h90:(c.toNat:Int)<=90
         ·have f2:decide ((S[k].toNat:Int)<=(90:Int))=true:=by rw[HG.o];exact decide_eq_true (by omega)
          have HUP:=zh (hui.2 ⟨h65,h90⟩);clear h65 h90 hui;go_wp2_with fail;go_meet;case rel=>rw[HLW.o,HUP.o];exact⟨rfl,rfl⟩
         ·have f2:decide ((S[k].toNat:Int)<=(90:Int))=false:=by rw[HG.o];exact decide_eq_false (by omega)
          have HUP:=zh (show upB c=false from Bool.eq_false_iff.2 fun e=>h90 (hui.1 e).2);clear h65 h90 hui;go_wp2_with fail;go_meet;case rel=>rw[HLW.o,HUP.o];exact⟨rfl,rfl⟩
        ·have f1:decide ((65:Int)<=(S[k].toNat:Int))=false:=by rw[HG.o];exact decide_eq_false (by omega)
         have HUP:=zh (show upB c=false from Bool.eq_false_iff.2 fun e=>h65 (hui.1 e).1);clear h65 hui;go_wp2_with fail;go_meet;case rel=>rw[HLW.o,HUP.o];exact⟨rfl,rfl⟩
     case rest=>
      obtain⟨rfl,hwc⟩:=hcut;subst hwc;cases hlu:(Zba c||upB c)with
       |true=>
        have HTOK:=zh (show Zam (c::r)=1+lows r by rw[Zbc,if_pos hlu]);clear hlu hj;have hcr:lows r<=r.length:=(List.takeWhile_sublist _).length_le;have HCR:=zh hcr;clear hcr;go_wp2_with fail;go_loopw[8](fun nv wx=>∃n:Nat,nv= .int .i64 (n:Int)/\1<=n/\n<=1+lows r/\wx=wc)(fun nv _=>s.length - (intOf nv).toNat);case atStart=>exact⟨1,rfl,zL _,by omega,rfl⟩
        case round=>
         obtain⟨n,rfl,hn1,hn2,rfl⟩:=hrel;have hn0:(0:Int)<=(n:Int):=zN _;obtain⟨m,hm⟩:∃m:Nat,m=k+n:=⟨_,rfl⟩;have hkm:(k:Int)+(n:Int)=(m:Int):=by omega
         have HM:=zh hm;have HN12:=zh (And.intro hn1 hn2);clear hm hn1 hn2;by_cases hmS:m<S.size
         ·have hmd:decide (m<S.size)=true:=decide_eq_true hmS;have hq:n - 1<r.length:=by have h1:=HRL.o;have h2:=HM.o;have h3:=HZ.o;have h4:=HN12.o;omega
          have HGM:=zh (HRG.o (n - 1) hq m hmS (by have h2:=HM.o;have h4:=HN12.o;omega));have HTW:=zh (ZaM (p:=Zba) r (n - 1) hq (by have h4:=HN12.o.2;unfold lows at h4;omega));have HNR:=zh (show m<s.length by have h3:=HZ.o;omega);go_wp2_with fail;refine(Zdm S[m] _).mono ?_;rintro e w3⟨rfl,rfl⟩;rw[show Zba S[m]=Zba r[n - 1]by rw[HGM.o]];cases hlw:Zba r[n - 1]with
           |true=>
            have HGO:=zh (HTW.o.2 hlw);clear hlw;go_wp2_with fail;go_roundw;case rel=>exact⟨n+1,by go_num,by omega,by have h4:=HN12.o;have h5:=HGO.o;unfold lows;omega,by first|rfl|trivial⟩
            case measure=>have h1:=HM.o;have h2:=HNR.o;simp[intOf];omega
           |false=>
            have HN:=zh (show n=Zam (c::r)by
             have h4:=HN12.o;have h5:¬n - 1+1<=(r.takeWhile Zba).length:=fun e=>by have :=HTW.o.1 e;rw[hlw]at this;cases this
             rw[HTOK.o];unfold lows at h4 ⊢;omega);have HNB:=zh (show 1<=n/\m<=s.length from⟨HN12.o.1,Nat.le_of_lt HNR.o⟩);clear hlw;have hmS2:m<=S.size:=by rw[HZ.o];exact HNB.o.2
            have hkm2:k<=m:=by have :=HM.o;omega
            have HX:=zh (show S.extract k m=bs ((s.drop k).take n)by rw[HS.o,Zar,HM.o];congr 2;omega);have HTL:=zh (show((s.drop k).take n).length<=2000 by rw[List.length_take,List.length_drop];have :=HLN.o;omega);have HDL:=zh (show done.length<4194304 by have :=HT.o.len;have :=HLN.o;have :=HNB.o;have :=HM.o;omega);go_wp2_with(at_builtin;go_must(refine Zau rfl (.tmp 100) (.tmp 107) 39 rfl w.heap.size 9 1 16 ZbZ Zas (A:=fun _=>True) (.slice pa done.length pc) done rfl (OwnF.ownR ZaL HT.o.own _) ((s.drop k).take n) [.string (S.extract k m)] (by rfl) rfl ⟨by have :=HTL.o;unfold Zbk;omega,by rw[HX.o];rfl⟩ ⟨HDL.o,HT.o.bel.size⟩ ?_);go_must(intro v2 w2 hown hgrew;obtain⟨va2,vc2,hv2, -⟩:=OwnR.val' hown;rw[show(done++[(s.drop k).take n]).length=done.length+1 by simp]at hv2;subst hv2;have HW:=zh (HT.o.next HD.o HSP.o HN.o (by have :=HNB.o.1;omega) (OwnF.of_ownR hown) hgrew);rw[<-HM.o]at HW;clear hown hgrew));go_roundw;case rel=>exact⟨m,_,rfl,HNB.o.2,HW.o⟩
            case measure=>have :=HM.o;have :=HNB.o;simp[intOf];omega
         ·have hmd:decide (m<S.size)=false:=decide_eq_false hmS;have hmd':¬(m:Int)<(S.size:Int):=by omega
          have HN:=zh (show n=Zam (c::r)by have h4:=HN12.o;have h5:=HRL.o;have h6:=HM.o;have h7:=HZ.o;have h8:=HCR.o;rw[HTOK.o];omega);have HNB:=zh (show 1<=n/\m<=s.length from⟨HN12.o.1,by have h4:=HN12.o;have h5:=HRL.o;have h6:=HM.o;have h8:=HCR.o;omega⟩);clear hmS;have hmS2:m<=S.size:=by rw[HZ.o];exact HNB.o.2
          have hkm2:k<=m:=by have :=HM.o;omega
          have HX:=zh (show S.extract k m=bs ((s.drop k).take n)by rw[HS.o,Zar,HM.o];congr 2;omega);have HTL:=zh (show((s.drop k).take n).length<=2000 by rw[List.length_take,List.length_drop];have :=HLN.o;omega);have HDL:=zh (show done.length<4194304 by have :=HT.o.len;have :=HLN.o;have :=HNB.o;have :=HM.o;omega);go_wp2_with(at_builtin;go_must(refine Zau rfl (.tmp 100) (.tmp 107) 39 rfl w.heap.size 9 1 16 ZbZ Zas (A:=fun _=>True) (.slice pa done.length pc) done rfl (OwnF.ownR ZaL HT.o.own _) ((s.drop k).take n) [.string (S.extract k m)] (by rfl) rfl ⟨by have :=HTL.o;unfold Zbk;omega,by rw[HX.o];rfl⟩ ⟨HDL.o,HT.o.bel.size⟩ ?_);go_must(intro v2 w2 hown hgrew;obtain⟨va2,vc2,hv2, -⟩:=OwnR.val' hown;rw[show(done++[(s.drop k).take n]).length=done.length+1 by simp]at hv2;subst hv2;have HW:=zh (HT.o.next HD.o HSP.o HN.o (by have :=HNB.o.1;omega) (OwnF.of_ownR hown) hgrew);rw[<-HM.o]at HW;clear hown hgrew));go_roundw;case rel=>exact⟨m,_,rfl,HNB.o.2,HW.o⟩
          case measure=>have :=HM.o;have :=HNB.o;simp[intOf];omega
       |false=>
        have HLU:=zh hlu;clear hlu hj;go_upto_region 14 with fail;go_cut[54](fun o wx=>o= .bool (ZaR c||c==45)/\wx=wc);case first=>
         go_wp2_with fail;refine(Zdn S[k] _).mono ?_;rintro e w3⟨rfl,rfl⟩;rw[show ZaR S[k]=ZaR c by rw[HG.o]];cases hdg:ZaR c with
          |true=>have HDG:=zh hdg;clear hdg;go_wp2_with fail;go_meet;case rel=>rw[HDG.o];exact⟨rfl,rfl⟩
          |false=>
           have HDG:=zh hdg;clear hdg;by_cases h45:c=45
           ·have f1:((S[k].toNat:Int)==(45:Int))=true:=by rw[HG.o,h45];rfl
            have HE:=zh (show(c==45)=true by rw[h45];rfl);clear h45;go_wp2_with fail;go_meet;case rel=>rw[HDG.o,HE.o];exact⟨rfl,rfl⟩
           ·have f1:((S[k].toNat:Int)==(45:Int))=false:=by rw[HG.o,beq_eq_false_iff_ne];exact fun e=>h45 (UInt8.toNat_inj.1 (by have e45:(45:UInt8).toNat=45:=rfl;omega))
            have HE:=zh (show(c==45)=false from beq_eq_false_iff_ne.2 h45);clear h45;go_wp2_with fail;go_meet;case rel=>rw[HDG.o,HE.o];exact⟨rfl,rfl⟩
        case rest=>
         obtain⟨rfl,hwc⟩:=hcut;subst hwc;cases hdn:(ZaR c||c==45)with
          |true=>
           have HTOK:=zh (show Zam (c::r)=1+digs r by rw[Zbc,if_neg (by rw[HLU.o];simp),if_pos hdn]);clear hdn;have hcr:digs r<=r.length:=(List.takeWhile_sublist _).length_le;have HCR:=zh hcr;clear hcr;go_wp2_with fail;go_loopw[8](fun nv wx=>∃n:Nat,nv= .int .i64 (n:Int)/\1<=n/\n<=1+digs r/\wx=wc)(fun nv _=>s.length - (intOf nv).toNat);case atStart=>exact⟨1,rfl,zL _,by omega,rfl⟩
           case round=>
            obtain⟨n,rfl,hn1,hn2,rfl⟩:=hrel;have hn0:(0:Int)<=(n:Int):=zN _;obtain⟨m,hm⟩:∃m:Nat,m=k+n:=⟨_,rfl⟩;have hkm:(k:Int)+(n:Int)=(m:Int):=by omega
            have HM:=zh hm;have HN12:=zh (And.intro hn1 hn2);clear hm hn1 hn2;by_cases hmS:m<S.size
            ·have hmd:decide (m<S.size)=true:=decide_eq_true hmS;have hq:n - 1<r.length:=by have h1:=HRL.o;have h2:=HM.o;have h3:=HZ.o;have h4:=HN12.o;omega
             have HGM:=zh (HRG.o (n - 1) hq m hmS (by have h2:=HM.o;have h4:=HN12.o;omega));have HTW:=zh (ZaM (p:=ZaR) r (n - 1) hq (by have h4:=HN12.o.2;unfold digs at h4;omega));have HNR:=zh (show m<s.length by have h3:=HZ.o;omega);go_wp2_with fail;refine(Zdn S[m] _).mono ?_;rintro e w3⟨rfl,rfl⟩;rw[show ZaR S[m]=ZaR r[n - 1]by rw[HGM.o]];cases hlw:ZaR r[n - 1]with
              |true=>
               have HGO:=zh (HTW.o.2 hlw);clear hlw;go_wp2_with fail;go_roundw;case rel=>exact⟨n+1,by go_num,by omega,by have h4:=HN12.o;have h5:=HGO.o;unfold digs;omega,by first|rfl|trivial⟩
               case measure=>have h1:=HM.o;have h2:=HNR.o;simp[intOf];omega
              |false=>
               have HN:=zh (show n=Zam (c::r)by
                have h4:=HN12.o;have h5:¬n - 1+1<=(r.takeWhile ZaR).length:=fun e=>by have :=HTW.o.1 e;rw[hlw]at this;cases this
                rw[HTOK.o];unfold digs at h4 ⊢;omega);have HNB:=zh (show 1<=n/\m<=s.length from⟨HN12.o.1,Nat.le_of_lt HNR.o⟩);clear hlw;have hmS2:m<=S.size:=by rw[HZ.o];exact HNB.o.2
               have hkm2:k<=m:=by have :=HM.o;omega
               have HX:=zh (show S.extract k m=bs ((s.drop k).take n)by rw[HS.o,Zar,HM.o];congr 2;omega);have HTL:=zh (show((s.drop k).take n).length<=2000 by rw[List.length_take,List.length_drop];have :=HLN.o;omega);have HDL:=zh (show done.length<4194304 by have :=HT.o.len;have :=HLN.o;have :=HNB.o;have :=HM.o;omega);go_wp2_with(at_builtin;go_must(refine Zau rfl (.tmp 100) (.tmp 107) 39 rfl w.heap.size 9 1 16 ZbZ Zas (A:=fun _=>True) (.slice pa done.length pc) done rfl (OwnF.ownR ZaL HT.o.own _) ((s.drop k).take n) [.string (S.extract k m)] (by rfl) rfl ⟨by have :=HTL.o;unfold Zbk;omega,by rw[HX.o];rfl⟩ ⟨HDL.o,HT.o.bel.size⟩ ?_);go_must(intro v2 w2 hown hgrew;obtain⟨va2,vc2,hv2, -⟩:=OwnR.val' hown;rw[show(done++[(s.drop k).take n]).length=done.length+1 by simp]at hv2;subst hv2;have HW:=zh (HT.o.next HD.o HSP.o HN.o (by have :=HNB.o.1;omega) (OwnF.of_ownR hown) hgrew);rw[<-HM.o]at HW;clear hown hgrew));go_roundw;case rel=>exact⟨m,_,rfl,HNB.o.2,HW.o⟩
               case measure=>have :=HM.o;have :=HNB.o;simp[intOf];omega
            ·have hmd:decide (m<S.size)=false:=decide_eq_false hmS;have hmd':¬(m:Int)<(S.size:Int):=by omega
             have HN:=zh (show n=Zam (c::r)by have h4:=HN12.o;have h5:=HRL.o;have h6:=HM.o;have h7:=HZ.o;have h8:=HCR.o;rw[HTOK.o];omega);have HNB:=zh (show 1<=n/\m<=s.length from⟨HN12.o.1,by have h4:=HN12.o;have h5:=HRL.o;have h6:=HM.o;have h8:=HCR.o;omega⟩);clear hmS;have hmS2:m<=S.size:=by rw[HZ.o];exact HNB.o.2
             have hkm2:k<=m:=by have :=HM.o;omega
             have HX:=zh (show S.extract k m=bs ((s.drop k).take n)by rw[HS.o,Zar,HM.o];congr 2;omega);have HTL:=zh (show((s.drop k).take n).length<=2000 by rw[List.length_take,List.length_drop];have :=HLN.o;omega);have HDL:=zh (show done.length<4194304 by have :=HT.o.len;have :=HLN.o;have :=HNB.o;have :=HM.o;omega);go_wp2_with(at_builtin;go_must(refine Zau rfl (.tmp 100) (.tmp 107) 39 rfl w.heap.size 9 1 16 ZbZ Zas (A:=fun _=>True) (.slice pa done.length pc) done rfl (OwnF.ownR ZaL HT.o.own _) ((s.drop k).take n) [.string (S.extract k m)] (by rfl) rfl ⟨by have :=HTL.o;unfold Zbk;omega,by rw[HX.o];rfl⟩ ⟨HDL.o,HT.o.bel.size⟩ ?_);go_must(intro v2 w2 hown hgrew;obtain⟨va2,vc2,hv2, -⟩:=OwnR.val' hown;rw[show(done++[(s.drop k).take n]).length=done.length+1 by simp]at hv2;subst hv2;have HW:=zh (HT.o.next HD.o HSP.o HN.o (by have :=HNB.o.1;omega) (OwnF.of_ownR hown) hgrew);rw[<-HM.o]at HW;clear hown hgrew));go_roundw;case rel=>exact⟨m,_,rfl,HNB.o.2,HW.o⟩
             case measure=>have :=HM.o;have :=HNB.o;simp[intOf];omega
          |false=>
           have HDN:=zh hdn;clear hdn;obtain⟨nk,hnk⟩:∃nk,nk=decide (c=58/\r.head?=some 45):=⟨_,rfl⟩;have HNK:=zh hnk;clear hnk;go_upto_region 17 with fail;go_cut[79](fun o wx=>o= .bool nk/\wx=wc);case first=>
            by_cases h58:c=58
            ·have f1:((S[k].toNat:Int)==(58:Int))=true:=by rw[HG.o,h58];rfl
             obtain⟨m,hm⟩:∃m:Nat,m=k+1:=⟨_,rfl⟩;have hkm:(k:Int)+1=(m:Int):=by omega
             by_cases hmS:m<S.size
             ·have hmd:decide (m<S.size)=true:=decide_eq_true hmS;have hq:0<r.length:=by have h1:=HRL.o;have h3:=HZ.o;omega
              have hgm:=HRG.o 0 hq m hmS (by omega);by_cases h45:r[0]=45
              ·have f2:((S[m].toNat:Int)==(45:Int))=true:=by rw[hgm,h45];rfl
               have HE:=zh (show nk=true by rw[HNK.o];refine decide_eq_true ⟨h58,?_⟩;rw[<-h45];cases r with|nil=>simp at hq|cons a b=>rfl);clear h45 h58 hgm hm hq;go_wp2_with fail;go_meet;case rel=>rw[HE.o];exact⟨rfl,rfl⟩
              ·have f2:((S[m].toNat:Int)==(45:Int))=false:=by rw[hgm,beq_eq_false_iff_ne];exact fun e=>h45 (UInt8.toNat_inj.1 (by have e45:(45:UInt8).toNat=45:=rfl;omega))
               have HE:=zh (show nk=false by rw[HNK.o];refine decide_eq_false fun e=>h45 ?_;have :=e.2;cases r with|nil=>simp at hq|cons a b=>simpa using this);clear h45 h58 hgm hm hq;go_wp2_with fail;go_meet;case rel=>rw[HE.o];exact⟨rfl,rfl⟩
             ·have hmd:decide (m<S.size)=false:=decide_eq_false hmS;have hmd':¬(m:Int)<(S.size:Int):=by omega
              have HE:=zh (show nk=false by rw[HNK.o];refine decide_eq_false fun e=>?_;have :=e.2;cases r with|nil=>simp at this|cons a b=>have h1:=HRL.o;have h3:=HZ.o;simp only[List.length_cons]at h1;omega);clear h58 hm hmS;go_wp2_with fail;go_meet;case rel=>rw[HE.o];exact⟨rfl,rfl⟩
            ·have f1:((S[k].toNat:Int)==(58:Int))=false:=by rw[HG.o,beq_eq_false_iff_ne];exact fun e=>h58 (UInt8.toNat_inj.1 (by have e58:(58:UInt8).toNat=58:=rfl;omega))
             have HE:=zh (show nk=false by rw[HNK.o];exact decide_eq_false fun e=>h58 e.1);clear h58;go_wp2_with fail;go_meet;case rel=>rw[HE.o];exact⟨rfl,rfl⟩
           case rest=>
            obtain⟨rfl,hwc⟩:=hcut;subst hwc;cases hnk:nk with
             |true=>
              have hp:=of_decide_eq_true (HNK.o.symm.trans hnk);have HTOK:=zh (show Zam (c::r)=2 by rw[Zbc,if_neg (by rw[HLU.o];simp),if_neg (by rw[HDN.o];simp),if_pos hp]);have HRP:=zh (show 0<r.length by have :=hp.2;cases r with|nil=>simp at this|cons a b=>simp);clear hnk hp;obtain⟨n,hn⟩:∃n:Nat,n=2:=⟨_,rfl⟩;obtain⟨m,hm⟩:∃m:Nat,m=k+n:=⟨_,rfl⟩;have hkm:(k:Int)+2=(m:Int):=by omega
              have HM:=zh hm;have HN:=zh (show n=Zam (c::r)by rw[hn,HTOK.o]);have HNB:=zh (show 1<=n/\m<=s.length from⟨by omega,by have h1:=HRL.o;have h2:=HRP.o;omega⟩);clear hn hm;have hmS2:m<=S.size:=by rw[HZ.o];exact HNB.o.2
              have hkm2:k<=m:=by have :=HM.o;omega
              have HX:=zh (show S.extract k m=bs ((s.drop k).take n)by rw[HS.o,Zar,HM.o];congr 2;omega);have HTL:=zh (show((s.drop k).take n).length<=2000 by rw[List.length_take,List.length_drop];have :=HLN.o;omega);have HDL:=zh (show done.length<4194304 by have :=HT.o.len;have :=HLN.o;have :=HNB.o;have :=HM.o;omega);go_wp2_with(at_builtin;go_must(refine Zau rfl (.tmp 100) (.tmp 107) 39 rfl w.heap.size 9 1 16 ZbZ Zas (A:=fun _=>True) (.slice pa done.length pc) done rfl (OwnF.ownR ZaL HT.o.own _) ((s.drop k).take n) [.string (S.extract k m)] (by rfl) rfl ⟨by have :=HTL.o;unfold Zbk;omega,by rw[HX.o];rfl⟩ ⟨HDL.o,HT.o.bel.size⟩ ?_);go_must(intro v2 w2 hown hgrew;obtain⟨va2,vc2,hv2, -⟩:=OwnR.val' hown;rw[show(done++[(s.drop k).take n]).length=done.length+1 by simp]at hv2;subst hv2;have HW:=zh (HT.o.next HD.o HSP.o HN.o (by have :=HNB.o.1;omega) (OwnF.of_ownR hown) hgrew);rw[<-HM.o]at HW;clear hown hgrew));go_roundw;case rel=>exact⟨m,_,rfl,HNB.o.2,HW.o⟩
              case measure=>have :=HM.o;have :=HNB.o;simp[intOf];omega
             |false=>
              have hp:=of_decide_eq_false (HNK.o.symm.trans hnk);have HNP:=zh hp;clear hnk hp;go_wp2_with fail;refine(Zf1 S[k] _).mono ?_;rintro e w3⟨⟨j,rfl,hj⟩,rfl⟩;rw[HG.o]at hj;by_cases hsg:c=40\/c=41\/c=44\/c=46\/c=33
              ·rw[decide_eq_true hsg]at hj;have HTOK:=zh (show Zam (c::r)=1 by rw[Zbc,if_neg (by rw[HLU.o];simp),if_neg (by rw[HDN.o];simp),if_neg HNP.o,if_pos hsg]);clear hsg;obtain⟨n,hn⟩:∃n:Nat,n=1:=⟨_,rfl⟩;obtain⟨m,hm⟩:∃m:Nat,m=k+n:=⟨_,rfl⟩;have hkm:(k:Int)+1=(m:Int):=by omega
               have HM:=zh hm;have HN:=zh (show n=Zam (c::r)by rw[hn,HTOK.o]);have HNB:=zh (show 1<=n/\m<=s.length from⟨by omega,by have h1:=HRL.o;skip;omega⟩);clear hn hm;have hmS2:m<=S.size:=by rw[HZ.o];exact HNB.o.2
               have hkm2:k<=m:=by have :=HM.o;omega
               have HX:=zh (show S.extract k m=bs ((s.drop k).take n)by rw[HS.o,Zar,HM.o];congr 2;omega);have HTL:=zh (show((s.drop k).take n).length<=2000 by rw[List.length_take,List.length_drop];have :=HLN.o;omega);have HDL:=zh (show done.length<4194304 by have :=HT.o.len;have :=HLN.o;have :=HNB.o;have :=HM.o;omega);go_wp2_with(at_builtin;go_must(refine Zau rfl (.tmp 100) (.tmp 107) 39 rfl w.heap.size 9 1 16 ZbZ Zas (A:=fun _=>True) (.slice pa done.length pc) done rfl (OwnF.ownR ZaL HT.o.own _) ((s.drop k).take n) [.string (S.extract k m)] (by rfl) rfl ⟨by have :=HTL.o;unfold Zbk;omega,by rw[HX.o];rfl⟩ ⟨HDL.o,HT.o.bel.size⟩ ?_);go_must(intro v2 w2 hown hgrew;obtain⟨va2,vc2,hv2, -⟩:=OwnR.val' hown;rw[show(done++[(s.drop k).take n]).length=done.length+1 by simp]at hv2;subst hv2;have HW:=zh (HT.o.next HD.o HSP.o HN.o (by have :=HNB.o.1;omega) (OwnF.of_ownR hown) hgrew);rw[<-HM.o]at HW;clear hown hgrew));go_roundw;case rel=>exact⟨m,_,rfl,HNB.o.2,HW.o⟩
               case measure=>have :=HM.o;have :=HNB.o;simp[intOf];omega
              ·rw[decide_eq_false hsg]at hj;have HTOK:=zh (show Zam (c::r)=0 by rw[Zbc,if_neg (by rw[HLU.o];simp),if_neg (by rw[HDN.o];simp),if_neg HNP.o,if_neg hsg]);clear hsg;have HDL:=zh (show done.length<4194304 by have :=HT.o.len;have :=HLN.o;have :=HRL.o;omega);go_wp2_with(at_builtin;go_must(refine Zau rfl (.tmp 16) (.tmp 17) 39 rfl w.heap.size 9 1 16 ZbZ Zas (A:=fun _=>True) (.slice pa done.length pc) done rfl (OwnF.ownR ZaL HT.o.own _) [] [.string ⟨#[]⟩] (by rfl) rfl ⟨by unfold Zbk;simp,rfl⟩ ⟨HDL.o,HT.o.bel.size⟩ ?_);go_must(intro v2 w2 hown hgrew;have HW:=zh hown;have HGR:=zh hgrew;clear hown hgrew));go_ret;have h1:=HT.o.eq;rw[HD.o,ZbC HSP.o HTOK.o]at h1;rw[h1];have h2:=HT.o.len;have h3:=HLN.o;have h4:=HRL.o;have ho:=OwnF.of_ownR HW.o;exact⟨_,rfl,HGR.o.below (HT.o.bel.alloc HT.o.bel.size _) (by have :=HT.o.bel.size;simp only[World.size_alloc];omega) (fun k hk=>(HT.o.own.lt k hk).1),ho.sl ZaL ZcW (by simp only[List.length_append,List.length_singleton];omega) (fun b hb=>(ho.lt b hb).1)⟩
  ·have hke:k=s.length:=by have :=HK.o;omega
   subst hke;have hd:decide (s.length<S.size)=false:=decide_eq_false (by rw[HZ.o];omega);have hd':¬(s.length:Int)<(S.size:Int):=by rw[HZ.o];omega
   go_wp2_with fail;go_ret;have h1:=HT.o.eq;rw[List.drop_length,Zbn,List.append_nil]at h1;rw[h1];have h2:=HT.o.len;have h3:=HLN.o;exact⟨_,rfl,HT.o.bel,HT.o.own.sl ZaL ZcW (by omega) (fun b hb=>(HT.o.own.lt b hb).1)⟩
end Go.Proofs.YtlpmfkpefoegeacDoor
