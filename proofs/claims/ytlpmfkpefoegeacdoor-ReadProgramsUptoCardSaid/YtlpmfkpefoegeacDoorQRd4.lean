import Derived.Test.YtlpmfkpefoegeacDoorQRd3
import Derived.Test.YtlpmfkpefoegeacDoorQStrc
namespace Go.Proofs.YtlpmfkpefoegeacDoor
set_option maxRecDepth 100000
set_option maxHeartbeats 16000000
set_option linter.all false
open Go.RowKit
def ZgB(s:Str):Nat:=if s.head?=some 45 then 1 else 0
theorem Ze3(p:UInt8->Bool)(l:Str):l.take (l.takeWhile p).length=l.takeWhile p:=(List.prefix_iff_eq_take.1 (List.takeWhile_prefix p)).symm
theorem Ze4{p:UInt8->Bool}:∀(l:Str)(c:UInt8),c∈l.takeWhile p->p c=true
 |[],c,h=>by cases h
 |x::l,c,h=>by
  rw[List.takeWhile_cons]at h;cases hp:p x with
   |false=>rw[hp]at h;simp at h
   |true=>
    rw[hp]at h;simp only[if_true,List.mem_cons]at h;rcases h with rfl|h;·exact hp
    ·exact Ze4 l c h
theorem ZbR(c:UInt8)(r:Str):Zaf (c::r)=if c=45 then 1+digs r else digs (c::r):=rfl
theorem Zbq(s:Str):Zaf s<=s.length:=by cases s with|nil=>simp[Zaf]|cons c r=>have h1:digs r<=r.length:=(List.takeWhile_sublist _).length_le;have h2:digs (c::r)<=(c::r).length:=(List.takeWhile_sublist _).length_le;unfold Zaf;simp only[List.length_cons]at h2 ⊢;split<;>omega
theorem ZfU(s:Str):∃d,Digs d/\(s.take (Zaf s)=d\/s.take (Zaf s)=45::d):=by
 cases s with
  |nil=>exact⟨[],(fun c hc=>by cases hc),Or.inl rfl⟩
  |cons c r=>
   rw[ZbR];split;·rename_i h;refine⟨r.takeWhile ZaR,(fun c hc=>Ze4 _ c hc),Or.inr ?_⟩;rw[h,Nat.add_comm,List.take_succ_cons];unfold digs;rw[Ze3]
   ·refine⟨(c::r).takeWhile ZaR,(fun c hc=>Ze4 _ c hc),Or.inl ?_⟩;unfold digs;exact Ze3 _ _
theorem ZcB{s:Str}{k:Nat}(hj:ZgB s<=k)(hk:k<=Zaf s)(hl:k<s.length):k+1<=Zaf s↔ZaR s[k]=true:=by
 cases s with
  |nil=>simp at hl
  |cons c r=>
   unfold ZgB at hj;rw[ZbR]at hk ⊢;simp only[List.head?_cons,Option.some.injEq]at hj;by_cases h:c=45;·rw[if_pos h]at hj hk ⊢;cases k with|zero=>omega|succ k=>rw[List.getElem_cons_succ];have :=ZaM (p:=ZaR) r k (by simpa using hl) (by unfold digs at hk;omega);unfold digs;rw[<-this];omega
   ·rw[if_neg h]at hk ⊢;exact ZaM (p:=ZaR) (c::r) k hl hk
theorem Ze5{s:Str}:ZgB s<=Zaf s:=by cases s with|nil=>simp[ZgB,Zaf]|cons c r=>rw[ZbR];unfold ZgB;simp only[List.head?_cons,Option.some.injEq];split<;>omega
theorem dig_iff{c:UInt8}:ZaR c=true↔48<=(c.toNat:Int)/\(c.toNat:Int)<=57:=by unfold ZaR;simp;omega
def ZbB(s:Str):Option Int:=Za3 (s.take (Zaf s))
theorem Za0(s:Str):ZbB s=Zdd (s.take (Zaf s)):=by obtain⟨d,hd,ht⟩:=ZfU s;exact Zgy hd ht
theorem Zbr{t:Str}(h:∀k,Lib.atoiAll t≠ .ok k):Zdd t=none:=by
 unfold Zdd;split;·rename_i k hk;exact absurd hk (h k)
 ·rfl
theorem ZbI{t:Str}{k:Int}(h:Lib.atoiAll t= .ok k):Zdd t=if Lib.itoa k=t/\ -1099511627776<=k/\k<=1099511627776 then some k else none:=by unfold Zdd;rw[h]
theorem Za1{t:Str}{k:Int}(h:Lib.atoiAll t= .ok k):I64 k:=Lib.atoiAll_bounds h
section
variable {B base g : Nat} {vv : Value} {r : Rd} {w : World}
def Zai(B base g:Nat)(vv:Value)(r:Rd)(s:Str)(w:World)(e:Ending)(w':World):Prop:=match ZbB s with|some k=>e= .returned (.tuple #[.int .i64 k,.bool true])/\RdStep B base g vv {r with s:=s.drop (Zaf s)} w w'|none=>e= .returned (.tuple #[.int .i64 0,.bool false])/\RdStep B base g vv {r with s:=s} w w'
theorem nend{s:Str}{S:ByteArray}{k:Nat}(hS:S=bs s)(hk:k=Zaf s):S.extract k S.size=bs (s.drop (Zaf s)):=by rw[hS,Zar,Zab,hk,List.take_of_length_le (by simp)]
theorem Zes{s:Str}{S:ByteArray}{k:Nat}(hS:S=bs s)(hk:k=Zaf s):S.extract 0 k=bs (s.take (Zaf s)):=by rw[hS,Zar,hk];simp
theorem nset{s:Str}(h:RdI B base g vv {r with s:=s} w):RdStep B base g vv {r with s:=s.drop (Zaf s)} w (w.setCell ⟨g,0,none⟩ (.string (bs (s.drop (Zaf s))))):=h.setS (s.drop (Zaf s)) (by show _<=s.length;rw[List.length_drop];exact Nat.sub_le _ _)
theorem Ze6(c:UInt8)(rest:Str)(hc:c=45\/ZaR c=true)(hs:Zad r.s=c::rest)(h:RdI B base g vv r w):Calls Tryd.prog 43 #[.pointer (some ⟨g,0,none⟩)] w (Zai B base g vv r (c::rest) w):=by
 have HU:=zh h;have HSS:=zh hs;have HSP:=zh (ZaE h);obtain⟨s,hsc⟩:∃s,s=c::rest:=⟨_,rfl⟩;rw[<-hsc];have hpos:1<=Zaf s:=by rw[hsc];rw[ZcK hc];omega
 have hs0:0<s.length:=by rw[hsc];simp
 have hh:s[0]=c:=by subst hsc;rfl
 have hJ:ZgB s=if c=45 then 1 else 0:=by rw[hsc];unfold ZgB;simp
 have HSC:=zh hsc;have HPOS:=zh hpos;have HJ:=zh hJ;have HC:=zh hc;have HH:=zh hh;clear h hs hsc hpos hJ hc hh;go_enter Tryd.func43,Tryd.ntmps43;go_wp2_with fail;refine HSP.o.mono ?_;rintro e w1⟨rfl,v1,h1,c1,o1⟩;have h1':RdI B base g v1 {r with s:=s} w1:=by
  have e:r.space={r with s:=s}:=by unfold Rd.space;rw[HSS.o,HSC.o]
  rw[<-e];exact h1
 have HI:=zh h1';have HCH:=zh c1;have HV:=zh o1;obtain⟨b0,b1,b2,bf⟩:=h1'.cells;have hgl:=h1.lt.1;have hlen:=h1'.len;simp only at b0 b2 hlen;obtain⟨S,hS⟩:∃S,S=bs s:=⟨_,rfl⟩;rw[<-hS]at b0;have hz1:S.size=s.length:=by rw[hS,Zab]
 have HS:=zh hS;have HZ:=zh hz1;have hz2:S.size<=2000:=by omega
 have hsl:s.length<=2000:=by omega
 have hz0:0<S.size:=by omega
 have t1:S.toList.isEmpty=false:=by rw[hS,Zaa,HSC.o];rfl
 have t2:¬S.toList=[]:=by rw[hS,Zaa,HSC.o];simp
 have hg0:S[0]=c:=by have e:=HS.o;subst e;rw[ZbY s 0 (by rw[Zab];exact hs0)];exact HH.o
 have HG0:=zh hg0;clear h1 h1' c1 o1 hlen hS hz1 hg0;by_cases h45:c=45
 ·have hq:((S[0].toNat:Int)==(45:Int))=true:=by rw[HG0.o];rw[h45];rfl
  have HJ0:=zh (HJ.o.trans (if_pos h45));clear h45;go_wp2_with fail;go_loopw[4](fun i wr=>∃k:Nat,1<=k/\k<=Zaf s/\i= .int .i64 (k:Int)/\wr=w1)(fun i _=>s.length - (intOf i).toNat);case atStart=>exact⟨1,zL _,by have :=Ze5 (s:=s);rw[HJ0.o]at this;exact this,rfl,rfl⟩
  case round=>
   obtain⟨k,hj,hk,rfl,rfl⟩:=hrel;have hks:=Nat.le_trans hk (Zbq s);have hk0:(0:Int)<=(k:Int):=zN _;clear hq;by_cases hlt:k<s.length
   ·have hd:decide (k<S.size)=true:=by rw[HZ.o];simpa using hlt
    have hd':k<S.size:=by rw[HZ.o];exact hlt
    have hg1:S[k]=s[k]:=by have e:=HS.o;subst e;exact ZbY s k hd'
    have HG:=zh hg1;have HM:=zh (ZcB (by rw[HJ0.o];exact hj) hk hlt);clear hg1;have hcs:(48<=(s[k].toNat:Int)/\(s[k].toNat:Int)<=57)\/(s[k].toNat:Int)<48\/57<(s[k].toNat:Int):=by omega
    rcases hcs with h1|h1|h1
    ·obtain⟨h1,h2⟩:=h1;have f1:decide ((48:Int)<=(S[k].toNat:Int))=true:=by rw[HG.o];exact decide_eq_true (by omega)
     have f2:decide ((S[k].toNat:Int)<=(57:Int))=true:=by rw[HG.o];exact decide_eq_true (by omega)
     have hgo:=HM.o.2 (dig_iff.2 ⟨h1,h2⟩);have hle:=Nat.lt_of_lt_of_le (Nat.lt_of_succ_le hgo) (Zbq s);have HGO:=zh hgo;have hj2:1<=k+1:=by omega
     clear hgo hle h1 h2;go_wp2_with fail;go_roundw;case rel=>exact⟨k+1,hj2,HGO.o,by go_num,by first|rfl|trivial⟩
     case measure=>simp[intOf];omega
    ·have f1:decide ((48:Int)<=(S[k].toNat:Int))=false:=by rw[HG.o];exact decide_eq_false (by omega)
     have hno:¬k+1<=Zaf s:=fun e=>by have :=dig_iff.1 (HM.o.1 e);omega
     have hkw:k=Zaf s:=by omega
     clear h1;have HKW:=zh hkw;have hkp:0<k:=by rw[hkw];exact HPOS.o
     have hle:k<=S.size:=by rw[HZ.o];exact hks
     clear hno hkw;go_wp2_with fail;obtain⟨Tt,hT⟩:∃Tt,Tt=S.extract 0 k:=⟨_,rfl⟩;rw[<-hT];have HT:=zh (hT.trans (Zes HS.o HKW.o));have HTL:=zh (show Tt.data.toList=s.take (Zaf s)by rw[HT.o];exact ZbE _);have hts:Tt.size<=2000:=by rw[HT.o,Zab,List.length_take];omega
     have HTAB:=zh HI.o.tab.now;clear hT;refine(Zb5 Tt (by omega) _ HTAB.o.syn HTAB.o.rng).mono ?_;rintro e w2⟨hb2,hres⟩;rw[HTL.o]at hres;have HB2:=zh hb2;have HI2:=zh (HI.o.below hb2);have HCH2:=zh (HCH.o.tb hb2);obtain⟨b0,b1,b2,bf⟩:=(HI.o.below hb2).cells;have hgl:=(HI.o.below hb2).lt.1;simp only at b0 b2;rw[<-HS.o]at b0;rcases hres with⟨v,rfl,hv⟩|⟨v,tp,p,rfl,hv⟩
     ·have HVV:=zh hv;have hvb:=Za1 hv;have HVB:=zh hvb;clear hb2 hv;go_wp2_with fail;refine(ZbQ v HVB.o _ HI2.o.tab.now.pow).mono ?_;rintro e w3⟨rfl,hb3⟩;have HI3:=zh (HI2.o.below hb3);have HCH3:=zh (HCH2.o.tb hb3);obtain⟨b0,b1,b2,bf⟩:=(HI2.o.below hb3).cells;have hgl:=(HI2.o.below hb3).lt.1;simp only at b0 b2;rw[<-HS.o]at b0;have HF:=zh ((Za0 s).trans (ZbI HVV.o));have hvb0:=HVB.o.1;have hvb1:=HVB.o.2;by_cases hi:Lib.itoa v=s.take (Zaf s)
      ·have hE:(Lib.itoa v==Tt.toList)=true:=by rw[HT.o,Zaa,hi];simp
       have HIT:=zh hi;clear hi hb3;by_cases hlo:v< -1099511627776
       ·have g1:decide (v< -1099511627776)=true:=by simpa using hlo
        have HN:=zh (show ZbB s=none by rw[HF.o,if_neg (fun h=>by have :=h.2.1;omega)]);clear hlo;go_wp2_with fail;go_ret2;unfold Zai;rw[HN.o];exact⟨rfl,v1,HI3.o,HCH3.o,HV.o⟩
       ·have g1:decide (v< -1099511627776)=false:=by simpa using hlo
        by_cases hhi:1099511627776<v
        ·have g2:decide (1099511627776<v)=true:=by simpa using hhi
         have HN:=zh (show ZbB s=none by rw[HF.o,if_neg (fun h=>by have :=h.2.2;omega)]);clear hlo hhi;go_wp2_with fail;go_ret2;unfold Zai;rw[HN.o];exact⟨rfl,v1,HI3.o,HCH3.o,HV.o⟩
        ·have g2:decide (1099511627776<v)=false:=by simpa using hhi
         have HN:=zh (show ZbB s=some v by rw[HF.o,if_pos ⟨HIT.o,by omega,by omega⟩]);clear hlo hhi;go_wp2_with fail;go_ret2;unfold Zai;rw[HN.o,nend HS.o HKW.o];exact⟨rfl,RdStep.trans HCH3.o HV.o (nset HI3.o)⟩
      ·have hE:(Lib.itoa v==Tt.toList)=false:=by rw[HT.o,Zaa];simpa using hi
       have HN:=zh (show ZbB s=none by rw[HF.o,if_neg (fun h=>hi h.1)]);clear hi hb3;go_wp2_with fail;go_ret2;unfold Zai;rw[HN.o];exact⟨rfl,v1,HI3.o,HCH3.o,HV.o⟩
     ·have HN:=zh (show ZbB s=none from(Za0 s).trans (Zbr hv));clear hb2 hv;go_wp2_with fail;go_ret2;unfold Zai;rw[HN.o];exact⟨rfl,v1,HI2.o,HCH2.o,HV.o⟩
    ·have f1:decide ((48:Int)<=(S[k].toNat:Int))=true:=by rw[HG.o];exact decide_eq_true (by omega)
     have f2:decide ((S[k].toNat:Int)<=(57:Int))=false:=by rw[HG.o];exact decide_eq_false (by omega)
     have hno:¬k+1<=Zaf s:=fun e=>by have :=dig_iff.1 (HM.o.1 e);omega
     have hkw:k=Zaf s:=by omega
     clear h1;have HKW:=zh hkw;have hkp:0<k:=by rw[hkw];exact HPOS.o
     have hle:k<=S.size:=by rw[HZ.o];exact hks
     clear hno hkw;go_wp2_with fail;obtain⟨Tt,hT⟩:∃Tt,Tt=S.extract 0 k:=⟨_,rfl⟩;rw[<-hT];have HT:=zh (hT.trans (Zes HS.o HKW.o));have HTL:=zh (show Tt.data.toList=s.take (Zaf s)by rw[HT.o];exact ZbE _);have hts:Tt.size<=2000:=by rw[HT.o,Zab,List.length_take];omega
     have HTAB:=zh HI.o.tab.now;clear hT;refine(Zb5 Tt (by omega) _ HTAB.o.syn HTAB.o.rng).mono ?_;rintro e w2⟨hb2,hres⟩;rw[HTL.o]at hres;have HB2:=zh hb2;have HI2:=zh (HI.o.below hb2);have HCH2:=zh (HCH.o.tb hb2);obtain⟨b0,b1,b2,bf⟩:=(HI.o.below hb2).cells;have hgl:=(HI.o.below hb2).lt.1;simp only at b0 b2;rw[<-HS.o]at b0;rcases hres with⟨v,rfl,hv⟩|⟨v,tp,p,rfl,hv⟩
     ·have HVV:=zh hv;have hvb:=Za1 hv;have HVB:=zh hvb;clear hb2 hv;go_wp2_with fail;refine(ZbQ v HVB.o _ HI2.o.tab.now.pow).mono ?_;rintro e w3⟨rfl,hb3⟩;have HI3:=zh (HI2.o.below hb3);have HCH3:=zh (HCH2.o.tb hb3);obtain⟨b0,b1,b2,bf⟩:=(HI2.o.below hb3).cells;have hgl:=(HI2.o.below hb3).lt.1;simp only at b0 b2;rw[<-HS.o]at b0;have HF:=zh ((Za0 s).trans (ZbI HVV.o));have hvb0:=HVB.o.1;have hvb1:=HVB.o.2;by_cases hi:Lib.itoa v=s.take (Zaf s)
      ·have hE:(Lib.itoa v==Tt.toList)=true:=by rw[HT.o,Zaa,hi];simp
       have HIT:=zh hi;clear hi hb3;by_cases hlo:v< -1099511627776
       ·have g1:decide (v< -1099511627776)=true:=by simpa using hlo
        have HN:=zh (show ZbB s=none by rw[HF.o,if_neg (fun h=>by have :=h.2.1;omega)]);clear hlo;go_wp2_with fail;go_ret2;unfold Zai;rw[HN.o];exact⟨rfl,v1,HI3.o,HCH3.o,HV.o⟩
       ·have g1:decide (v< -1099511627776)=false:=by simpa using hlo
        by_cases hhi:1099511627776<v
        ·have g2:decide (1099511627776<v)=true:=by simpa using hhi
         have HN:=zh (show ZbB s=none by rw[HF.o,if_neg (fun h=>by have :=h.2.2;omega)]);clear hlo hhi;go_wp2_with fail;go_ret2;unfold Zai;rw[HN.o];exact⟨rfl,v1,HI3.o,HCH3.o,HV.o⟩
        ·have g2:decide (1099511627776<v)=false:=by simpa using hhi
         have HN:=zh (show ZbB s=some v by rw[HF.o,if_pos ⟨HIT.o,by omega,by omega⟩]);clear hlo hhi;go_wp2_with fail;go_ret2;unfold Zai;rw[HN.o,nend HS.o HKW.o];exact⟨rfl,RdStep.trans HCH3.o HV.o (nset HI3.o)⟩
      ·have hE:(Lib.itoa v==Tt.toList)=false:=by rw[HT.o,Zaa];simpa using hi
       have HN:=zh (show ZbB s=none by rw[HF.o,if_neg (fun h=>hi h.1)]);clear hi hb3;go_wp2_with fail;go_ret2;unfold Zai;rw[HN.o];exact⟨rfl,v1,HI3.o,HCH3.o,HV.o⟩
     ·have HN:=zh (show ZbB s=none from(Za0 s).trans (Zbr hv));clear hb2 hv;go_wp2_with fail;go_ret2;unfold Zai;rw[HN.o];exact⟨rfl,v1,HI2.o,HCH2.o,HV.o⟩
   ·have hd:decide (k<S.size)=false:=by rw[HZ.o];simpa using hlt
    have hno:True:=trivial;have hkw:k=Zaf s:=by have :=Zbq s;omega
    have HKW:=zh hkw;have hkp:0<k:=by rw[hkw];exact HPOS.o
    have hle:k<=S.size:=by rw[HZ.o];exact hks
    clear hno hkw;go_wp2_with fail;obtain⟨Tt,hT⟩:∃Tt,Tt=S.extract 0 k:=⟨_,rfl⟩;rw[<-hT];have HT:=zh (hT.trans (Zes HS.o HKW.o));have HTL:=zh (show Tt.data.toList=s.take (Zaf s)by rw[HT.o];exact ZbE _);have hts:Tt.size<=2000:=by rw[HT.o,Zab,List.length_take];omega
    have HTAB:=zh HI.o.tab.now;clear hT;refine(Zb5 Tt (by omega) _ HTAB.o.syn HTAB.o.rng).mono ?_;rintro e w2⟨hb2,hres⟩;rw[HTL.o]at hres;have HB2:=zh hb2;have HI2:=zh (HI.o.below hb2);have HCH2:=zh (HCH.o.tb hb2);obtain⟨b0,b1,b2,bf⟩:=(HI.o.below hb2).cells;have hgl:=(HI.o.below hb2).lt.1;simp only at b0 b2;rw[<-HS.o]at b0;rcases hres with⟨v,rfl,hv⟩|⟨v,tp,p,rfl,hv⟩
    ·have HVV:=zh hv;have hvb:=Za1 hv;have HVB:=zh hvb;clear hb2 hv;go_wp2_with fail;refine(ZbQ v HVB.o _ HI2.o.tab.now.pow).mono ?_;rintro e w3⟨rfl,hb3⟩;have HI3:=zh (HI2.o.below hb3);have HCH3:=zh (HCH2.o.tb hb3);obtain⟨b0,b1,b2,bf⟩:=(HI2.o.below hb3).cells;have hgl:=(HI2.o.below hb3).lt.1;simp only at b0 b2;rw[<-HS.o]at b0;have HF:=zh ((Za0 s).trans (ZbI HVV.o));have hvb0:=HVB.o.1;have hvb1:=HVB.o.2;by_cases hi:Lib.itoa v=s.take (Zaf s)
     ·have hE:(Lib.itoa v==Tt.toList)=true:=by rw[HT.o,Zaa,hi];simp
      have HIT:=zh hi;clear hi hb3;by_cases hlo:v< -1099511627776
      ·have g1:decide (v< -1099511627776)=true:=by simpa using hlo
       have HN:=zh (show ZbB s=none by rw[HF.o,if_neg (fun h=>by have :=h.2.1;omega)]);clear hlo;go_wp2_with fail;go_ret2;unfold Zai;rw[HN.o];exact⟨rfl,v1,HI3.o,HCH3.o,HV.o⟩
      ·have g1:decide (v< -1099511627776)=false:=by simpa using hlo
       by_cases hhi:1099511627776<v
       ·have g2:decide (1099511627776<v)=true:=by simpa using hhi
        have HN:=zh (show ZbB s=none by rw[HF.o,if_neg (fun h=>by have :=h.2.2;omega)]);clear hlo hhi;go_wp2_with fail;go_ret2;unfold Zai;rw[HN.o];exact⟨rfl,v1,HI3.o,HCH3.o,HV.o⟩
       ·have g2:decide (1099511627776<v)=false:=by simpa using hhi
        have HN:=zh (show ZbB s=some v by rw[HF.o,if_pos ⟨HIT.o,by omega,by omega⟩]);clear hlo hhi;go_wp2_with fail;go_ret2;unfold Zai;rw[HN.o,nend HS.o HKW.o];exact⟨rfl,RdStep.trans HCH3.o HV.o (nset HI3.o)⟩
     ·have hE:(Lib.itoa v==Tt.toList)=false:=by rw[HT.o,Zaa];simpa using hi
      have HN:=zh (show ZbB s=none by rw[HF.o,if_neg (fun h=>hi h.1)]);clear hi hb3;go_wp2_with fail;go_ret2;unfold Zai;rw[HN.o];exact⟨rfl,v1,HI3.o,HCH3.o,HV.o⟩
    ·have HN:=zh (show ZbB s=none from(Za0 s).trans (Zbr hv));clear hb2 hv;go_wp2_with fail;go_ret2;unfold Zai;rw[HN.o];exact⟨rfl,v1,HI2.o,HCH2.o,HV.o⟩
 ·have hq:((S[0].toNat:Int)==(45:Int))=false:=by rw[HG0.o];rw[beq_eq_false_iff_ne];intro e;apply h45;exact UInt8.toNat_inj.1 (by have e45:(45:UInt8).toNat=45:=rfl;omega)
  have HJ0:=zh (HJ.o.trans (if_neg h45));clear h45;go_wp2_with fail;go_loopw[4](fun i wr=>∃k:Nat,0<=k/\k<=Zaf s/\i= .int .i64 (k:Int)/\wr=w1)(fun i _=>s.length - (intOf i).toNat);case atStart=>exact⟨0,zL _,by have :=Ze5 (s:=s);rw[HJ0.o]at this;exact this,rfl,rfl⟩
  case round=>
   obtain⟨k,hj,hk,rfl,rfl⟩:=hrel;have hks:=Nat.le_trans hk (Zbq s);have hk0:(0:Int)<=(k:Int):=zN _;clear hq;by_cases hlt:k<s.length
   ·have hd:decide (k<S.size)=true:=by rw[HZ.o];simpa using hlt
    have hd':k<S.size:=by rw[HZ.o];exact hlt
    have hg1:S[k]=s[k]:=by have e:=HS.o;subst e;exact ZbY s k hd'
    have HG:=zh hg1;have HM:=zh (ZcB (by rw[HJ0.o];exact hj) hk hlt);clear hg1;have hcs:(48<=(s[k].toNat:Int)/\(s[k].toNat:Int)<=57)\/(s[k].toNat:Int)<48\/57<(s[k].toNat:Int):=by omega
    rcases hcs with h1|h1|h1
    ·obtain⟨h1,h2⟩:=h1;have f1:decide ((48:Int)<=(S[k].toNat:Int))=true:=by rw[HG.o];exact decide_eq_true (by omega)
     have f2:decide ((S[k].toNat:Int)<=(57:Int))=true:=by rw[HG.o];exact decide_eq_true (by omega)
     have hgo:=HM.o.2 (dig_iff.2 ⟨h1,h2⟩);have hle:=Nat.lt_of_lt_of_le (Nat.lt_of_succ_le hgo) (Zbq s);have HGO:=zh hgo;have hj2:0<=k+1:=by omega
     clear hgo hle h1 h2;go_wp2_with fail;go_roundw;case rel=>exact⟨k+1,hj2,HGO.o,by go_num,by first|rfl|trivial⟩
     case measure=>simp[intOf];omega
    ·have f1:decide ((48:Int)<=(S[k].toNat:Int))=false:=by rw[HG.o];exact decide_eq_false (by omega)
     have hno:¬k+1<=Zaf s:=fun e=>by have :=dig_iff.1 (HM.o.1 e);omega
     have hkw:k=Zaf s:=by omega
     clear h1;have HKW:=zh hkw;have hkp:0<k:=by rw[hkw];exact HPOS.o
     have hle:k<=S.size:=by rw[HZ.o];exact hks
     clear hno hkw;go_wp2_with fail;obtain⟨Tt,hT⟩:∃Tt,Tt=S.extract 0 k:=⟨_,rfl⟩;rw[<-hT];have HT:=zh (hT.trans (Zes HS.o HKW.o));have HTL:=zh (show Tt.data.toList=s.take (Zaf s)by rw[HT.o];exact ZbE _);have hts:Tt.size<=2000:=by rw[HT.o,Zab,List.length_take];omega
     have HTAB:=zh HI.o.tab.now;clear hT;refine(Zb5 Tt (by omega) _ HTAB.o.syn HTAB.o.rng).mono ?_;rintro e w2⟨hb2,hres⟩;rw[HTL.o]at hres;have HB2:=zh hb2;have HI2:=zh (HI.o.below hb2);have HCH2:=zh (HCH.o.tb hb2);obtain⟨b0,b1,b2,bf⟩:=(HI.o.below hb2).cells;have hgl:=(HI.o.below hb2).lt.1;simp only at b0 b2;rw[<-HS.o]at b0;rcases hres with⟨v,rfl,hv⟩|⟨v,tp,p,rfl,hv⟩
     ·have HVV:=zh hv;have hvb:=Za1 hv;have HVB:=zh hvb;clear hb2 hv;go_wp2_with fail;refine(ZbQ v HVB.o _ HI2.o.tab.now.pow).mono ?_;rintro e w3⟨rfl,hb3⟩;have HI3:=zh (HI2.o.below hb3);have HCH3:=zh (HCH2.o.tb hb3);obtain⟨b0,b1,b2,bf⟩:=(HI2.o.below hb3).cells;have hgl:=(HI2.o.below hb3).lt.1;simp only at b0 b2;rw[<-HS.o]at b0;have HF:=zh ((Za0 s).trans (ZbI HVV.o));have hvb0:=HVB.o.1;have hvb1:=HVB.o.2;by_cases hi:Lib.itoa v=s.take (Zaf s)
      ·have hE:(Lib.itoa v==Tt.toList)=true:=by rw[HT.o,Zaa,hi];simp
       have HIT:=zh hi;clear hi hb3;by_cases hlo:v< -1099511627776
       ·have g1:decide (v< -1099511627776)=true:=by simpa using hlo
        have HN:=zh (show ZbB s=none by rw[HF.o,if_neg (fun h=>by have :=h.2.1;omega)]);clear hlo;go_wp2_with fail;go_ret2;unfold Zai;rw[HN.o];exact⟨rfl,v1,HI3.o,HCH3.o,HV.o⟩
       ·have g1:decide (v< -1099511627776)=false:=by simpa using hlo
        by_cases hhi:1099511627776<v
        ·have g2:decide (1099511627776<v)=true:=by simpa using hhi
         have HN:=zh (show ZbB s=none by rw[HF.o,if_neg (fun h=>by have :=h.2.2;omega)]);clear hlo hhi;go_wp2_with fail;go_ret2;unfold Zai;rw[HN.o];exact⟨rfl,v1,HI3.o,HCH3.o,HV.o⟩
        ·have g2:decide (1099511627776<v)=false:=by simpa using hhi
         have HN:=zh (show ZbB s=some v by rw[HF.o,if_pos ⟨HIT.o,by omega,by omega⟩]);clear hlo hhi;go_wp2_with fail;go_ret2;unfold Zai;rw[HN.o,nend HS.o HKW.o];exact⟨rfl,RdStep.trans HCH3.o HV.o (nset HI3.o)⟩
      ·have hE:(Lib.itoa v==Tt.toList)=false:=by rw[HT.o,Zaa];simpa using hi
       have HN:=zh (show ZbB s=none by rw[HF.o,if_neg (fun h=>hi h.1)]);clear hi hb3;go_wp2_with fail;go_ret2;unfold Zai;rw[HN.o];exact⟨rfl,v1,HI3.o,HCH3.o,HV.o⟩
     ·have HN:=zh (show ZbB s=none from(Za0 s).trans (Zbr hv));clear hb2 hv;go_wp2_with fail;go_ret2;unfold Zai;rw[HN.o];exact⟨rfl,v1,HI2.o,HCH2.o,HV.o⟩
    ·have f1:decide ((48:Int)<=(S[k].toNat:Int))=true:=by rw[HG.o];exact decide_eq_true (by omega)
     have f2:decide ((S[k].toNat:Int)<=(57:Int))=false:=by rw[HG.o];exact decide_eq_false (by omega)
     have hno:¬k+1<=Zaf s:=fun e=>by have :=dig_iff.1 (HM.o.1 e);omega
     have hkw:k=Zaf s:=by omega
     clear h1;have HKW:=zh hkw;have hkp:0<k:=by rw[hkw];exact HPOS.o
     have hle:k<=S.size:=by rw[HZ.o];exact hks
     clear hno hkw;go_wp2_with fail;obtain⟨Tt,hT⟩:∃Tt,Tt=S.extract 0 k:=⟨_,rfl⟩;rw[<-hT];have HT:=zh (hT.trans (Zes HS.o HKW.o));have HTL:=zh (show Tt.data.toList=s.take (Zaf s)by rw[HT.o];exact ZbE _);have hts:Tt.size<=2000:=by rw[HT.o,Zab,List.length_take];omega
     have HTAB:=zh HI.o.tab.now;clear hT;refine(Zb5 Tt (by omega) _ HTAB.o.syn HTAB.o.rng).mono ?_;rintro e w2⟨hb2,hres⟩;rw[HTL.o]at hres;have HB2:=zh hb2;have HI2:=zh (HI.o.below hb2);have HCH2:=zh (HCH.o.tb hb2);obtain⟨b0,b1,b2,bf⟩:=(HI.o.below hb2).cells;have hgl:=(HI.o.below hb2).lt.1;simp only at b0 b2;rw[<-HS.o]at b0;rcases hres with⟨v,rfl,hv⟩|⟨v,tp,p,rfl,hv⟩
     ·have HVV:=zh hv;have hvb:=Za1 hv;have HVB:=zh hvb;clear hb2 hv;go_wp2_with fail;refine(ZbQ v HVB.o _ HI2.o.tab.now.pow).mono ?_;rintro e w3⟨rfl,hb3⟩;have HI3:=zh (HI2.o.below hb3);have HCH3:=zh (HCH2.o.tb hb3);obtain⟨b0,b1,b2,bf⟩:=(HI2.o.below hb3).cells;have hgl:=(HI2.o.below hb3).lt.1;simp only at b0 b2;rw[<-HS.o]at b0;have HF:=zh ((Za0 s).trans (ZbI HVV.o));have hvb0:=HVB.o.1;have hvb1:=HVB.o.2;by_cases hi:Lib.itoa v=s.take (Zaf s)
      ·have hE:(Lib.itoa v==Tt.toList)=true:=by rw[HT.o,Zaa,hi];simp
       have HIT:=zh hi;clear hi hb3;by_cases hlo:v< -1099511627776
       ·have g1:decide (v< -1099511627776)=true:=by simpa using hlo
        have HN:=zh (show ZbB s=none by rw[HF.o,if_neg (fun h=>by have :=h.2.1;omega)]);clear hlo;go_wp2_with fail;go_ret2;unfold Zai;rw[HN.o];exact⟨rfl,v1,HI3.o,HCH3.o,HV.o⟩
       ·have g1:decide (v< -1099511627776)=false:=by simpa using hlo
        by_cases hhi:1099511627776<v
        ·have g2:decide (1099511627776<v)=true:=by simpa using hhi
         have HN:=zh (show ZbB s=none by rw[HF.o,if_neg (fun h=>by have :=h.2.2;omega)]);clear hlo hhi;go_wp2_with fail;go_ret2;unfold Zai;rw[HN.o];exact⟨rfl,v1,HI3.o,HCH3.o,HV.o⟩
        ·have g2:decide (1099511627776<v)=false:=by simpa using hhi
         have HN:=zh (show ZbB s=some v by rw[HF.o,if_pos ⟨HIT.o,by omega,by omega⟩]);clear hlo hhi;go_wp2_with fail;go_ret2;unfold Zai;rw[HN.o,nend HS.o HKW.o];exact⟨rfl,RdStep.trans HCH3.o HV.o (nset HI3.o)⟩
      ·have hE:(Lib.itoa v==Tt.toList)=false:=by rw[HT.o,Zaa];simpa using hi
       have HN:=zh (show ZbB s=none by rw[HF.o,if_neg (fun h=>hi h.1)]);clear hi hb3;go_wp2_with fail;go_ret2;unfold Zai;rw[HN.o];exact⟨rfl,v1,HI3.o,HCH3.o,HV.o⟩
     ·have HN:=zh (show ZbB s=none from(Za0 s).trans (Zbr hv));clear hb2 hv;go_wp2_with fail;go_ret2;unfold Zai;rw[HN.o];exact⟨rfl,v1,HI2.o,HCH2.o,HV.o⟩
   ·have hd:decide (k<S.size)=false:=by rw[HZ.o];simpa using hlt
    have hno:True:=trivial;have hkw:k=Zaf s:=by have :=Zbq s;omega
    have HKW:=zh hkw;have hkp:0<k:=by rw[hkw];exact HPOS.o
    have hle:k<=S.size:=by rw[HZ.o];exact hks
    clear hno hkw;go_wp2_with fail;obtain⟨Tt,hT⟩:∃Tt,Tt=S.extract 0 k:=⟨_,rfl⟩;rw[<-hT];have HT:=zh (hT.trans (Zes HS.o HKW.o));have HTL:=zh (show Tt.data.toList=s.take (Zaf s)by rw[HT.o];exact ZbE _);have hts:Tt.size<=2000:=by rw[HT.o,Zab,List.length_take];omega
    have HTAB:=zh HI.o.tab.now;clear hT;refine(Zb5 Tt (by omega) _ HTAB.o.syn HTAB.o.rng).mono ?_;rintro e w2⟨hb2,hres⟩;rw[HTL.o]at hres;have HB2:=zh hb2;have HI2:=zh (HI.o.below hb2);have HCH2:=zh (HCH.o.tb hb2);obtain⟨b0,b1,b2,bf⟩:=(HI.o.below hb2).cells;have hgl:=(HI.o.below hb2).lt.1;simp only at b0 b2;rw[<-HS.o]at b0;rcases hres with⟨v,rfl,hv⟩|⟨v,tp,p,rfl,hv⟩
    ·have HVV:=zh hv;have hvb:=Za1 hv;have HVB:=zh hvb;clear hb2 hv;go_wp2_with fail;refine(ZbQ v HVB.o _ HI2.o.tab.now.pow).mono ?_;rintro e w3⟨rfl,hb3⟩;have HI3:=zh (HI2.o.below hb3);have HCH3:=zh (HCH2.o.tb hb3);obtain⟨b0,b1,b2,bf⟩:=(HI2.o.below hb3).cells;have hgl:=(HI2.o.below hb3).lt.1;simp only at b0 b2;rw[<-HS.o]at b0;have HF:=zh ((Za0 s).trans (ZbI HVV.o));have hvb0:=HVB.o.1;have hvb1:=HVB.o.2;by_cases hi:Lib.itoa v=s.take (Zaf s)
     ·have hE:(Lib.itoa v==Tt.toList)=true:=by rw[HT.o,Zaa,hi];simp
      have HIT:=zh hi;clear hi hb3;by_cases hlo:v< -1099511627776
      ·have g1:decide (v< -1099511627776)=true:=by simpa using hlo
       have HN:=zh (show ZbB s=none by rw[HF.o,if_neg (fun h=>by have :=h.2.1;omega)]);clear hlo;go_wp2_with fail;go_ret2;unfold Zai;rw[HN.o];exact⟨rfl,v1,HI3.o,HCH3.o,HV.o⟩
      ·have g1:decide (v< -1099511627776)=false:=by simpa using hlo
       by_cases hhi:1099511627776<v
       ·have g2:decide (1099511627776<v)=true:=by simpa using hhi
        have HN:=zh (show ZbB s=none by rw[HF.o,if_neg (fun h=>by have :=h.2.2;omega)]);clear hlo hhi;go_wp2_with fail;go_ret2;unfold Zai;rw[HN.o];exact⟨rfl,v1,HI3.o,HCH3.o,HV.o⟩
       ·have g2:decide (1099511627776<v)=false:=by simpa using hhi
        have HN:=zh (show ZbB s=some v by rw[HF.o,if_pos ⟨HIT.o,by omega,by omega⟩]);clear hlo hhi;go_wp2_with fail;go_ret2;unfold Zai;rw[HN.o,nend HS.o HKW.o];exact⟨rfl,RdStep.trans HCH3.o HV.o (nset HI3.o)⟩
     ·have hE:(Lib.itoa v==Tt.toList)=false:=by rw[HT.o,Zaa];simpa using hi
      have HN:=zh (show ZbB s=none by rw[HF.o,if_neg (fun h=>hi h.1)]);clear hi hb3;go_wp2_with fail;go_ret2;unfold Zai;rw[HN.o];exact⟨rfl,v1,HI3.o,HCH3.o,HV.o⟩
    ·have HN:=zh (show ZbB s=none from(Za0 s).trans (Zbr hv));clear hb2 hv;go_wp2_with fail;go_ret2;unfold Zai;rw[HN.o];exact⟨rfl,v1,HI2.o,HCH2.o,HV.o⟩
end
end Go.Proofs.YtlpmfkpefoegeacDoor
