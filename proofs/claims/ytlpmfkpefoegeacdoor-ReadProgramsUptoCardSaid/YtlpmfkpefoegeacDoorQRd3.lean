import Derived.Test.YtlpmfkpefoegeacDoorQRd1
namespace Go.Proofs.YtlpmfkpefoegeacDoor
set_option maxRecDepth 100000
set_option maxHeartbeats 16000000
set_option linter.all false
open Go.RowKit
theorem Zci:(bs []).toList.isEmpty=true/\(bs []).toList=[]:=by rw[Zaa];exact⟨rfl,rfl⟩
theorem Zdg(c:UInt8)(l:Str):(bs (c::l)).toList.isEmpty=false/\¬(bs (c::l)).toList=[]/\0<(bs (c::l)).size:=by rw[Zaa,Zab];exact⟨rfl,by simp,by simp⟩
theorem ZaQ(c:UInt8)(l:Str)(h:0<(bs (c::l)).size):(bs (c::l))[0]=c:=ZbY _ _ h
theorem ZbF(c:UInt8)(l:Str):(bs (c::l)).extract 1 (bs (c::l)).size=bs l:=by rw[Zar,Zab,List.drop_succ_cons,List.drop_zero,List.take_of_length_le (by simp)]
theorem sp_iff{c:UInt8}:spB c=true↔((c.toNat:Int)=32\/(c.toNat:Int)=10\/(c.toNat:Int)=9\/(c.toNat:Int)=13):=by
 have hsp:∀n:UInt8,(c==n)=decide (c.toNat=n.toNat):=fun n=>by rw[Bool.eq_iff_iff,beq_iff_eq,decide_eq_true_eq,UInt8.toNat_inj]
 unfold spB;simp only[hsp,Bool.or_eq_true,decide_eq_true_eq];have e3:(32:UInt8).toNat=32:=rfl;have e4:(10:UInt8).toNat=10:=rfl;have e5:(9:UInt8).toNat=9:=rfl;have e6:(13:UInt8).toNat=13:=rfl;rw[e3,e4,e5,e6];omega
theorem Zb0{c:UInt8}{l:Str}(h:spB c=true):Zad (c::l)=Zad l:=by unfold Zad;rw[List.dropWhile_cons,if_pos h]
theorem Ze2{c:UInt8}{l:Str}(h:¬spB c=true):Zad (c::l)=c::l:=by unfold Zad;rw[List.dropWhile_cons,if_neg h]
section
variable {B base g : Nat} {vv : Value} {r : Rd} {w : World}
theorem ZaE(h:RdI B base g vv r w):Calls Tryd.prog 24 #[.pointer (some ⟨g,0,none⟩)] w (fun e w'=>e= .returned (.tuple #[])/\RdStep B base g vv r.space w w'):=by
 have HU:=zh h;clear h;go_enter Tryd.func24,Tryd.ntmps24;go_wp2_with fail;go_loopw[](fun wr=>∃s:Str,Zad s=Zad r.s/\RdStep B base g vv {r with s:=s} w wr)(fun wr=>Zd7 g wr);case atStart=>exact⟨r.s,rfl,RdStep.refl HU.o⟩
 case round=>
  obtain⟨s,hs,v1,hI,hch,hv⟩:=hrel;have HI:=zh hI;have HS:=zh hs;have HCH:=zh hch;have HV:=zh hv;obtain⟨b0,b1,b2,bf⟩:=hI.cells;have hgl:=hI.lt.1;clear hI hs hch hv;cases s with
   |nil=>
    obtain⟨t1,t2⟩:=Zci;go_wp2_with fail;refine bodyPost_end (v:= .tuple #[]) (by simp[results,Tryd.results24,go_sem]) rfl ?_;have e:r.space={r with s:=[]}:=by unfold Rd.space;rw[<-HS.o];rfl
    rw[e];exact⟨rfl,v1,HI.o,HCH.o,HV.o⟩
   |cons c rest=>
    obtain⟨t1,t2,t3⟩:=Zdg c rest;have hget:=ZaQ c rest t3;have HG:=zh hget;clear hget;by_cases e0:(c.toNat:Int)=32
    ·have f0:(((bs (c::rest))[0].toNat:Int)==32)=true:=by rw[HG.o];simpa using e0
     have HC:=zh (sp_iff.2 (.inl e0));clear e0;go_wp2_with fail;obtain⟨v2,k1,k2,k3⟩:=RdStep.trans HCH.o HV.o (HI.o.setS rest (by simp));have hmu:Zd7 g (wr.setCell ⟨g,0,none⟩ (.string (bs rest)))<Zd7 g wr:=by rw[ZaX k1,ZaX HI.o];simp
     rw[ZbF];exact⟨⟨rest,by rw[<-HS.o,Zb0 HC.o],v2,k1,k2,k3⟩,hmu⟩
    ·have f0:(((bs (c::rest))[0].toNat:Int)==32)=false:=by rw[HG.o];simpa using e0
     by_cases e1:(c.toNat:Int)=10
     ·have f1:(((bs (c::rest))[0].toNat:Int)==10)=true:=by rw[HG.o];simpa using e1
      have HC:=zh (sp_iff.2 (.inr (.inl e1)));clear e0 e1;go_wp2_with fail;obtain⟨v2,k1,k2,k3⟩:=RdStep.trans HCH.o HV.o (HI.o.setS rest (by simp));have hmu:Zd7 g (wr.setCell ⟨g,0,none⟩ (.string (bs rest)))<Zd7 g wr:=by rw[ZaX k1,ZaX HI.o];simp
      rw[ZbF];exact⟨⟨rest,by rw[<-HS.o,Zb0 HC.o],v2,k1,k2,k3⟩,hmu⟩
     ·have f1:(((bs (c::rest))[0].toNat:Int)==10)=false:=by rw[HG.o];simpa using e1
      by_cases e2:(c.toNat:Int)=9
      ·have f2:(((bs (c::rest))[0].toNat:Int)==9)=true:=by rw[HG.o];simpa using e2
       have HC:=zh (sp_iff.2 (.inr (.inr (.inl e2))));clear e0 e1 e2;go_wp2_with fail;obtain⟨v2,k1,k2,k3⟩:=RdStep.trans HCH.o HV.o (HI.o.setS rest (by simp));have hmu:Zd7 g (wr.setCell ⟨g,0,none⟩ (.string (bs rest)))<Zd7 g wr:=by rw[ZaX k1,ZaX HI.o];simp
       rw[ZbF];exact⟨⟨rest,by rw[<-HS.o,Zb0 HC.o],v2,k1,k2,k3⟩,hmu⟩
      ·have f2:(((bs (c::rest))[0].toNat:Int)==9)=false:=by rw[HG.o];simpa using e2
       by_cases e3:(c.toNat:Int)=13
       ·have f3:(((bs (c::rest))[0].toNat:Int)==13)=true:=by rw[HG.o];simpa using e3
        have HC:=zh (sp_iff.2 (.inr (.inr (.inr (e3)))));clear e0 e1 e2 e3;go_wp2_with fail;obtain⟨v2,k1,k2,k3⟩:=RdStep.trans HCH.o HV.o (HI.o.setS rest (by simp));have hmu:Zd7 g (wr.setCell ⟨g,0,none⟩ (.string (bs rest)))<Zd7 g wr:=by rw[ZaX k1,ZaX HI.o];simp
        rw[ZbF];exact⟨⟨rest,by rw[<-HS.o,Zb0 HC.o],v2,k1,k2,k3⟩,hmu⟩
       ·have f3:(((bs (c::rest))[0].toNat:Int)==13)=false:=by rw[HG.o];simpa using e3
        have HC:=zh (show ¬spB c=true from fun h=>by have :=sp_iff.1 h;omega);clear e0 e1 e2 e3;go_wp2_with fail;refine bodyPost_end (v:= .tuple #[]) (by simp[results,Tryd.results24,go_sem]) rfl ?_;have e:r.space={r with s:=c::rest}:=by unfold Rd.space;rw[<-HS.o,Ze2 HC.o]
        rw[e];exact⟨rfl,v1,HI.o,HCH.o,HV.o⟩
end
theorem Zgz{sg s:Str}(h:sg.length<=s.length):sg <+: s↔s.take sg.length=sg:=by rw[List.prefix_iff_eq_take];exact eq_comm
section
variable {B base g : Nat} {vv : Value} {r : Rd} {w : World}
theorem ZcA(sg:Str)(hsg:sg.length<=1000)(h:RdI B base g vv r w):Calls Tryd.prog 27 #[.pointer (some ⟨g,0,none⟩),.string (bs sg)] w (fun e w'=>e= .returned (.bool (r.at_ sg).1)/\RdStep B base g vv (r.at_ sg).2 w w'):=by
 have HU:=zh h;have HSP:=zh (ZaE h);have hz1:(bs sg).size<=1000:=by rw[Zab];exact hsg
 clear h hsg;go_enter Tryd.func27,Tryd.ntmps27;go_wp2_with fail;refine HSP.o.mono ?_;rintro e w1⟨rfl,v1,h1,c1,o1⟩;have HI:=zh h1;have HCH:=zh c1;have HV:=zh o1;obtain⟨b0,b1,b2,bf⟩:=h1.cells;have hgl:=h1.lt.1;have hlen:=h1.len;have e0:r.space.s=Zad r.s:=rfl;rw[e0]at b0 hlen;have hz2:(bs (Zad r.s)).size<=2000:=by rw[Zab];omega
 have hu:Rd.at_ sg r=if sg <+: Zad r.s then(true,{r with s:=(Zad r.s).drop sg.length})else(false,r.space):=rfl;have HA:=zh hu;clear h1 c1 o1 hlen hu e0;by_cases hl:(Zad r.s).length<sg.length
 ·have hd:decide ((bs (Zad r.s)).size<(bs sg).size)=true:=by rw[Zab,Zab];simpa using hl
  have hp:¬sg <+: Zad r.s:=fun h=>by have :=h.length_le;omega
  have HP:=zh hp;clear hl hp;go_wp2_with fail;go_ret;rw[HA.o,if_neg HP.o];exact⟨rfl,v1,HI.o,HCH.o,HV.o⟩
 ·have hd:decide ((bs (Zad r.s)).size<(bs sg).size)=false:=by rw[Zab,Zab];simpa using hl
  have hle:(bs sg).size<=(bs (Zad r.s)).size:=by rw[Zab,Zab];omega
  have hpi:=Zgz (sg:=sg) (s:=Zad r.s) (by omega);by_cases ht:(Zad r.s).take sg.length=sg
  ·have hE:(((bs (Zad r.s)).extract 0 (bs sg).size).toList==(bs sg).toList)=true:=by rw[Zar,Zaa,Zaa,Zab,List.drop_zero,Nat.sub_zero,ht];simp
   have HP:=zh (hpi.2 ht);clear hl hpi ht;go_wp2_with fail;go_ret;rw[HA.o,if_pos HP.o];have hx:(bs (Zad r.s)).extract (bs sg).size (bs (Zad r.s)).size=bs ((Zad r.s).drop sg.length):=by rw[Zar,Zab,Zab,List.take_of_length_le (by simp)]
   rw[hx];exact⟨rfl,RdStep.trans HCH.o HV.o (HI.o.setS _ (by rw[List.length_drop];exact Nat.sub_le _ _))⟩
  ·have hE:(((bs (Zad r.s)).extract 0 (bs sg).size).toList==(bs sg).toList)=false:=by rw[Zar,Zaa,Zaa,Zab,List.drop_zero,Nat.sub_zero];simpa using ht
   have HP:=zh (show ¬sg <+: Zad r.s from fun h=>ht (hpi.1 h));clear hl hpi ht;go_wp2_with fail;go_ret;rw[HA.o,if_neg HP.o];exact⟨rfl,v1,HI.o,HCH.o,HV.o⟩
theorem Za4{s:Str}{k:Nat}(hk:k<=Zac s):k<=s.length:=by cases s with|nil=>simpa[Zac]using hk|cons c r=>have :lows r<=r.length:=(List.takeWhile_sublist _).length_le;rw[ZaT]at hk;simp only[List.length_cons];split at hk<;>omega
theorem low_iff{c:UInt8}:Zba c=true↔97<=(c.toNat:Int)/\(c.toNat:Int)<=122:=by unfold Zba;simp;omega
theorem up_iff{c:UInt8}:upB c=true↔65<=(c.toNat:Int)/\(c.toNat:Int)<=90:=by unfold upB;simp;omega
theorem ZaM{p:UInt8->Bool}:∀(l:Str)(k:Nat)(hk:k<l.length),k<=(l.takeWhile p).length->(k+1<=(l.takeWhile p).length↔p l[k]=true)|c::r,0,hk,h=>by rw[List.takeWhile_cons,List.getElem_cons_zero];cases p c<;>simp|c::r,k+1,hk,h=>by rw[List.takeWhile_cons]at h ⊢;rw[List.getElem_cons_succ];cases hp:p c with|false=>rw[hp]at h;simp at h|true=>rw[hp]at h;simp only[if_true,List.length_cons]at h ⊢;have :=ZaM (p:=p) r k (by simpa using hk) (by omega);rw[Nat.add_le_add_iff_right];exact this
theorem Zdh{s:Str}{k:Nat}(hk:k<=Zac s)(hl:k<s.length):k+1<=Zac s↔(Zba s[k]=true\/(k=0/\upB (s[0]'(by omega))=true)):=by
 cases s with
  |nil=>simp at hl
  |cons c r=>
   rw[ZaT]at hk ⊢;cases k with
    |zero=>
     simp only[List.getElem_cons_zero,true_and];by_cases h:(Zba c||upB c)=true;·rw[if_pos h];simp only[Bool.or_eq_true]at h;exact⟨fun _=>h,fun _=>by omega⟩
     ·rw[if_neg h];simp only[Bool.or_eq_true]at h;exact⟨fun e=>by omega,fun e=>absurd e h⟩
    |succ k=>
     split at hk
     ·rename_i h;rw[if_pos h];have h1:k<=lows r:=by omega
      have :=ZaM (p:=Zba) r k (by simpa using hl) h1;rw[List.getElem_cons_succ];constructor;·intro e;exact .inl (this.1 (by unfold lows at e;omega))
      ·rintro(e|⟨e,_⟩);·have :=this.2 e;unfold lows;omega
       ·omega
     ·omega
theorem wend{s:Str}{S:ByteArray}{k:Nat}(hS:S=bs s)(hk:k=Zac s):S.extract k S.size=bs (s.drop (Zac s)):=by rw[hS,Zar,Zab,hk,List.take_of_length_le (by simp)]
theorem ZgA{s:Str}{S:ByteArray}{k:Nat}(hS:S=bs s)(hk:k=Zac s):S.extract 0 k=bs (s.take (Zac s)):=by rw[hS,Zar,hk];simp
theorem wset{B base g:Nat}{vv:Value}{r:Rd}{w:World}{s:Str}(h:RdI B base g vv r.space w)(hs:Zad r.s=s):RdStep B base g vv {r with s:=s.drop (Zac s)} w (w.setCell ⟨g,0,none⟩ (.string (bs (s.drop (Zac s))))):=by have :=h.setS (s.drop (Zac s)) (by rw[<-hs];show _<=(Zad r.s).length;rw[List.length_drop];exact Nat.sub_le _ _);exact this
theorem Zd8(s:Str)(hs:Zad r.s=s)(h:RdI B base g vv r w):Calls Tryd.prog 42 #[.pointer (some ⟨g,0,none⟩)] w (fun e w'=>e= .returned (.string (bs (s.take (Zac s))))/\RdStep B base g vv {r with s:=s.drop (Zac s)} w w'):=by
 have HU:=zh h;have HSS:=zh hs;have HSP:=zh (ZaE h);clear h hs;go_enter Tryd.func42,Tryd.ntmps42;go_wp2_with fail;refine HSP.o.mono ?_;rintro e w1⟨rfl,v1,h1,c1,o1⟩;have HI:=zh h1;have HCH:=zh c1;have HV:=zh o1;obtain⟨b0,b1,b2,bf⟩:=h1.cells;have hgl:=h1.lt.1;have hlen:=h1.len;have e0:r.space.s=Zad r.s:=rfl;rw[e0,HSS.o]at b0 hlen;obtain⟨S,hS⟩:∃S,S=bs s:=⟨_,rfl⟩;rw[<-hS]at b0;have hz1:S.size=s.length:=by rw[hS,Zab]
 have HS:=zh hS;have HZ:=zh hz1;have hz2:S.size<=2000:=by omega
 have hsl:s.length<=2000:=by omega
 clear h1 c1 o1 hlen e0 hS hz1;go_wp2_with fail;go_loopw[3](fun i wr=>∃k:Nat,k<=Zac s/\i= .int .i64 (k:Int)/\wr=w1)(fun i _=>s.length - (intOf i).toNat);case atStart=>exact⟨0,Nat.zero_le _,rfl,rfl⟩
 case round=>
  obtain⟨k,hk,rfl,rfl⟩:=hrel;have hks:=Za4 hk;have hk0:(0:Int)<=(k:Int):=zN _;by_cases hlt:k<s.length
  ·have hd:decide (k<S.size)=true:=by rw[HZ.o];simpa using hlt
   have hd':k<S.size:=by rw[HZ.o];exact hlt
   have hz:0<S.size:=by omega
   have hg1:S[k]=s[k]:=by have e:=HS.o;subst e;exact ZbY s k hd'
   have hg0:S[0]=s[0]'(by omega):=by have e:=HS.o;subst e;exact ZbY s 0 hz
   have HG:=zh (And.intro hg1 hg0);have HM:=zh (Zdh hk hlt);have hsame:k=0->s[0]'(by omega)=s[k]:=fun e=>by subst e;rfl
   have hn:k=0->((s[0]'(by omega)).toNat:Int)=(s[k].toNat:Int):=fun e=>by rw[hsame e]
   clear hg1 hg0 hsame;have hcs:(97<=(s[k].toNat:Int)/\(s[k].toNat:Int)<=122)\/(0<k/\(s[k].toNat:Int)<97)\/(k=0/\(s[k].toNat:Int)<97/\(s[k].toNat:Int)<65)\/(k=0/\65<=(s[k].toNat:Int)/\(s[k].toNat:Int)<=90)\/(k=0/\90<(s[k].toNat:Int)/\(s[k].toNat:Int)<97)\/(0<k/\122<(s[k].toNat:Int))\/(k=0/\122<(s[k].toNat:Int)):=by omega
   have hb0:0<=(s[k].toNat:Int):=by omega
   rcases hcs with h1|h1|h1|h1|h1|h1|h1
   ·obtain⟨h1,h2⟩:=h1;have f1:decide ((97:Int)<=(S[k].toNat:Int))=true:=by rw[HG.o.1];exact decide_eq_true (by omega)
    have f2:decide ((S[k].toNat:Int)<=(122:Int))=true:=by rw[HG.o.1];exact decide_eq_true (by omega)
    have hgo:=HM.o.2 (.inl (low_iff.2 (by omega)));have hle:=Nat.lt_of_lt_of_le (Nat.lt_of_succ_le hgo) (Za4 (zL _));have HGO:=zh hgo;clear h1 h2 hn hgo hle;go_wp2_with fail;all_goals
     first
      |
       (
        go_roundw;case rel=>exact⟨k+1,HGO.o,by go_num,by first|rfl|trivial⟩
        case measure=>simp[intOf];omega)
   ·obtain⟨h1,h2⟩:=h1;have f1:decide ((97:Int)<=(S[k].toNat:Int))=false:=by rw[HG.o.1];exact decide_eq_false (by omega)
    have f3:((k:Int)==0)=false:=by rw[beq_eq_false_iff_ne];omega
    have hno:¬k+1<=Zac s:=fun e=>by
     rcases HM.o.1 e with h9|⟨h9,h8⟩;·have :=low_iff.1 h9;omega
     ·omega
    have hkw:k=Zac s:=by have :=hk;omega
    have HKW:=zh hkw;clear h1 h2 hn hno hkw;go_wp2_with fail;go_ret;rw[ZgA HS.o HKW.o,wend HS.o HKW.o];exact⟨rfl,RdStep.trans HCH.o HV.o (wset HI.o HSS.o)⟩
   ·obtain⟨h1,h2,h3⟩:=h1;subst h1;have f1:decide ((97:Int)<=(S[0].toNat:Int))=false:=by rw[HG.o.2];exact decide_eq_false (by omega)
    have f4:decide ((65:Int)<=(S[0].toNat:Int))=false:=by rw[HG.o.2];exact decide_eq_false (by omega)
    have hno:¬0+1<=Zac s:=fun e=>by
     rcases HM.o.1 e with h9|⟨h9,h8⟩;·have :=low_iff.1 h9;omega
     ·have :=up_iff.1 h8;omega
    have hkw:0=Zac s:=by have :=hk;omega
    have HKW:=zh hkw;clear h2 h3 hn hno hkw;go_wp2_with fail;go_ret;have hw:=wset HI.o HSS.o;rw[<-HKW.o,List.drop_zero,<-HS.o]at hw;rw[<-HKW.o,List.drop_zero,List.take_zero];exact⟨rfl,RdStep.trans HCH.o HV.o hw⟩
   ·obtain⟨h1,h2,h3⟩:=h1;subst h1;have f1:decide ((97:Int)<=(S[0].toNat:Int))=false:=by rw[HG.o.2];exact decide_eq_false (by omega)
    have f4:decide ((65:Int)<=(S[0].toNat:Int))=true:=by rw[HG.o.2];exact decide_eq_true (by omega)
    have f5:decide ((S[0].toNat:Int)<=(90:Int))=true:=by rw[HG.o.2];exact decide_eq_true (by omega)
    have hgo:=HM.o.2 (.inr ⟨rfl,up_iff.2 (by omega)⟩);have hle:=Nat.lt_of_lt_of_le (Nat.lt_of_succ_le hgo) (Za4 (zL _));have HGO:=zh hgo;clear h2 h3 hn hgo hle;go_wp2_with fail;all_goals
     first
      |
       (
        go_roundw;case rel=>exact⟨0+1,HGO.o,by go_num,by first|rfl|trivial⟩
        case measure=>simp[intOf];omega)
   ·obtain⟨h1,h2,h3⟩:=h1;subst h1;have f1:decide ((97:Int)<=(S[0].toNat:Int))=false:=by rw[HG.o.2];exact decide_eq_false (by omega)
    have f4:decide ((65:Int)<=(S[0].toNat:Int))=true:=by rw[HG.o.2];exact decide_eq_true (by omega)
    have f5:decide ((S[0].toNat:Int)<=(90:Int))=false:=by rw[HG.o.2];exact decide_eq_false (by omega)
    have hno:¬0+1<=Zac s:=fun e=>by
     rcases HM.o.1 e with h9|⟨h9,h8⟩;·have :=low_iff.1 h9;omega
     ·have :=up_iff.1 h8;omega
    have hkw:0=Zac s:=by have :=hk;omega
    have HKW:=zh hkw;clear h2 h3 hn hno hkw;go_wp2_with fail;go_ret;have hw:=wset HI.o HSS.o;rw[<-HKW.o,List.drop_zero,<-HS.o]at hw;rw[<-HKW.o,List.drop_zero,List.take_zero];exact⟨rfl,RdStep.trans HCH.o HV.o hw⟩
   ·obtain⟨h1,h2⟩:=h1;have f1:decide ((97:Int)<=(S[k].toNat:Int))=true:=by rw[HG.o.1];exact decide_eq_true (by omega)
    have f2:decide ((S[k].toNat:Int)<=(122:Int))=false:=by rw[HG.o.1];exact decide_eq_false (by omega)
    have f3:((k:Int)==0)=false:=by rw[beq_eq_false_iff_ne];omega
    have hno:¬k+1<=Zac s:=fun e=>by
     rcases HM.o.1 e with h9|⟨h9,h8⟩;·have :=low_iff.1 h9;omega
     ·omega
    have hkw:k=Zac s:=by have :=hk;omega
    have HKW:=zh hkw;clear h1 h2 hn hno hkw;go_wp2_with fail;go_ret;rw[ZgA HS.o HKW.o,wend HS.o HKW.o];exact⟨rfl,RdStep.trans HCH.o HV.o (wset HI.o HSS.o)⟩
   ·obtain⟨h1,h2⟩:=h1;subst h1;have f1:decide ((97:Int)<=(S[0].toNat:Int))=true:=by rw[HG.o.2];exact decide_eq_true (by omega)
    have f2:decide ((S[0].toNat:Int)<=(122:Int))=false:=by rw[HG.o.2];exact decide_eq_false (by omega)
    have f4:decide ((65:Int)<=(S[0].toNat:Int))=true:=by rw[HG.o.2];exact decide_eq_true (by omega)
    have f5:decide ((S[0].toNat:Int)<=(90:Int))=false:=by rw[HG.o.2];exact decide_eq_false (by omega)
    have hno:¬0+1<=Zac s:=fun e=>by
     rcases HM.o.1 e with h9|⟨h9,h8⟩;·have :=low_iff.1 h9;omega
     ·have :=up_iff.1 h8;omega
    have hkw:0=Zac s:=by have :=hk;omega
    have HKW:=zh hkw;clear h2 hn hno hkw;go_wp2_with fail;go_ret;have hw:=wset HI.o HSS.o;rw[<-HKW.o,List.drop_zero,<-HS.o]at hw;rw[<-HKW.o,List.drop_zero,List.take_zero];exact⟨rfl,RdStep.trans HCH.o HV.o hw⟩
  ·have hd:decide (k<S.size)=false:=by rw[HZ.o];simpa using hlt
   have hkw:k=Zac s:=by have :=Za4 (Nat.le_refl (Zac s));omega
   have HKW:=zh hkw;have hle:k<=S.size:=by rw[HZ.o];exact hks
   clear hkw;go_wp2_with fail;go_ret;rw[ZgA HS.o HKW.o,wend HS.o HKW.o];exact⟨rfl,RdStep.trans HCH.o HV.o (wset HI.o HSS.o)⟩
end
end Go.Proofs.YtlpmfkpefoegeacDoor
