import Derived.Test.YtlpmfkpefoegeacGreatDoorQRd3
import Derived.Test.YtlpmfkpefoegeacGreatDoorQStrc
namespace Go.Proofs.YtlpmfkpefoegeacGreatDoor
set_option maxRecDepth 99999
set_option maxHeartbeats 0
set_option linter.all false
open Go.RowKit
def GV(s:Str):Nat:=if s.head?=some 45 then 1 else 0
theorem afv(p:UInt8->Bool)(l:Str):l.take (l.takeWhile p).length=l.takeWhile p:=(List.prefix_iff_eq_take.1 (List.takeWhile_prefix p)).symm
theorem XU{p:UInt8->Bool}:∀(l:Str)(c:UInt8),c∈l.takeWhile p->p c=true
 |[],c,h=>by cases h
 |x::l,c,h=>by
  rw[adA]at h;cases hp:p x with
   |false=>rw[hp]at h;simp at h
   |true=>
    rw[hp]at h;simp only[if_true,jr]at h;rcases h with rfl|h;·exact hp
    ·exact XU l c h
theorem XV(c:UInt8)(r:Str):ed (c::r)=if c=45 then 1+vJ r else vJ (c::r):=rfl
theorem XW(s:Str):ed s<=s.length:=by cases s with|nil=>simp[ed]|cons c r=>have h1:vJ r<=r.length:=(amT _).length_le;have h2:vJ (c::r)<=(c::r).length:=(amT _).length_le;unfold ed;simp only[bn]at h2 ⊢;split<;>omega
theorem api(s:Str):∃d,yH d/\(s.take (ed s)=d\/s.take (ed s)=45::d):=by
 cases s with
  |nil=>exact⟨[],(fun c hc=>by cases hc),Or.inl rfl⟩
  |cons c r=>
   rw[XV];split;·rename_i h;refine⟨r.takeWhile mQ,(fun c hc=>XU _ c hc),Or.inr ?_⟩;rw[h,Nat.add_comm,Al];unfold vJ;rw[afv]
   ·refine⟨(c::r).takeWhile mQ,(fun c hc=>XU _ c hc),Or.inl ?_⟩;unfold vJ;exact afv _ _
theorem apj{s:Str}{k:Nat}(hj:GV s<=k)(hk:k<=ed s)(hl:k<s.length):k+1<=ed s↔mQ s[k]=true:=by
 cases s with
  |nil=>simp at hl
  |cons c r=>
   unfold GV at hj;rw[XV]at hk ⊢;simp only[anm,bW]at hj;by_cases h:c=45;·rw[G h]at hj hk ⊢;cases k with|zero=>omega|succ k=>rw[Mc];have :=RY (p:=mQ) r k (by simpa using hl) (by unfold vJ at hk;omega);unfold vJ;rw[<-this];omega
   ·rw[O h]at hk ⊢;exact RY (p:=mQ) (c::r) k hl hk
theorem afw{s:Str}:GV s<=ed s:=by cases s with|nil=>simp[GV,ed]|cons c r=>rw[XV];unfold GV;simp only[anm,bW];split<;>omega
theorem Nr{c:UInt8}:mQ c=true↔48<=(c.toNat:Int)/\(c.toNat:Int)<=57:=by unfold mQ;simp;omega
def xu(s:Str):Option Int:=Ji (s.take (ed s))
theorem XX(s:Str):xu s=El (s.take (ed s)):=by obtain⟨d,hd,ht⟩:=api s;exact an8 hd ht
theorem apk{t:Str}(h:∀k,Lib.atoiAll t≠ .ok k):El t=none:=by
 unfold El;split;·rename_i k hk;exact absurd hk (h k)
 ·rfl
theorem apl{t:Str}{k:Int}(h:Lib.atoiAll t= .ok k):El t=if Lib.itoa k=t/\ -1099511627776<=k/\k<=1099511627776 then some k else none:=by unfold El;rw[h]
theorem apm{t:Str}{k:Int}(h:Lib.atoiAll t= .ok k):ah k:=Lib.atoiAll_bounds h
section
variable {B base g : Nat} {vv : Value} {r : Rd} {w : World}
def EA(B base g:Nat)(vv:Value)(r:Rd)(s:Str)(w:World)(e:Ending)(w':World):Prop:=match xu s with|some k=>e= .returned (.tuple #[.int .i64 k,.bool true])/\iK B base g vv {r with s:=s.drop (ed s)} w w'|none=>e= .returned (.tuple #[.int .i64 0,.bool false])/\iK B base g vv {r with s:=s} w w'
theorem apn{s:Str}{S:ByteArray}{k:Nat}(hS:S=bs s)(hk:k=ed s):S.extract k S.size=bs (s.drop (ed s)):=by rw[hS,Ep,eP,hk,kg (by simp)]
theorem apo{s:Str}{S:ByteArray}{k:Nat}(hS:S=bs s)(hk:k=ed s):S.extract 0 k=bs (s.take (ed s)):=by rw[hS,Ep,hk];simp
theorem apq{s:Str}(h:bT B base g vv {r with s:=s} w):iK B base g vv {r with s:=s.drop (ed s)} w (w.setCell ⟨g,0,none⟩ (.string (bs (s.drop (ed s))))):=h.Er (s.drop (ed s)) (by show _<=s.length;rw[yA];exact Nat.sub_le _ _)
theorem afx(c:UInt8)(rest:Str)(hc:c=45\/mQ c=true)(hs:bP r.s=c::rest)(h:bT B base g vv r w):Calls Tryz.prog 89 #[.pointer (some ⟨g,0,none⟩)] w (EA B base g vv r (c::rest) w):=by
 have HU:=Y h;have nZ:=Y hs;have dN:=Y (uL h);obtain⟨s,hsc⟩:∃s,s=c::rest:=⟨_,rfl⟩;rw[<-hsc];have hpos:1<=ed s:=by rw[hsc];rw[anu hc];omega
 have hs0:0<s.length:=by rw[hsc];simp
 have hh:s[0]=c:=by subst hsc;rfl
 have hJ:GV s=if c=45 then 1 else 0:=by rw[hsc];unfold GV;simp
 have XY:=Y hsc;have apr:=Y hpos;have HJ:=Y hJ;have HC:=Y hc;have HH:=Y hh;clear h hs hsc hpos hJ hc hh;go_enter Tryz.func89,Tryz.ntmps89;go_wp2_with fail;refine dN.o.mono ?_;rintro e w1⟨rfl,v1,h1,c1,o1⟩;have h1':bT B base g v1 {r with s:=s} w1:=by
  have e:r.space={r with s:=s}:=by unfold Rd.space;rw[nZ.o,XY.o]
  rw[<-e];exact h1
 have HI:=Y h1';have aM:=Y c1;have HV:=Y o1;obtain⟨b0,b1,b2,bf⟩:=h1'.cells;have hgl:=h1.lt.1;have hlen:=h1'.len;simp only at b0 b2 hlen;obtain⟨S,hS⟩:∃S,S=bs s:=⟨_,rfl⟩;rw[<-hS]at b0;have hz1:S.size=s.length:=by rw[hS,eP]
 have HS:=Y hS;have HZ:=Y hz1;have hz2:S.size<=2000:=by omega
 have hsl:s.length<=2000:=by omega
 have hz0:0<S.size:=by omega
 have t1:S.toList.isEmpty=false:=by rw[hS,lN,XY.o];rfl
 have t2:¬S.toList=[]:=by rw[hS,lN,XY.o];simp
 have hg0:S[0]=c:=by have e:=HS.o;subst e;rw[M4 s 0 (by rw[eP];exact hs0)];exact HH.o
 have xw:=Y hg0;clear h1 h1' c1 o1 hlen hS hz1 hg0;by_cases h45:c=45;case' pos=>
  have hq:((S[0].toNat:Int)==(45:Int))=true:=by rw[xw.o];rw[h45];rfl
  have RZ:=Y (HJ.o.trans (G h45));clear h45;go_wp2_with fail;go_loopw[4](fun i wr=>∃k:Nat,1<=k/\k<=ed s/\i= .int .i64 (k:Int)/\wr=w1)(fun i _=>s.length - (intOf i).toNat);case atStart=>exact⟨1,zL _,by have :=afw (s:=s);rw[RZ.o]at this;exact this,rfl,rfl⟩
 case' neg=>
  have hq:((S[0].toNat:Int)==(45:Int))=false:=by rw[xw.o];rw[Ak];intro e;apply h45;exact QU.1 (by have e45:(45:UInt8).toNat=45:=rfl;omega)
  have RZ:=Y (HJ.o.trans (O h45));clear h45;go_wp2_with fail;go_loopw[4](fun i wr=>∃k:Nat,0<=k/\k<=ed s/\i= .int .i64 (k:Int)/\wr=w1)(fun i _=>s.length - (intOf i).toNat);case atStart=>exact⟨0,zL _,by have :=afw (s:=s);rw[RZ.o]at this;exact this,rfl,rfl⟩
 all_goals
  obtain⟨k,hj,hk,rfl,rfl⟩:=hrel;have hks:=dm hk (XW s);have hk0:(0:Int)<=(k:Int):=zN _;clear hq;by_cases hlt:k<s.length;case' pos=>
   have hd:decide (k<S.size)=true:=by rw[HZ.o];simpa using hlt
   have hd':k<S.size:=by rw[HZ.o];exact hlt
   have hg1:S[k]=s[k]:=by have e:=HS.o;subst e;exact M4 s k hd'
   have HG:=Y hg1;have HM:=Y (apj (by rw[RZ.o];exact hj) hk hlt);clear hg1;have hcs:(48<=(s[k].toNat:Int)/\(s[k].toNat:Int)<=57)\/(s[k].toNat:Int)<48\/57<(s[k].toNat:Int):=by omega
   rcases hcs with h1|h1|h1;case' inl=>
    obtain⟨h1,h2⟩:=h1;have f1:decide ((48:Int)<=(S[k].toNat:Int))=true:=by rw[HG.o];exact qG (by omega)
    have f2:decide ((S[k].toNat:Int)<=(57:Int))=true:=by rw[HG.o];exact qG (by omega)
    have hgo:=HM.o.2 (Nr.2 ⟨h1,h2⟩);have hle:=uB (am7 hgo) (XW s);have lT:=Y hgo;have hj2:=Nat.le_succ_of_le hj;clear hgo hle h1 h2;go_wp2_with fail;go_roundw;case rel=>exact⟨k+1,hj2,lT.o,by go_num,by first|rfl|trivial⟩
    case measure=>simp[intOf];omega
   case' inr.inl=>have f1:decide ((48:Int)<=(S[k].toNat:Int))=false:=by rw[HG.o];exact decide_eq_false (by omega)
   case' inr.inr=>
    have f1:decide ((48:Int)<=(S[k].toNat:Int))=true:=by rw[HG.o];exact qG (by omega)
    have f2:decide ((S[k].toNat:Int)<=(57:Int))=false:=by rw[HG.o];exact decide_eq_false (by omega)
   all_goals
    have hno:¬k+1<=ed s:=fun e=>by have :=Nr.1 (HM.o.1 e);omega
    have mF:k=ed s:=by omega
    clear h1 hno
  case' neg=>
   have hd:decide (k<S.size)=false:=by rw[HZ.o];simpa using hlt
   have mF:k=ed s:=by have :=XW s;omega
  all_goals
   have kI:=Y mF;have hkp:0<k:=by rw[mF];exact apr.o
   have hle:k<=S.size:=by rw[HZ.o];exact hks
   clear mF;go_wp2_with fail;obtain⟨Tt,hT⟩:∃Tt,Tt=S.extract 0 k:=⟨_,rfl⟩;rw[<-hT];have HT:=Y (hT.trans (apo HS.o kI.o));have fw:=Y (show Tt.data.toList=s.take (ed s)by rw[HT.o];exact Xk _);have hts:Tt.size<=2000:=by rw[HT.o,eP,dX];omega
   have afy:=Y HI.o.tab.now;clear hT;refine(aos Tt (by omega) _ afy.o.syn afy.o.rng).mono ?_;rintro e w2⟨hb2,hres⟩;rw[fw.o]at hres;have HB2:=Y hb2;have HI2:=Y (HI.o.below hb2);have CJ:=Y (aM.o.tb hb2);obtain⟨b0,b1,b2,bf⟩:=(HI.o.below hb2).cells;have hgl:=(HI.o.below hb2).lt.1;simp only at b0 b2;rw[<-HS.o]at b0;rcases hres with⟨v,rfl,hv⟩|⟨v,tp,p,rfl,hv⟩
   ·have GX:=Y hv;have hvb:=apm hv;have Ns:=Y hvb;clear hb2 hv;go_wp2_with fail;refine(Xq v Ns.o _ HI2.o.tab.now.pow).mono ?_;rintro e w3⟨rfl,hb3⟩;have HI3:=Y (HI2.o.below hb3);have CK:=Y (CJ.o.tb hb3);obtain⟨b0,b1,b2,bf⟩:=(HI2.o.below hb3).cells;have hgl:=(HI2.o.below hb3).lt.1;simp only at b0 b2;rw[<-HS.o]at b0;have HF:=Y ((XX s).trans (apl GX.o));have afz:=Ns.o.1;have aAK:=Ns.o.2;by_cases hi:Lib.itoa v=s.take (ed s)
    ·have hE:(Lib.itoa v==Tt.toList)=true:=by rw[HT.o,lN,hi];simp
     have HIT:=Y hi;clear hi hb3;by_cases hlo:v< -1099511627776
     ·have g1:decide (v< -1099511627776)=true:=by simpa using hlo
      have HN:=Y (show xu s=none by rw[HF.o,O (fun h=>by have :=h.2.1;omega)]);clear hlo;go_wp2_with fail;go_ret2;unfold EA;rw[HN.o];exact⟨rfl,v1,HI3.o,CK.o,HV.o⟩
     ·have g1:decide (v< -1099511627776)=false:=by simpa using hlo
      by_cases hhi:1099511627776<v
      ·have g2:decide (1099511627776<v)=true:=by simpa using hhi
       have HN:=Y (show xu s=none by rw[HF.o,O (fun h=>by have :=h.2.2;omega)]);clear hlo hhi;go_wp2_with fail;go_ret2;unfold EA;rw[HN.o];exact⟨rfl,v1,HI3.o,CK.o,HV.o⟩
      ·have g2:decide (1099511627776<v)=false:=by simpa using hhi
       have HN:=Y (show xu s=some v by rw[HF.o,G ⟨HIT.o,by omega,by omega⟩]);clear hlo hhi;go_wp2_with fail;go_ret2;unfold EA;rw[HN.o,apn HS.o kI.o];exact⟨rfl,iK.trans CK.o HV.o (apq HI3.o)⟩
    ·have hE:(Lib.itoa v==Tt.toList)=false:=by rw[HT.o,lN];simpa using hi
     have HN:=Y (show xu s=none by rw[HF.o,O (fun h=>hi h.1)]);clear hi hb3;go_wp2_with fail;go_ret2;unfold EA;rw[HN.o];exact⟨rfl,v1,HI3.o,CK.o,HV.o⟩
   ·have HN:=Y (show xu s=none from(XX s).trans (apk hv));clear hb2 hv;go_wp2_with fail;go_ret2;unfold EA;rw[HN.o];exact⟨rfl,v1,HI2.o,CJ.o,HV.o⟩
end
