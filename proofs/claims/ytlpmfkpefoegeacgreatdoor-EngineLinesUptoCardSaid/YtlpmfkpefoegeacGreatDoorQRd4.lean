import Derived.Test.YtlpmfkpefoegeacGreatDoorQRd3
import Derived.Test.YtlpmfkpefoegeacGreatDoorQStrc
namespace Go.Proofs.YtlpmfkpefoegeacGreatDoor
set_option maxRecDepth 99999
set_option maxHeartbeats 0
set_option linter.all false
open Go.RowKit
def CX(s:Str):Nat:=if s.head?=some 45 then 1 else 0
theorem ZM(p:UInt8->Bool)(l:Str):l.take (l.takeWhile p).length=l.takeWhile p:=(List.prefix_iff_eq_take.1 (List.takeWhile_prefix p)).symm
theorem Rw{p:UInt8->Bool}:∀(l:Str)(c:UInt8),c∈l.takeWhile p->p c=true
 |[],c,h=>by cases h
 |x::l,c,h=>by
  rw[Xz]at h;cases hp:p x with
   |false=>rw[hp]at h;simp at h
   |true=>
    rw[hp]at h;simp only[if_true,iG]at h;rcases h with rfl|h;·exact hp
    ·exact Rw l c h
theorem Rx(c:UInt8)(r:Str):dN (c::r)=if c=45 then 1+rJ r else rJ (c::r):=rfl
theorem Ry(s:Str):dN s<=s.length:=by cases s with|nil=>simp[dN]|cons c r=>have h1:rJ r<=r.length:=(agd _).length_le;have h2:rJ (c::r)<=(c::r).length:=(agd _).length_le;unfold dN;simp only[bn]at h2 ⊢;split<;>omega
theorem ai0(s:Str):∃d,vI d/\(s.take (dN s)=d\/s.take (dN s)=45::d):=by
 cases s with
  |nil=>exact⟨[],(fun c hc=>by cases hc),Or.inl rfl⟩
  |cons c r=>
   rw[Rx];split;·rename_i h;refine⟨r.takeWhile jX,(fun c hc=>Rw _ c hc),Or.inr ?_⟩;rw[h,Nat.add_comm,yA];unfold rJ;rw[ZM]
   ·refine⟨(c::r).takeWhile jX,(fun c hc=>Rw _ c hc),Or.inl ?_⟩;unfold rJ;exact ZM _ _
theorem ai1{s:Str}{k:Nat}(hj:CX s<=k)(hk:k<=dN s)(hl:k<s.length):k+1<=dN s↔jX s[k]=true:=by
 cases s with
  |nil=>simp at hl
  |cons c r=>
   unfold CX at hj;rw[Rx]at hk ⊢;simp only[agG,cZ]at hj;by_cases h:c=45;·rw[ah h]at hj hk ⊢;cases k with|zero=>omega|succ k=>rw[G7];have :=MF (p:=jX) r k (by simpa using hl) (by unfold rJ at hk;omega);unfold rJ;rw[<-this];omega
   ·rw[ae h]at hk ⊢;exact MF (p:=jX) (c::r) k hl hk
theorem ZN{s:Str}:CX s<=dN s:=by cases s with|nil=>simp[CX,dN]|cons c r=>rw[Rx];unfold CX;simp only[agG,cZ];split<;>omega
theorem IQ{c:UInt8}:jX c=true↔48<=(c.toNat:Int)/\(c.toNat:Int)<=57:=by unfold jX;simp;omega
def uz(s:Str):Option Int:=EB (s.take (dN s))
theorem Rz(s:Str):uz s=AU (s.take (dN s)):=by obtain⟨d,hd,ht⟩:=ai0 s;exact ahu hd ht
theorem ai2{t:Str}(h:∀k,Lib.atoiAll t≠ .ok k):AU t=none:=by
 unfold AU;split;·rename_i k hk;exact absurd hk (h k)
 ·rfl
theorem ai3{t:Str}{k:Int}(h:Lib.atoiAll t= .ok k):AU t=if Lib.itoa k=t/\ -1099511627776<=k/\k<=1099511627776 then some k else none:=by unfold AU;rw[h]
theorem ai4{t:Str}{k:Int}(h:Lib.atoiAll t= .ok k):au k:=Lib.atoiAll_bounds h
section
variable {B base g : Nat} {vv : Value} {r : Rd} {w : World}
def Bf(B base g:Nat)(vv:Value)(r:Rd)(s:Str)(w:World)(e:Ending)(w':World):Prop:=match uz s with|some k=>e= .returned (.tuple #[.int .i64 k,.bool true])/\gG B base g vv {r with s:=s.drop (dN s)} w w'|none=>e= .returned (.tuple #[.int .i64 0,.bool false])/\gG B base g vv {r with s:=s} w w'
theorem ai5{s:Str}{S:ByteArray}{k:Nat}(hS:S=bs s)(hk:k=dN s):S.extract k S.size=bs (s.drop (dN s)):=by rw[hS,AY,dY,hk,jU (by simp)]
theorem ai6{s:Str}{S:ByteArray}{k:Nat}(hS:S=bs s)(hk:k=dN s):S.extract 0 k=bs (s.take (dN s)):=by rw[hS,AY,hk];simp
theorem ai7{s:Str}(h:bW B base g vv {r with s:=s} w):gG B base g vv {r with s:=s.drop (dN s)} w (w.setCell ⟨g,0,none⟩ (.string (bs (s.drop (dN s))))):=h.AZ (s.drop (dN s)) (by show _<=s.length;rw[Av];exact Nat.sub_le _ _)
theorem ZO(c:UInt8)(rest:Str)(hc:c=45\/jX c=true)(hs:bQ r.s=c::rest)(h:bW B base g vv r w):Calls Tryz.prog 89 #[.pointer (some ⟨g,0,none⟩)] w (Bf B base g vv r (c::rest) w):=by
 have lH:=zh hs;have dV:=zh (qN h);obtain⟨s,hsc⟩:∃s,s=c::rest:=⟨_,rfl⟩;rw[<-hsc];have hpos:1<=dN s:=by rw[hsc];rw[agP hc];omega
 have hs0:0<s.length:=by rw[hsc];simp
 have hh:s[0]=c:=by subst hsc;rfl
 have hJ:CX s=if c=45 then 1 else 0:=by rw[hsc];unfold CX;simp
 have RA:=zh hsc;have HJ:=zh hJ;have HH:=zh hh;clear h hs hsc hpos hJ hc hh;go_enter Tryz.func89,Tryz.ntmps89;go_wp2_with fail;refine dV.o.mono ?_;rintro e w1⟨rfl,v1,h1,c1,o1⟩;have h1':bW B base g v1 {r with s:=s} w1:=by
  have e:r.space={r with s:=s}:=by unfold Rd.space;rw[lH.o,RA.o]
  rw[<-e];exact h1
 have HI:=zh h1';have bD:=zh c1;have HV:=zh o1;obtain⟨b0,b1,b2,bf⟩:=h1'.cells;have hgl:=h1.lt.1;have hlen:=h1'.len;simp only at b0 b2 hlen;obtain⟨S,hS⟩:∃S,S=bs s:=⟨_,rfl⟩;rw[<-hS]at b0;have hz1:S.size=s.length:=by rw[hS,dY]
 have HS:=zh hS;have HZ:=zh hz1;have hz2:S.size<=2000:=by omega
 have hsl:s.length<=2000:=by omega
 have hz0:0<S.size:=by omega
 have t1:S.toList.isEmpty=false:=by rw[hS,jE,RA.o];rfl
 have t2:¬S.toList=[]:=by rw[hS,jE,RA.o];simp
 have hg0:S[0]=c:=by have e:=HS.o;subst e;rw[Ir s 0 (by rw[dY];exact hs0)];exact HH.o
 have IU:=zh hg0;clear h1 h1' c1 o1 hlen hS hz1 hg0;by_cases h45:c=45;case' pos=>
  have hq:((S[0].toNat:Int)==(45:Int))=true:=by rw[IU.o];rw[h45];rfl
  have MH:=zh (HJ.o.trans (ah h45));clear h45;go_wp2_with fail;go_loopw[4](fun i wr=>∃k:Nat,1<=k/\k<=dN s/\i= .int .i64 (k:Int)/\wr=w1)(fun i _=>s.length - (intOf i).toNat);case atStart=>exact⟨1,zL _,by have :=ZN (s:=s);rw[MH.o]at this;exact this,rfl,rfl⟩
 case' neg=>
  have hq:((S[0].toNat:Int)==(45:Int))=false:=by rw[IU.o];rw[tY];intro e;apply h45;exact Lt.1 (by have e45:(45:UInt8).toNat=45:=rfl;omega)
  have MH:=zh (HJ.o.trans (ae h45));clear h45;go_wp2_with fail;go_loopw[4](fun i wr=>∃k:Nat,0<=k/\k<=dN s/\i= .int .i64 (k:Int)/\wr=w1)(fun i _=>s.length - (intOf i).toNat);case atStart=>exact⟨0,zL _,by have :=ZN (s:=s);rw[MH.o]at this;exact this,rfl,rfl⟩
 all_goals
  obtain⟨k,hj,hk,rfl,rfl⟩:=hrel;have hks:=dM hk (Ry s);have hk0:(0:Int)<=(k:Int):=zN _;clear hq;by_cases hlt:k<s.length;case' pos=>
   have hd:decide (k<S.size)=true:=by rw[HZ.o];simpa using hlt
   have hd':k<S.size:=by rw[HZ.o];exact hlt
   have hg1:S[k]=s[k]:=by have e:=HS.o;subst e;exact Ir s k hd'
   have HG:=zh hg1;have HM:=zh (ai1 (by rw[MH.o];exact hj) hk hlt);clear hg1;have hcs:(48<=(s[k].toNat:Int)/\(s[k].toNat:Int)<=57)\/(s[k].toNat:Int)<48\/57<(s[k].toNat:Int):=by omega
   rcases hcs with h1|h1|h1;case' inl=>
    obtain⟨h1,h2⟩:=h1;have f1:decide ((48:Int)<=(S[k].toNat:Int))=true:=by rw[HG.o];exact kJ (by omega)
    have f2:decide ((S[k].toNat:Int)<=(57:Int))=true:=by rw[HG.o];exact kJ (by omega)
    have hgo:=HM.o.2 (IQ.2 ⟨h1,h2⟩);have hle:=Et (ags hgo) (Ry s);have nI:=zh hgo;have hj2:=Nat.le_succ_of_le hj;clear hgo hle h1 h2;go_wp2_with fail;go_roundw;case rel=>exact⟨k+1,hj2,nI.o,by go_num,by first|rfl|trivial⟩
    case measure=>simp[intOf];omega
   case' inr.inl=>have f1:decide ((48:Int)<=(S[k].toNat:Int))=false:=by rw[HG.o];exact decide_eq_false (by omega)
   case' inr.inr=>
    have f1:decide ((48:Int)<=(S[k].toNat:Int))=true:=by rw[HG.o];exact kJ (by omega)
    have f2:decide ((S[k].toNat:Int)<=(57:Int))=false:=by rw[HG.o];exact decide_eq_false (by omega)
   all_goals
    have hno:¬k+1<=dN s:=fun e=>by have :=IQ.1 (HM.o.1 e);omega
    have kR:k=dN s:=by omega
    clear h1 hno
  case' neg=>
   have hd:decide (k<S.size)=false:=by rw[HZ.o];simpa using hlt
   have kR:k=dN s:=by have :=Ry s;omega
  all_goals
   have lI:=zh kR;have hle:k<=S.size:=by rw[HZ.o];exact hks
   clear kR;go_wp2_with fail;obtain⟨Tt,hT⟩:∃Tt,Tt=S.extract 0 k:=⟨_,rfl⟩;rw[<-hT];have HT:=zh (hT.trans (ai6 HS.o lI.o));have eT:=zh (show Tt.data.toList=s.take (dN s)by rw[HT.o];exact Iq _);have hts:Tt.size<=2000:=by rw[HT.o,dY,dS];omega
   have ZP:=zh HI.o.tab.now;clear hT;refine(ahP Tt (by omega) _ ZP.o.syn ZP.o.rng).mono ?_;rintro e w2⟨hb2,hres⟩;rw[eT.o]at hres;have HI2:=zh (HI.o.below hb2);have xE:=zh (bD.o.tb hb2);obtain⟨b0,b1,b2,bf⟩:=(HI.o.below hb2).cells;have hgl:=(HI.o.below hb2).lt.1;simp only at b0 b2;rw[<-HS.o]at b0;rcases hres with⟨v,rfl,hv⟩|⟨v,tp,p,rfl,hv⟩
   ·have ZQ:=zh hv;have hvb:=ai4 hv;have RB:=zh hvb;clear hb2 hv;go_wp2_with fail;refine(QX v RB.o _ HI2.o.tab.now.pow).mono ?_;rintro e w3⟨rfl,hb3⟩;have HI3:=zh (HI2.o.below hb3);have vS:=zh (xE.o.tb hb3);obtain⟨b0,b1,b2,bf⟩:=(HI2.o.below hb3).cells;have hgl:=(HI2.o.below hb3).lt.1;simp only at b0 b2;rw[<-HS.o]at b0;have HF:=zh ((Rz s).trans (ai3 ZQ.o));have ar1:=RB.o.1;have ar2:=RB.o.2;by_cases hi:Lib.itoa v=s.take (dN s)
    ·have hE:(Lib.itoa v==Tt.toList)=true:=by rw[HT.o,jE,hi];simp
     have HIT:=zh hi;clear hi hb3;by_cases hlo:v< -1099511627776
     ·have g1:decide (v< -1099511627776)=true:=by simpa using hlo
      have HN:=zh (show uz s=none by rw[HF.o,ae (fun h=>by have :=h.2.1;omega)]);clear hlo;go_wp2_with fail;go_ret2;unfold Bf;rw[HN.o];exact⟨rfl,v1,HI3.o,vS.o,HV.o⟩
     ·have g1:decide (v< -1099511627776)=false:=by simpa using hlo
      by_cases hhi:1099511627776<v
      ·have g2:decide (1099511627776<v)=true:=by simpa using hhi
       have HN:=zh (show uz s=none by rw[HF.o,ae (fun h=>by have :=h.2.2;omega)]);clear hlo hhi;go_wp2_with fail;go_ret2;unfold Bf;rw[HN.o];exact⟨rfl,v1,HI3.o,vS.o,HV.o⟩
      ·have g2:decide (1099511627776<v)=false:=by simpa using hhi
       have HN:=zh (show uz s=some v by rw[HF.o,ah ⟨HIT.o,by omega,by omega⟩]);clear hlo hhi;go_wp2_with fail;go_ret2;unfold Bf;rw[HN.o,ai5 HS.o lI.o];exact⟨rfl,gG.trans vS.o HV.o (ai7 HI3.o)⟩
    ·have hE:(Lib.itoa v==Tt.toList)=false:=by rw[HT.o,jE];simpa using hi
     have HN:=zh (show uz s=none by rw[HF.o,ae (fun h=>hi h.1)]);clear hi hb3;go_wp2_with fail;go_ret2;unfold Bf;rw[HN.o];exact⟨rfl,v1,HI3.o,vS.o,HV.o⟩
   ·have HN:=zh (show uz s=none from(Rz s).trans (ai2 hv));clear hb2 hv;go_wp2_with fail;go_ret2;unfold Bf;rw[HN.o];exact⟨rfl,v1,HI2.o,xE.o,HV.o⟩
end
