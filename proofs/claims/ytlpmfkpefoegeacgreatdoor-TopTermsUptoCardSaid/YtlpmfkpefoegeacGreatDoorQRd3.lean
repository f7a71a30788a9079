import Derived.Test.YtlpmfkpefoegeacGreatDoorRows
import Derived.Deep.Slices
import Derived.Lib.SmallJoins
import Derived.Below
import Derived.ChangeSame
import Derived.Test.YtlpmfkpefoegeacGreatDoorROpenL
namespace Go.Proofs.YtlpmfkpefoegeacGreatDoor
set_option maxRecDepth 99999
set_option maxHeartbeats 0
set_option linter.all false
open Go.RowKit Go.WideShapes Go.ChangeShapes
section
variable {H : Type} {enc : TypeId × Value → H} {P : Program} {W : World} {base : Nat} {sp : Nat → Bool} {held : Bool}
end
section
variable {H : Type} {enc : TypeId × Value → H} {W : World} {base : Nat} {sp : Nat → Bool} {held : Bool}
end
section
variable {H : Type} {enc : TypeId × Value → H} {P : Program}
theorem ape{f:Func}{s:ChangeSpec}{apart fresh handsOn again:Bool}{W W':World}{args:Array Value}{v:Value}{ds gs:List (DataW H)}{before pa pv:List MemPlace}(hW:DataW.Whole enc P f.params.toList s.vars apart W args.toList ds gs before)(hres:∀(b:Nat)(sp:Nat->Bool)(hd:Bool),DataW.TrodAll enc P W' b sp hd f.resultTypes.toList (v.resultList f.resultTypes.size) (s.fn H (ds++gs)).results [])(hargs:∀sp:Nat->Bool,(∀p∈before,sp p.block=true)->DataW.TrodAll enc P W' 0 sp true f.params.toList args.toList (s.fn H (ds++gs)).args pa)(hvars:∀sp:Nat->Bool,(∀p∈before,sp p.block=true)->DataW.TrodVars enc P W' sp s.vars (s.fn H (ds++gs)).vars pv)(hps:before=pa++pv)(hb:Below W.heap.size W W')(hok:∀(j:Nat)(t:TypeId)(r:Value),f.resultTypes[j]?=some t->(v.resultList f.resultTypes.size)[j]?=some r->Value.okWide P W' .any 0 t r):s.post enc P f apart fresh handsOn again W args v W':=by
 have hlt:∀p∈before,p.block<W.heap.size:=fun p hp=>hW.lt p hp;have hold:∀p∈before,(fun b=>decide (b<W.heap.size)) p.block=true:=fun p hp=>by simpa using hlt p hp
 refine⟨ds,gs,before,[],pa,pv,hW,hres _ _ _,hargs _ hold,hvars _ hold,World.keptBut_mono (fun p hp=>⟨hp,?_⟩) (hb.frame (· ∈before)),fun _=>?_⟩;·rw[hps,iw]at hp;exact Or.inr hp
 ·obtain⟨_,_,_,_,_,hz,hn⟩:=hW;refine⟨hok,_,_,([]++pa)++pv,⟨[]++pa,pv,trodAll_append (hargs _ (fun _ _=>rfl)) (hres _ _ _),hvars _ (fun _ _=>rfl),rfl,?_,?_⟩,?_⟩
  ·intro b off hp;have hin:MemPlace.cell b off∈before:=by rw[hps];simpa using hp
   rw[hb.frozen (hlt _ hin)];exact hz b off hin
  ·intro ha;have :=hn ha;rw[hps]at this;simpa using this
  ·intro p hp _;rw[hps];simpa using hp
end
open Go.RowKit
theorem RV:(bs []).toList.isEmpty=true/\(bs []).toList=[]:=by rw[lN];exact⟨rfl,rfl⟩
theorem XQ(c:UInt8)(l:Str):(bs (c::l)).toList.isEmpty=false/\¬(bs (c::l)).toList=[]/\0<(bs (c::l)).size:=by rw[lN,eP];exact⟨rfl,by simp,by simp⟩
theorem JJ(c:UInt8)(l:Str)(h:0<(bs (c::l)).size):(bs (c::l))[0]=c:=M4 _ _ h
theorem Nn(c:UInt8)(l:Str):(bs (c::l)).extract 1 (bs (c::l)).size=bs l:=by rw[Ep,eP,List.drop_succ_cons,D6,kg (by simp)]
theorem Np{c:UInt8}:D9 c=true↔((c.toNat:Int)=32\/(c.toNat:Int)=10\/(c.toNat:Int)=9\/(c.toNat:Int)=13):=by
 have hsp:∀n:UInt8,(c==n)=decide (c.toNat=n.toNat):=fun n=>by rw[Bool.eq_iff_iff,rE,qE,QU]
 unfold D9;simp only[hsp,yC,qE];have e3:(32:UInt8).toNat=32:=rfl;have e4:(10:UInt8).toNat=10:=rfl;have e5:(9:UInt8).toNat=9:=rfl;have e6:(13:UInt8).toNat=13:=rfl;rw[e3,e4,e5,e6];omega
theorem RX{c:UInt8}{l:Str}(h:D9 c=true):bP (c::l)=bP l:=by unfold bP;rw[adF,G h]
theorem apf{c:UInt8}{l:Str}(h:¬D9 c=true):bP (c::l)=c::l:=by unfold bP;rw[adF,O h]
section
variable {B base g : Nat} {vv : Value} {r : Rd} {w : World}
theorem uL(h:bT B base g vv r w):Calls Tryz.prog 41 #[.pointer (some ⟨g,0,none⟩)] w (fun e w'=>e= .returned (.tuple #[])/\iK B base g vv r.space w w'):=by
 have HU:=Y h;clear h;go_enter Tryz.func41,Tryz.ntmps41;go_wp2_with fail;go_loopw[](fun wr=>∃s:Str,bP s=bP r.s/\iK B base g vv {r with s:=s} w wr)(fun wr=>uG g wr);case atStart=>exact⟨r.s,rfl,iK.refl HU.o⟩
 case round=>
  obtain⟨s,hs,v1,hI,hch,hv⟩:=hrel;have HI:=Y hI;have HS:=Y hs;have aM:=Y hch;have HV:=Y hv;obtain⟨b0,b1,b2,bf⟩:=hI.cells;have hgl:=hI.lt.1;clear hI hs hch hv;cases s with
   |nil=>
    obtain⟨t1,t2⟩:=RV;go_wp2_with fail;refine Cc (v:= .tuple #[]) (by simp[results,Tryz.results41,go_sem]) rfl ?_;have e:r.space={r with s:=[]}:=by unfold Rd.space;rw[<-HS.o];rfl
    rw[e];exact⟨rfl,v1,HI.o,aM.o,HV.o⟩
   |cons c rest=>
    obtain⟨t1,t2,t3⟩:=XQ c rest;have hget:=JJ c rest t3;have HG:=Y hget;clear hget;by_cases e0:(c.toNat:Int)=32
    ·have f0:(((bs (c::rest))[0].toNat:Int)==32)=true:=by rw[HG.o];simpa using e0
     have HC:=Y (Np.2 (.inl e0));clear e0;go_wp2_with fail;obtain⟨v2,k1,k2,k3⟩:=iK.trans aM.o HV.o (HI.o.Er rest (by simp));have hmu:uG g (wr.setCell ⟨g,0,none⟩ (.string (bs rest)))<uG g wr:=by rw[uH k1,uH HI.o];simp
     rw[Nn];exact⟨⟨rest,by rw[<-HS.o,RX HC.o],v2,k1,k2,k3⟩,hmu⟩
    ·have f0:(((bs (c::rest))[0].toNat:Int)==32)=false:=by rw[HG.o];simpa using e0
     by_cases e1:(c.toNat:Int)=10
     ·have f1:(((bs (c::rest))[0].toNat:Int)==10)=true:=by rw[HG.o];simpa using e1
      have HC:=Y (Np.2 (.inr (.inl e1)));clear e0 e1;go_wp2_with fail;obtain⟨v2,k1,k2,k3⟩:=iK.trans aM.o HV.o (HI.o.Er rest (by simp));have hmu:uG g (wr.setCell ⟨g,0,none⟩ (.string (bs rest)))<uG g wr:=by rw[uH k1,uH HI.o];simp
      rw[Nn];exact⟨⟨rest,by rw[<-HS.o,RX HC.o],v2,k1,k2,k3⟩,hmu⟩
     ·have f1:(((bs (c::rest))[0].toNat:Int)==10)=false:=by rw[HG.o];simpa using e1
      by_cases e2:(c.toNat:Int)=9
      ·have f2:(((bs (c::rest))[0].toNat:Int)==9)=true:=by rw[HG.o];simpa using e2
       have HC:=Y (Np.2 (.inr (.inr (.inl e2))));clear e0 e1 e2;go_wp2_with fail;obtain⟨v2,k1,k2,k3⟩:=iK.trans aM.o HV.o (HI.o.Er rest (by simp));have hmu:uG g (wr.setCell ⟨g,0,none⟩ (.string (bs rest)))<uG g wr:=by rw[uH k1,uH HI.o];simp
       rw[Nn];exact⟨⟨rest,by rw[<-HS.o,RX HC.o],v2,k1,k2,k3⟩,hmu⟩
      ·have f2:(((bs (c::rest))[0].toNat:Int)==9)=false:=by rw[HG.o];simpa using e2
       by_cases e3:(c.toNat:Int)=13
       ·have f3:(((bs (c::rest))[0].toNat:Int)==13)=true:=by rw[HG.o];simpa using e3
        have HC:=Y (Np.2 (.inr (.inr (.inr (e3)))));clear e0 e1 e2 e3;go_wp2_with fail;obtain⟨v2,k1,k2,k3⟩:=iK.trans aM.o HV.o (HI.o.Er rest (by simp));have hmu:uG g (wr.setCell ⟨g,0,none⟩ (.string (bs rest)))<uG g wr:=by rw[uH k1,uH HI.o];simp
        rw[Nn];exact⟨⟨rest,by rw[<-HS.o,RX HC.o],v2,k1,k2,k3⟩,hmu⟩
       ·have f3:(((bs (c::rest))[0].toNat:Int)==13)=false:=by rw[HG.o];simpa using e3
        have HC:=Y (show ¬D9 c=true from fun h=>by have :=Np.1 h;omega);clear e0 e1 e2 e3;go_wp2_with fail;refine Cc (v:= .tuple #[]) (by simp[results,Tryz.results41,go_sem]) rfl ?_;have e:r.space={r with s:=c::rest}:=by unfold Rd.space;rw[<-HS.o,apf HC.o]
        rw[e];exact⟨rfl,v1,HI.o,aM.o,HV.o⟩
end
theorem apg{sg s:Str}(h:sg.length<=s.length):sg <+: s↔s.take sg.length=sg:=by rw[List.prefix_iff_eq_take];exact eq_comm
section
variable {B base g : Nat} {vv : Value} {r : Rd} {w : World}
theorem GR(sg:Str)(hsg:sg.length<=1000)(h:bT B base g vv r w):Calls Tryz.prog 51 #[.pointer (some ⟨g,0,none⟩),.string (bs sg)] w (fun e w'=>e= .returned (.bool (r.at_ sg).1)/\iK B base g vv (r.at_ sg).2 w w'):=by
 have HU:=Y h;have dN:=Y (uL h);have hz1:(bs sg).size<=1000:=by rw[eP];exact hsg
 clear h hsg;go_enter Tryz.func51,Tryz.ntmps51;go_wp2_with fail;refine dN.o.mono ?_;rintro e w1⟨rfl,v1,h1,c1,o1⟩;have HI:=Y h1;have aM:=Y c1;have HV:=Y o1;obtain⟨b0,b1,b2,bf⟩:=h1.cells;have hgl:=h1.lt.1;have hlen:=h1.len;have e0:r.space.s=bP r.s:=rfl;rw[e0]at b0 hlen;have hz2:(bs (bP r.s)).size<=2000:=by rw[eP];omega
 have hu:Rd.at_ sg r=if sg <+: bP r.s then(true,{r with s:=(bP r.s).drop sg.length})else(false,r.space):=rfl;have HA:=Y hu;clear h1 c1 o1 hlen hu e0;by_cases hl:(bP r.s).length<sg.length
 ·have hd:decide ((bs (bP r.s)).size<(bs sg).size)=true:=by rw[eP,eP];simpa using hl
  have hp:¬sg <+: bP r.s:=fun h=>by have :=h.length_le;omega
  have HP:=Y hp;clear hl hp;go_wp2_with fail;go_ret;rw[HA.o,O HP.o];exact⟨rfl,v1,HI.o,aM.o,HV.o⟩
 ·have hd:decide ((bs (bP r.s)).size<(bs sg).size)=false:=by rw[eP,eP];simpa using hl
  have hle:(bs sg).size<=(bs (bP r.s)).size:=by rw[eP,eP];omega
  have hpi:=apg (sg:=sg) (s:=bP r.s) (by omega);by_cases ht:(bP r.s).take sg.length=sg
  ·have hE:(((bs (bP r.s)).extract 0 (bs sg).size).toList==(bs sg).toList)=true:=by rw[Ep,lN,lN,eP,D6,Mh,ht];simp
   have HP:=Y (hpi.2 ht);clear hl hpi ht;go_wp2_with fail;go_ret;rw[HA.o,G HP.o];have hx:(bs (bP r.s)).extract (bs sg).size (bs (bP r.s)).size=bs ((bP r.s).drop sg.length):=by rw[Ep,eP,eP,kg (by simp)]
   rw[hx];exact⟨rfl,iK.trans aM.o HV.o (HI.o.Er _ (by rw[yA];exact Nat.sub_le _ _))⟩
  ·have hE:(((bs (bP r.s)).extract 0 (bs sg).size).toList==(bs sg).toList)=false:=by rw[Ep,lN,lN,eP,D6,Mh];simpa using ht
   have HP:=Y (show ¬sg <+: bP r.s from fun h=>ht (hpi.1 h));clear hl hpi ht;go_wp2_with fail;go_ret;rw[HA.o,O HP.o];exact⟨rfl,v1,HI.o,aM.o,HV.o⟩
theorem Nq{s:Str}{k:Nat}(hk:k<=dB s):k<=s.length:=by cases s with|nil=>simpa[dB]using hk|cons c r=>have :Gf r<=r.length:=(amT _).length_le;rw[WM]at hk;simp only[bn];split at hk<;>omega
theorem JK{c:UInt8}:yD c=true↔97<=(c.toNat:Int)/\(c.toNat:Int)<=122:=by unfold yD;simp;omega
theorem GU{c:UInt8}:Cf c=true↔65<=(c.toNat:Int)/\(c.toNat:Int)<=90:=by unfold Cf;simp;omega
theorem RY{p:UInt8->Bool}:∀(l:Str)(k:Nat)(hk:k<l.length),k<=(l.takeWhile p).length->(k+1<=(l.takeWhile p).length↔p l[k]=true)|c::r,0,hk,h=>by rw[adA,BV];cases p c<;>simp|c::r,k+1,hk,h=>by rw[adA]at h ⊢;rw[Mc];cases hp:p c with|false=>rw[hp]at h;simp at h|true=>rw[hp]at h;simp only[if_true,bn]at h ⊢;have :=RY (p:=p) r k (by simpa using hk) (by omega);rw[Nat.add_le_add_iff_right];exact this
theorem aph{s:Str}{k:Nat}(hk:k<=dB s)(hl:k<s.length):k+1<=dB s↔(yD s[k]=true\/(k=0/\Cf (s[0]'(by omega))=true)):=by
 cases s with
  |nil=>simp at hl
  |cons c r=>
   rw[WM]at hk ⊢;cases k with
    |zero=>
     simp only[BV,dx];by_cases h:(yD c||Cf c)=true;·rw[G h];simp only[yC]at h;exact⟨fun _=>h,fun _=>by omega⟩
     ·rw[O h];simp only[yC]at h;exact⟨fun e=>by omega,fun e=>absurd e h⟩
    |succ k=>
     split at hk
     ·rename_i h;rw[G h];have h1:k<=Gf r:=by omega
      have :=RY (p:=yD) r k (by simpa using hl) h1;rw[Mc];constructor;·intro e;exact .inl (this.1 (by unfold Gf at e;omega))
      ·rintro(e|⟨e,_⟩);·have :=this.2 e;unfold Gf;omega
       ·omega
     ·omega
theorem XR{s:Str}{S:ByteArray}{k:Nat}(hS:S=bs s)(hk:k=dB s):S.extract k S.size=bs (s.drop (dB s)):=by rw[hS,Ep,eP,hk,kg (by simp)]
theorem XT{s:Str}{S:ByteArray}{k:Nat}(hS:S=bs s)(hk:k=dB s):S.extract 0 k=bs (s.take (dB s)):=by rw[hS,Ep,hk];simp
theorem JL{B base g:Nat}{vv:Value}{r:Rd}{w:World}{s:Str}(h:bT B base g vv r.space w)(hs:bP r.s=s):iK B base g vv {r with s:=s.drop (dB s)} w (w.setCell ⟨g,0,none⟩ (.string (bs (s.drop (dB s))))):=by have :=h.Er (s.drop (dB s)) (by rw[<-hs];show _<=(bP r.s).length;rw[yA];exact Nat.sub_le _ _);exact this
theorem afu(s:Str)(hs:bP r.s=s)(h:bT B base g vv r w):Calls Tryz.prog 88 #[.pointer (some ⟨g,0,none⟩)] w (fun e w'=>e= .returned (.string (bs (s.take (dB s))))/\iK B base g vv {r with s:=s.drop (dB s)} w w'):=by
 have HU:=Y h;have nZ:=Y hs;have dN:=Y (uL h);clear h hs;go_enter Tryz.func88,Tryz.ntmps88;go_wp2_with fail;refine dN.o.mono ?_;rintro e w1⟨rfl,v1,h1,c1,o1⟩;have HI:=Y h1;have aM:=Y c1;have HV:=Y o1;obtain⟨b0,b1,b2,bf⟩:=h1.cells;have hgl:=h1.lt.1;have hlen:=h1.len;have e0:r.space.s=bP r.s:=rfl;rw[e0,nZ.o]at b0 hlen;obtain⟨S,hS⟩:∃S,S=bs s:=⟨_,rfl⟩;rw[<-hS]at b0;have hz1:S.size=s.length:=by rw[hS,eP]
 have HS:=Y hS;have HZ:=Y hz1;have hz2:S.size<=2000:=by omega
 have hsl:s.length<=2000:=by omega
 clear h1 c1 o1 hlen e0 hS hz1;go_wp2_with fail;go_loopw[3](fun i wr=>∃k:Nat,k<=dB s/\i= .int .i64 (k:Int)/\wr=w1)(fun i _=>s.length - (intOf i).toNat);case atStart=>exact⟨0,dA _,rfl,rfl⟩
 case round=>
  obtain⟨k,hk,rfl,rfl⟩:=hrel;have hks:=Nq hk;have hk0:(0:Int)<=(k:Int):=zN _;by_cases hlt:k<s.length
  ·have hd:decide (k<S.size)=true:=by rw[HZ.o];simpa using hlt
   have hd':k<S.size:=by rw[HZ.o];exact hlt
   have hz:0<S.size:=by omega
   have hg1:S[k]=s[k]:=by have e:=HS.o;subst e;exact M4 s k hd'
   have hg0:S[0]=s[0]'(by omega):=by have e:=HS.o;subst e;exact M4 s 0 hz
   have HG:=Y (And.intro hg1 hg0);have HM:=Y (aph hk hlt);have hsame:k=0->s[0]'(by omega)=s[k]:=fun e=>by subst e;rfl
   have hn:k=0->((s[0]'(by omega)).toNat:Int)=(s[k].toNat:Int):=fun e=>by rw[hsame e]
   clear hg1 hg0 hsame;have hcs:(97<=(s[k].toNat:Int)/\(s[k].toNat:Int)<=122)\/(0<k/\(s[k].toNat:Int)<97)\/(k=0/\(s[k].toNat:Int)<97/\(s[k].toNat:Int)<65)\/(k=0/\65<=(s[k].toNat:Int)/\(s[k].toNat:Int)<=90)\/(k=0/\90<(s[k].toNat:Int)/\(s[k].toNat:Int)<97)\/(0<k/\122<(s[k].toNat:Int))\/(k=0/\122<(s[k].toNat:Int)):=by omega
   have hb0:0<=(s[k].toNat:Int):=by omega
   rcases hcs with h1|h1|h1|h1|h1|h1|h1
   ·obtain⟨h1,h2⟩:=h1;have f1:decide ((97:Int)<=(S[k].toNat:Int))=true:=by rw[HG.o.1];exact qG (by omega)
    have f2:decide ((S[k].toNat:Int)<=(122:Int))=true:=by rw[HG.o.1];exact qG (by omega)
    have hgo:=HM.o.2 (.inl (JK.2 (by omega)));have hle:=uB (am7 hgo) (Nq (zL _));have lT:=Y hgo;clear h1 h2 hn hgo hle;go_wp2_with fail;all_goals
     first
      |
       (
        go_roundw;case rel=>exact⟨k+1,lT.o,by go_num,by first|rfl|trivial⟩
        case measure=>simp[intOf];omega)
   ·obtain⟨h1,h2⟩:=h1;have f1:decide ((97:Int)<=(S[k].toNat:Int))=false:=by rw[HG.o.1];exact decide_eq_false (by omega)
    have f3:((k:Int)==0)=false:=by rw[Ak];omega
    have hno:¬k+1<=dB s:=fun e=>by
     rcases HM.o.1 e with h9|⟨h9,h8⟩;·have :=JK.1 h9;omega
     ·omega
    have mF:k=dB s:=by have :=hk;omega
    have kI:=Y mF;clear h1 h2 hn hno mF;go_wp2_with fail;go_ret;rw[XT HS.o kI.o,XR HS.o kI.o];exact⟨rfl,iK.trans aM.o HV.o (JL HI.o nZ.o)⟩
   ·obtain⟨h1,h2,h3⟩:=h1;subst h1;have f1:decide ((97:Int)<=(S[0].toNat:Int))=false:=by rw[HG.o.2];exact decide_eq_false (by omega)
    have f4:decide ((65:Int)<=(S[0].toNat:Int))=false:=by rw[HG.o.2];exact decide_eq_false (by omega)
    have hno:¬0+1<=dB s:=fun e=>by
     rcases HM.o.1 e with h9|⟨h9,h8⟩;·have :=JK.1 h9;omega
     ·have :=GU.1 h8;omega
    have mF:0=dB s:=by have :=hk;omega
    have kI:=Y mF;clear h2 h3 hn hno mF;go_wp2_with fail;go_ret;have hw:=JL HI.o nZ.o;rw[<-kI.o,D6,<-HS.o]at hw;rw[<-kI.o,D6,nD];exact⟨rfl,iK.trans aM.o HV.o hw⟩
   ·obtain⟨h1,h2,h3⟩:=h1;subst h1;have f1:decide ((97:Int)<=(S[0].toNat:Int))=false:=by rw[HG.o.2];exact decide_eq_false (by omega)
    have f4:decide ((65:Int)<=(S[0].toNat:Int))=true:=by rw[HG.o.2];exact qG (by omega)
    have f5:decide ((S[0].toNat:Int)<=(90:Int))=true:=by rw[HG.o.2];exact qG (by omega)
    have hgo:=HM.o.2 (.inr ⟨rfl,GU.2 (by omega)⟩);have hle:=uB (am7 hgo) (Nq (zL _));have lT:=Y hgo;clear h2 h3 hn hgo hle;go_wp2_with fail;all_goals
     first
      |
       (
        go_roundw;case rel=>exact⟨0+1,lT.o,by go_num,by first|rfl|trivial⟩
        case measure=>simp[intOf];omega)
   ·obtain⟨h1,h2,h3⟩:=h1;subst h1;have f1:decide ((97:Int)<=(S[0].toNat:Int))=false:=by rw[HG.o.2];exact decide_eq_false (by omega)
    have f4:decide ((65:Int)<=(S[0].toNat:Int))=true:=by rw[HG.o.2];exact qG (by omega)
    have f5:decide ((S[0].toNat:Int)<=(90:Int))=false:=by rw[HG.o.2];exact decide_eq_false (by omega)
    have hno:¬0+1<=dB s:=fun e=>by
     rcases HM.o.1 e with h9|⟨h9,h8⟩;·have :=JK.1 h9;omega
     ·have :=GU.1 h8;omega
    have mF:0=dB s:=by have :=hk;omega
    have kI:=Y mF;clear h2 h3 hn hno mF;go_wp2_with fail;go_ret;have hw:=JL HI.o nZ.o;rw[<-kI.o,D6,<-HS.o]at hw;rw[<-kI.o,D6,nD];exact⟨rfl,iK.trans aM.o HV.o hw⟩
   ·obtain⟨h1,h2⟩:=h1;have f1:decide ((97:Int)<=(S[k].toNat:Int))=true:=by rw[HG.o.1];exact qG (by omega)
    have f2:decide ((S[k].toNat:Int)<=(122:Int))=false:=by rw[HG.o.1];exact decide_eq_false (by omega)
    have f3:((k:Int)==0)=false:=by rw[Ak];omega
    have hno:¬k+1<=dB s:=fun e=>by
     rcases HM.o.1 e with h9|⟨h9,h8⟩;·have :=JK.1 h9;omega
     ·omega
    have mF:k=dB s:=by have :=hk;omega
    have kI:=Y mF;clear h1 h2 hn hno mF;go_wp2_with fail;go_ret;rw[XT HS.o kI.o,XR HS.o kI.o];exact⟨rfl,iK.trans aM.o HV.o (JL HI.o nZ.o)⟩
   ·obtain⟨h1,h2⟩:=h1;subst h1;have f1:decide ((97:Int)<=(S[0].toNat:Int))=true:=by rw[HG.o.2];exact qG (by omega)
    have f2:decide ((S[0].toNat:Int)<=(122:Int))=false:=by rw[HG.o.2];exact decide_eq_false (by omega)
    have f4:decide ((65:Int)<=(S[0].toNat:Int))=true:=by rw[HG.o.2];exact qG (by omega)
    have f5:decide ((S[0].toNat:Int)<=(90:Int))=false:=by rw[HG.o.2];exact decide_eq_false (by omega)
    have hno:¬0+1<=dB s:=fun e=>by
     rcases HM.o.1 e with h9|⟨h9,h8⟩;·have :=JK.1 h9;omega
     ·have :=GU.1 h8;omega
    have mF:0=dB s:=by have :=hk;omega
    have kI:=Y mF;clear h2 hn hno mF;go_wp2_with fail;go_ret;have hw:=JL HI.o nZ.o;rw[<-kI.o,D6,<-HS.o]at hw;rw[<-kI.o,D6,nD];exact⟨rfl,iK.trans aM.o HV.o hw⟩
  ·have hd:decide (k<S.size)=false:=by rw[HZ.o];simpa using hlt
   have mF:k=dB s:=by have :=Nq (Nat.le_refl (dB s));omega
   have kI:=Y mF;have hle:k<=S.size:=by rw[HZ.o];exact hks
   clear mF;go_wp2_with fail;go_ret;rw[XT HS.o kI.o,XR HS.o kI.o];exact⟨rfl,iK.trans aM.o HV.o (JL HI.o nZ.o)⟩
end
