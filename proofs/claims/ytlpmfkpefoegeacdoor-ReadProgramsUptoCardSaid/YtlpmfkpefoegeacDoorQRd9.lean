import Derived.Test.YtlpmfkpefoegeacDoorQRd7
import Derived.Test.YtlpmfkpefoegeacDoorPRead4
namespace Go.Proofs.YtlpmfkpefoegeacDoor
set_option maxRecDepth 100000
set_option maxHeartbeats 16000000
set_option linter.all false
open Go.RowKit
section
variable {B base g : Nat} {vv v1 : Value} {r r1 r2 : Rd} {w w1 w2 : World}
theorem Zc2:∀(n:Nat)(hn:n<=24)(d:Int)(hd:d=25 - (n:Int))(vv:Value)(r:Rd)(w:World),RdI B base g vv r w->Calls Tryd.prog 26 #[.pointer (some ⟨g,0,none⟩),.int .i64 d] w (RTm B base g vv (Zap n r) w)
 |0,hn,d,hd,vv,r,w,h=>ZdI d (by omega) h
 |n+1,hn,d,hd,vv,r,w,h=>by
  have IH:=fun(vv:Value)(r:Rd)(w:World)h=>Zc2 n (by omega) (d+1) (by omega) vv r w h;by_cases hb:r.bad=true
  ·have e:Zap (n+1) r=(tmz,r.space.kill):=by rw[Zap,if_pos hb]
   rw[e];exact ZdJ d (by omega) hb h
  ·have hb':r.bad=false:=by simpa using hb
   have e:Zap (n+1) r=match Zad r.s with|[]=>(tmz,r.space.kill)|c::rest=>Zb2 (Zap n) c rest r.vars:=by rw[Zap,if_neg hb];cases Zad r.s<;>rfl
   rw[e];cases hs:Zad r.s with
    |nil=>exact ZdK d (by omega) hb' hs h
    |cons c rest=>
     simp only;unfold Zb2;split;·rename_i hu;have h1:=ZfW d (by omega) c rest hb' hs (up_iff.1 hu) h;unfold ZgD at h1;simp only[hb']at h1;exact h1
     ·rename_i hu;split;·rename_i h33;have h1:=Zeu d (by omega) c rest hb' hs (by rw[h33];rfl) h;simp only[hb']at h1;exact h1
      ·rename_i h33;split
       ·rename_i hn;have hnr:Zb6 r c rest=match Za3 ((c::rest).take (Zaf (c::rest)))with|some k=>(.mk 2 k ⟨#[]⟩ [],⟨(c::rest).drop (Zaf (c::rest)),r.vars,false⟩)|none=>(.mk 2 0 ⟨#[]⟩ [],⟨c::rest,r.vars,true⟩):=by unfold Zb6 ZbB;simp only[hb'];cases Za3 ((c::rest).take (Zaf (c::rest)))<;>rfl
        have h1:Calls Tryd.prog 26 #[.pointer (some ⟨g,0,none⟩),.int .i64 d] w (RTm B base g vv (Zb6 r c rest) w):=by
         rcases hn with h45|hdg;·exact Zev d (by omega) c rest hb' hs (by rw[h45];rfl) h
         ·exact Zew d (by omega) c rest hb' hs (dig_iff.1 hdg) h
        rw[hnr]at h1;exact h1
       ·rename_i hn;exact ZeE n d (by omega) (by omega) IH c rest hb' hs ⟨by simpa using hu,h33,hn⟩ h
structure GLoop (B base g : Nat) (vv : Value) (l : List Tm) (rr : Rd) (vr va : Value) (w0 wr : World) : Prop where
  rd : RdI B base g vr rr wr
  ch : Ch (RdM g vv) w0 wr
  vg : VG w0 vv vr
  own : OwnR wr w0.heap.size 27 4 Tm.rep (fun b => w0.heap.size ≤ b ∧ ¬ RdM g vr b) l va
  na : ∀ b, Zaw va = some b → ¬ RdM g vr b
  ll : l.length + rr.s.length ≤ 2001
section
variable {l : List Tm} {rr rr2 : Rd} {vr vr2 va : Value} {w0 wr w5 : World}
theorem GLoop.move(h:GLoop B base g vv l rr vr va w0 wr)(k1:RdI B base g vr2 rr2 w5)(k2:Ch (RdM g vr) wr w5)(k3:VG wr vr vr2)(hll:l.length+rr2.s.length<=2001):GLoop B base g vv l rr2 vr2 va w0 w5:=by have hn2:∀b,b<wr.heap.size->¬RdM g vr b->¬RdM g vr2 b:=fun b hb hn e=>(VG.rm k3 b e).elim hn (fun e=>by omega);exact⟨k1,h.ch.trans k2 (VG.rm h.vg),h.vg.trans k3 h.ch.size,((h.own.mono (A':=fun b=>(w0.heap.size<=b/\¬RdM g vr2 b)/\¬RdM g vr b) Tm.rep_lasts (fun b hb hA=>⟨⟨hA.1,hn2 b hb hA.2⟩,hA.2⟩)).keeps (B:=fun b=>¬RdM g vr b) Tm.rep_lasts (k2.keeps fun _ _ h=>h) (fun _ h=>h.2) h.na).mono Tm.rep_lasts (fun b _ hb=>hb.1),fun b hb=>hn2 b (h.own.lt b hb).2 (h.na b hb),hll⟩
theorem GLoop.push{t:Tm}{v2:Value}{w6:World}{cells:Array Value}(h:GLoop B base g vv l rr vr va w0 wr)(hB:B<=w0.heap.size)(hown:OwnR w6 w0.heap.size 27 4 Tm.rep (fun b=>w0.heap.size<=b/\¬RdM g vr b) (l++[t]) v2)(hg:Grew (wr.alloc (.cells cells 27)) w6 va v2)(hll:l.length+1+rr.s.length<=2001):GLoop B base g vv (l++[t]) rr vr v2 w0 w6:=by
 have hown2:∀b,Zaw va=some b->w0.heap.size<=b/\b<wr.heap.size:=h.own.lt;have hk:Keeps (fun b=>Zaw va≠some b) wr w6:=(Keeps.alloc _ _ _).trans (hg.keeps fun b hb=>hb);refine⟨h.rd.keeps (hk.mono fun b hb hA e=>?_),hg.ch (h.ch.alloc _) (fun b hb=> .inr (hown2 b hb).1),h.vg,hown,fun b hb=>?_,?_⟩
 ·rcases hA with hA|hA;·have :=(hown2 b e).1;omega
  ·exact h.na b e hA
 ·rcases hg.block with e|e;·exact h.na b (e▸hb)
  ·have h1:=e b hb;simp only[World.size_alloc]at h1;exact fun hm=>by have :=h.rd.rm_lt b hm;omega
 ·simp only[List.length_append,List.length_singleton];omega
end
def RGl(B base g:Nat)(vv:Value)(x:List Tm×Rd)(w:World)(e:Ending)(w':World):Prop:=∃lv vv',e= .returned lv/\RdI B base g vv' x.2 w'/\Ch (RdM g vv) w w'/\VG w vv vv'/\ZdA (fun b=>w.heap.size<=b/\¬RdM g vv' b) w' x.1 lv/\x.1.length<=2001
theorem ZeF{f:Rd->Tm×Rd}{k:Nat}{l:List Tm}{r:Rd}(hb:r.bad=false)(ha:((f r).2.at_ [44]).1=false):Zal f (k+1) l r=(l++[(f r).1],((f r).2.at_ [44]).2):=by rw[Zal,if_neg (by rw[hb];simp),if_neg (by rw[ha];simp)]
theorem ZeG{f:Rd->Tm×Rd}{k:Nat}{l:List Tm}{r:Rd}(hb:r.bad=false)(ha:((f r).2.at_ [44]).1=true):Zal f (k+1) l r=Zal f k (l++[(f r).1]) ((f r).2.at_ [44]).2:=by rw[Zal,if_neg (by rw[hb];simp),if_pos ha]
theorem Zfi(h:RdI B base g vv r w):Calls Tryd.prog 23 #[.pointer (some ⟨g,0,none⟩)] w (RGl B base g vv (ZaU r) w):=by
 have HU:=zh h;have hBx:B<=w.heap.size:=by have :=h.bg;omega
 have HLN:=zh h.len;have HG0:=zh (show ZaU r=((Zal (Zap 24) (r.s.length+1) [] r).1,(Zal (Zap 24) (r.s.length+1) [] r).2.must [46])from rfl);have HL0:Hd (GLoop B base g vv [] r vv (.slice none 0 0) w w):=zh ⟨h,Ch.refl _ _,VG.refl _ _,OwnR.nil ..,fun b hb=>by simp[Zaw]at hb,by have :=h.len;simp only[List.length_nil];omega⟩;clear h;go_enter Tryd.func23,Tryd.ntmps23;go_upto_block 0 with fail;go_cut[3](fun va wx=>∃vx,GLoop B base g vv (Zal (Zap 24) (r.s.length+1) [] r).1 (Zal (Zap 24) (r.s.length+1) [] r).2 vx va w wx);case first=>
  go_wp2_with fail;go_loopw[3](fun va wr=>∃(k:Nat)(l:List Tm)(rr:Rd)(vr:Value),GLoop B base g vv l rr vr va w wr/\Zal (Zap 24) (r.s.length+1) [] r=Zal (Zap 24) (k+1) l rr/\rr.s.length<=k/\l.length+rr.s.length<=2000)(fun _ wr=>Zd7 g wr);case atStart=>exact⟨r.s.length,[],r,vv,HL0.o,rfl,zL _,by have :=HLN.o;simp only[List.length_nil];omega⟩
  case round=>
   obtain⟨k,l,rr,vr,hT,hargs,hk,hll⟩:=hrel;have HTL:=zh hT;have HAR:=zh hargs;have HKL:=zh hk;have HLL:=zh hll;obtain⟨pa,pc,rfl,hpl,hpm⟩:=OwnR.val' hT.own;obtain⟨b0,b1,b2,bf⟩:=hT.rd.cells;have hgl:=hT.rd.lt.1;clear hT hargs hk hll HL0;cases hbd:rr.bad with
    |true=>rw[hbd]at b2;have HBD:=zh (show Zal (Zap 24) (r.s.length+1) [] r=(l,rr)by rw[HAR.o,ZbO _ _ _ hbd]);clear hbd;go_wp2_with fail;go_meet;case rel=>rw[HBD.o];exact⟨_,HTL.o⟩
    |false=>
     rw[hbd]at b2;have HBD:=zh hbd;obtain⟨X,hX⟩:∃X,X=Zap 24 rr:=⟨_,rfl⟩;have hcall:=Zc2 (B:=B) (base:=base) (g:=g) 24 (by omega) 1 (by omega) vr rr wr HTL.o.rd;have hxl:=Zbg 24 rr;rw[<-hX]at hcall hxl;have HCALL:=zh hcall;have HXE:=zh hX;have HXL:=zh hxl;clear hbd hcall hX hxl;go_wp2_with fail;refine HCALL.o.mono ?_;rintro e w5⟨us,vr2,rfl,k1,k2,k3,k4⟩;obtain⟨ua,uc,rfl, -⟩:=Tm.rep4 k4;have hol:=HTL.o.own.lt;have HT5:=zh (HTL.o.move k1 k2 k3 (by have :=HXL.o;have :=HLL.o;omega));have HCH0:=zh HTL.o.ch.size;have HN5:=zh (show Tm.rep (fun b=>(w.heap.size<=b/\¬RdM g vr2 b)/\Zaw (.slice pa l.length pc)≠some b) w5 X.1 _ from Tm.rep_lasts.2.1 _ _ _ _ _ k4 fun b _ hb=>⟨⟨Nat.le_trans HCH0.o hb.1,hb.2⟩,fun e=>by have :=(hol b e).2;have :=hb.1;omega⟩);have HLE:=zh (show l.length<4194304/\w.heap.size<=w5.heap.size from⟨by have :=HLL.o;omega,HT5.o.ch.size⟩);clear k1 k2 k3 k4 b0 b1 b2 bf hgl;go_wp2_with(at_builtin;go_must(refine Zau rfl (.tmp 9) (.tmp 12) 22 rfl w.heap.size 27 4 56 tyTerm Tm.rep_lasts (A:=fun b=>w.heap.size<=b/\¬RdM g vr2 b) (.slice pa l.length pc) l rfl HT5.o.own X.1 [_,_,_,_] (by rfl) rfl HN5.o HLE.o ?_);go_must(intro v2 w6 hown hg;obtain⟨pa2,pc2,hv2, -⟩:=OwnR.val' hown;rw[show(l++[X.1]).length=l.length+1 by simp]at hv2;subst hv2;have HT7:=zh (HT5.o.push hBx hown hg (by have :=HXL.o;have :=HLL.o;omega));clear hown hg));have HAT:Hd (Calls Tryd.prog 27 #[.pointer (some ⟨g,0,none⟩),.string ⟨#[44]⟩] w6 _):=zh (ZcA [44] (by simp) HT7.o.rd);refine HAT.o.mono ?_;rintro e w8⟨rfl,v8,k1,k2,k3⟩;have hal:=ZaY (sg:=[44]) X.2;have HT8:=zh (HT7.o.move k1 k2 k3 (by have :=HXL.o;have :=HLL.o;have :=hal.1;simp only[List.length_append,List.length_singleton];omega));have HAL:=zh hal;clear k1 k2 k3 hal;cases hat:(X.2.at_ [44]).1 with
      |false=>have HAT2:=zh (show Zal (Zap 24) (r.s.length+1) [] r=(l++[X.1],(X.2.at_ [44]).2)by rw[HAR.o,ZeF HBD.o (by rw[<-HXE.o];exact hat),<-HXE.o]);clear hat;go_wp2_with fail;go_meet;case rel=>rw[HAT2.o];exact⟨_,HT8.o⟩
      |true=>
       have HAT2:=zh (show Zal (Zap 24) (r.s.length+1) [] r=Zal (Zap 24) k (l++[X.1]) (X.2.at_ [44]).2 by rw[HAR.o,ZeG HBD.o (by rw[<-HXE.o];exact hat),<-HXE.o]);have HAL2:=zh (HAL.o.2 hat);clear hat;go_wp2_with fail;go_roundw;case rel=>have h1:=HAL2.o;have h2:=HXL.o;have h3:=HKL.o;have h4:=HLL.o;simp only[List.length_singleton]at h1;exact⟨k - 1,l++[X.1],(X.2.at_ [44]).2,v8,HT8.o,by rw[HAT2.o,show k - 1+1=k by omega],by omega,by simp only[List.length_append,List.length_singleton];omega⟩
       case measure=>have h1:=HAL2.o;have h2:=HXL.o;simp only[List.length_singleton]at h1;rw[ZaX HT8.o.rd,ZaX HTL.o.rd];omega
 case rest=>obtain⟨vx,hT⟩:=hcut;obtain⟨A,hA⟩:∃A,A=Zal (Zap 24) (r.s.length+1) [] r:=⟨_,rfl⟩;rw[<-hA]at hT;have HTL:=zh hT;have HA:=zh hA;obtain⟨pa,pc,rfl,hpl,hpm⟩:=OwnR.val' hT.own;clear hT hA HL0;have HAT:Hd (Calls Tryd.prog 27 #[.pointer (some ⟨g,0,none⟩),.string ⟨#[46]⟩] wc _):=zh (ZcA [46] (by simp) HTL.o.rd);go_wp2_with fail;refine HAT.o.mono ?_;rintro e w8⟨rfl,v8,k1,k2,k3⟩;have hal:=ZaY (sg:=[46]) A.2;have HT8:=zh (HTL.o.move k1 k2 k3 (by have :=HTL.o.ll;have :=hal.1;omega));clear k1 k2 k3 hal;cases hat:(A.2.at_ [46]).1 with|true=>have HM:=zh (show A.2.must [46]=(A.2.at_ [46]).2 by unfold Rd.must;rw[if_pos hat]);have HT9:=HT8;clear hat;go_wp2_with fail;go_ret;rw[HG0.o,<-HA.o,HM.o];exact⟨_,v8,rfl,HT9.o.rd,HT9.o.ch,HT9.o.vg,OwnR.sl' Tm.rep_lasts HT9.o.own (show A.1.length<=1048576 by have :=HT9.o.ll;omega) fun b hb=>⟨(HT9.o.own.lt b hb).1,HT9.o.na b hb⟩,by have :=HT9.o.ll;simp only;omega⟩|false=>have HM:=zh (show A.2.must [46]=(A.2.at_ [46]).2.kill by unfold Rd.must;rw[if_neg (by rw[hat];simp)]);obtain⟨b0,b1,b2,bf⟩:=HT8.o.rd.cells;have hgl8:=HT8.o.rd.lt.1;obtain⟨v9,k1,k2,k3⟩:=HT8.o.rd.setBad true;have HT9:=zh (HT8.o.move k1 k2 k3 (by have :=HT8.o.ll;exact this));clear hat k1 k2 k3;go_wp2_with fail;go_ret;rw[HG0.o,<-HA.o,HM.o];exact⟨_,v9,rfl,HT9.o.rd,HT9.o.ch,HT9.o.vg,OwnR.sl' Tm.rep_lasts HT9.o.own (show A.1.length<=1048576 by have :=HT9.o.ll;omega) fun b hb=>⟨(HT9.o.own.lt b hb).1,HT9.o.na b hb⟩,by have :=HT9.o.ll;simp only;omega⟩
end
section
variable {B base g : Nat} {vv v1 : Value} {r r1 r2 : Rd} {w w0 w1 w2 : World}
theorem ZgY(s:Str)(hs:s.length<=2000)(hB:B<=w.heap.size)(ht:TabsK B w):RdI B (w.heap.size+1) w.heap.size (.slice none 0 0) ⟨s,[],false⟩ (w.alloc (.cells #[.string (bs s),.slice none 0 0,.bool false] 53)):=⟨ZaC _ _,OwnF.nil,ht.below ((zB _ _).alloc (zL _) _),⟨hB,by omega,by simp⟩,by simpa using hs⟩
theorem RdI.below_of(h:RdI B base g v1 r w1)(hg:w0.heap.size<=g)(hb:Below w0.heap.size w0 w1)(hc:Ch (RdM g v1) w1 w2):Below w0.heap.size w0 w2:=((Ch.of_below (M:=fun b=>w0.heap.size<=b) hb).trans hc fun b e=>by
 rcases e with e|e;·exact .inl (by omega)
 ·exact .inl (by have :=(h.vars.lt b e).1;have :=h.bg;omega)).below fun k hk=>by omega
end
end Go.Proofs.YtlpmfkpefoegeacDoor
