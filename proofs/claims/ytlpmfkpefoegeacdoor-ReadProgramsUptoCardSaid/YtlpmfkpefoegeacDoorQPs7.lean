import Derived.Test.YtlpmfkpefoegeacDoorQPs6
namespace Go.Proofs.YtlpmfkpefoegeacDoor
set_option maxRecDepth 100000
set_option maxHeartbeats 16000000
set_option linter.all false
open Go.RowKit
section
variable {base g : Nat} {lv vv v1 : Value} {p p1 p2 : Ps} {w w1 w2 : World}
theorem Zhc{c:UInt8}(h1:¬upB c=true)(h2:¬(c=45\/ZaR c=true)):upB c=false/\ZaR c=false/\c≠45:=by
 refine⟨by simpa using h1,?_,fun e=>h2 (.inl e)⟩;by_cases e:ZaR c=true;·exact absurd (.inr e) h2
 ·simpa using e
theorem Zcj:∀(n:Nat)(hn:n<=24)(lv vv:Value)(p:Ps)(w:World),PsI base g lv vv p w->Calls Tryd.prog 30 #[.pointer (some ⟨g,0,none⟩),.int .i64 (n:Int)] w (PTm base g vv (Zah n p) w)
 |0,hn,lv,vv,p,w,h=>Zb8 0 Za6 (.inr rfl) h
 |n+1,hn,lv,vv,p,w,h=>by
  have hd:I64 ((n+1:Nat):Int)/\((n+1:Nat):Int)≠0:=⟨by unfold I64;omega,by omega⟩;have IH:∀(lv vv:Value)(p:Ps)(w:World),PsI base g lv vv p w->Calls Tryd.prog 30 #[.pointer (some ⟨g,0,none⟩),.int .i64 (((n+1:Nat):Int) - 1)] w (PTm base g vv (Zah n p) w):=by rw[show((n+1:Nat):Int) - 1=(n:Int)by omega];exact fun lv vv p w h=>Zcj n (by omega) lv vv p w h
  cases hl:p.l with
   |nil=>
    have e:Zah (n+1) p=(tmz,p.kill):=by rw[Zah,hl]
    rw[e];exact Zb8 _ hd.1 (.inl (by rw[hl];rfl)) h
   |cons t r=>
    cases t with
     |nil=>
      have e:Zah (n+1) p=(tmz,p.kill):=by rw[Zah,hl]
      rw[e];exact Zb8 _ hd.1 (.inl (by rw[hl];rfl)) h
     |cons c q=>
      have e:Zah (n+1) p=if Zba c=false/\upB c=false/\ZaR c=false/\c≠45/\c::q≠[33]then(tmz,p.kill)else ZcI (Zah n) c q {p with l:=r}:=by rw[Zah,hl]
      rw[e];split;·rename_i ho;exact Zfe _ hd c q r hl ho h
      ·rename_i ho;unfold ZcI;split;·rename_i h33;exact Zex _ hd c q r hl h33 h
       ·rename_i h33;split;·rename_i hu;exact Zf3 _ hd c q r hl (up_iff.1 hu) h
        ·rename_i hu;split
         ·rename_i hn;have h1:Calls Tryd.prog 30 #[.pointer (some ⟨g,0,none⟩),.int .i64 ((n+1:Nat):Int)] w (PTm base g vv (Zgp (c::q) {p with l:=r}) w):=by
           rcases hn with h45|hdg;·exact Zey _ hd c q r hl (by rw[h45];rfl) h
           ·exact Zez _ hd c q r hl (dig_iff.1 hdg) h
          unfold Zgp at h1;cases hvv:Za3 (c::q)with|none=>rw[hvv]at h1;exact h1|some k=>rw[hvv]at h1;exact h1
         ·rename_i hn;obtain⟨k1,k2,k3⟩:=Zhc hu hn;have hlow:Zba c=true:=by
           by_cases e:Zba c=true;·exact e
           ·exact absurd ⟨by simpa using e,k1,k2,k3,h33⟩ ho
          exact ZeA n _ hd IH (by omega) c q r hl hlow h
structure PGLoop (base g : Nat) (vv : Value) (l : List Tm) (pp : Ps) (lr vr va : Value) (w0 wr : World) : Prop where
  ps : PsI base g lr vr pp wr
  ch : Ch (RdM g vv) w0 wr
  vg : VG w0 vv vr
  own : OwnR wr w0.heap.size 27 4 Tm.rep (fun b => w0.heap.size ≤ b ∧ ¬ RdM g vr b) l va
  na : ∀ b, Zaw va = some b → ¬ RdM g vr b
  ll : l.length + pp.l.length ≤ 2001
section
variable {l : List Tm} {pp pp2 : Ps} {lr lr2 vr vr2 va : Value} {w0 wr w5 : World}
theorem PGLoop.move(h:PGLoop base g vv l pp lr vr va w0 wr)(k1:PsI base g lr2 vr2 pp2 w5)(k2:Ch (RdM g vr) wr w5)(k3:VG wr vr vr2)(hll:l.length+pp2.l.length<=2001):PGLoop base g vv l pp2 lr2 vr2 va w0 w5:=by have hn2:∀b,b<wr.heap.size->¬RdM g vr b->¬RdM g vr2 b:=fun b hb hn e=>(VG.rm k3 b e).elim hn (fun e=>by omega);exact⟨k1,h.ch.trans k2 (VG.rm h.vg),h.vg.trans k3 h.ch.size,((h.own.mono (A':=fun b=>(w0.heap.size<=b/\¬RdM g vr2 b)/\¬RdM g vr b) Tm.rep_lasts (fun b hb hA=>⟨⟨hA.1,hn2 b hb hA.2⟩,hA.2⟩)).keeps (B:=fun b=>¬RdM g vr b) Tm.rep_lasts (k2.keeps fun _ _ h=>h) (fun _ h=>h.2) h.na).mono Tm.rep_lasts (fun b _ hb=>hb.1),fun b hb=>hn2 b (h.own.lt b hb).2 (h.na b hb),hll⟩
theorem PGLoop.push{t:Tm}{v2:Value}{w6:World}{cells:Array Value}(h:PGLoop base g vv l pp lr vr va w0 wr)(hB:g<w0.heap.size)(hown:OwnR w6 w0.heap.size 27 4 Tm.rep (fun b=>w0.heap.size<=b/\¬RdM g vr b) (l++[t]) v2)(hg:Grew (wr.alloc (.cells cells 27)) w6 va v2)(hll:l.length+1+pp.l.length<=2001):PGLoop base g vv (l++[t]) pp lr vr v2 w0 w6:=by
 have hown2:∀b,Zaw va=some b->w0.heap.size<=b/\b<wr.heap.size:=h.own.lt;have hk:Keeps (fun b=>Zaw va≠some b) wr w6:=(Keeps.alloc _ _ _).trans (hg.keeps fun b hb=>hb);refine⟨h.ps.keeps (hk.mono fun b hb hA e=>?_),hg.ch (h.ch.alloc _) (fun b hb=> .inr (hown2 b hb).1),h.vg,hown,fun b hb=>?_,?_⟩
 ·rcases hA with hA|hA;·have :=(hown2 b e).1;omega
  ·exact h.na b e hA
 ·rcases hg.block with e|e;·exact h.na b (e▸hb)
  ·have h1:=e b hb;simp only[World.size_alloc]at h1;exact fun hm=>by have :=h.ps.rm_lt b hm;omega
 ·simp only[List.length_append,List.length_singleton];omega
end
theorem Zf5{α:Type}{R:(Nat->Prop)->World->α->List Value->Prop}(hR:Lasts R){A:Nat->Prop}{w:World}{x:α}{us:List Value}{size:Nat}{E:TypeId}(hx:R (fun b=>A b/\b≠w.heap.size) w x us)(hl:us.length=size)(base:Nat)(hb:base<=w.heap.size):OwnR (w.alloc (.cells us.toArray E)) base E size R A [x] (.slice (some ⟨w.heap.size,0,none⟩) 1 1):=by refine⟨[us],rfl,⟨by simp[hl],.inr ⟨w.heap.size,1,us.toArray,rfl,by omega,hb,heap_alloc_new _ _,by simp,by simp[maxLen],by simp[hl],by simp[<-hl]⟩⟩,fun i y vs hy hv=>?_⟩;cases i with|zero=>simp only[List.getElem?_cons_zero,Option.some.injEq]at hy hv;subst hy hv;exact⟨hl,hR.1 _ _ _ _ _ (hR.2.1 _ _ _ _ _ hx (fun b hb hb2=>⟨hb2.1,by simp[Zaw];exact fun e=>hb2.2 e.symm⟩)) (Keeps.alloc _ _ _)⟩|succ i=>simp at hy
theorem PGLoop.first{t:Tm}{pp:Ps}{lr vr:Value}{us:List Value}(k1:PsI base g lr vr pp w1)(k2:Ch (RdM g vv) w w1)(k3:VG w vv vr)(k4:Tm.rep (fun b=>w.heap.size<=b/\¬RdM g vr b) w1 t us)(hu:us.length=4)(hll:1+pp.l.length<=2001):PGLoop base g vv [t] pp lr vr (.slice (some ⟨w1.heap.size,0,none⟩) 1 1) w (w1.alloc (.cells us.toArray 27)):=by
 have hn:¬RdM g vr w1.heap.size:=fun e=>by have :=k1.rm_lt _ e;omega
 refine⟨k1.below ((zB _ _).alloc (zL _) _),k2.alloc _,k3,Zf5 Tm.rep_lasts (Tm.rep_lasts.2.1 _ _ _ _ _ k4 fun b hb h=>⟨h,by omega⟩) hu w.heap.size k2.size,fun b hb=>?_,by simpa using hll⟩;simp[Zaw]at hb;subst hb;exact hn
def PGl(base g:Nat)(vv:Value)(x:List Tm×Ps)(w:World)(e:Ending)(w':World):Prop:=∃gv lv' vv',e= .returned gv/\PsI base g lv' vv' x.2 w'/\Ch (RdM g vv) w w'/\VG w vv vv'/\ZdA (fun b=>w.heap.size<=b/\¬RdM g vv' b) w' x.1 gv/\x.1.length<=2001
theorem Zff(h:PsI base g lv vv p w):Calls Tryd.prog 32 #[.pointer (some ⟨g,0,none⟩)] w (PGl base g vv (ZaZ p) w):=by
 have HU:=zh h;have hBx:g<w.heap.size:=h.lt.1;have HLN:=zh h.len;obtain⟨X,hX⟩:∃X,X=Zah 24 p:=⟨_,rfl⟩;have hcall:=Zcj (base:=base) (g:=g) 24 (by omega) lv vv p w h;have hxl:=ZaJ 24 p;have HG0:=zh (show ZaZ p=((Zax (Zah 24) (X.2.l.length+1) [X.1] X.2).1,(Zax (Zah 24) (X.2.l.length+1) [X.1] X.2).2.must [46])by rw[hX];rfl);rw[<-hX]at hcall hxl;have HCALL:=zh hcall;have HXL:=zh hxl;clear h hX hcall hxl;go_enter Tryd.func32,Tryd.ntmps32;go_wp2_with fail;refine HCALL.o.mono ?_;rintro e w5⟨us,l5,v5,rfl,k1,k2,k3,k4⟩;obtain⟨ua,uc,rfl, -⟩:=Tm.rep4 k4;have HT0:=zh (PGLoop.first k1 k2 k3 k4 rfl (by have :=HXL.o;have :=HLN.o;omega));clear k1 k2 k3 k4 HCALL;go_upto_block 0 with fail;obtain⟨W5,hW5⟩:∃W5,W5=w5.alloc (.cells [.int .i64 X.1.kind,.int .i64 X.1.n,.string X.1.s,.slice ua X.1.args.length uc].toArray 27):=⟨_,rfl⟩;rw[<-hW5]at HT0 ⊢;obtain⟨va0,hva0⟩:∃va0,va0=Value.slice (some ⟨w5.heap.size,0,none⟩) 1 1:=⟨_,rfl⟩;rw[<-hva0]at HT0 ⊢;clear hW5 hva0;go_cut[3](fun va wx=>∃lx vx,PGLoop base g vv (Zax (Zah 24) (X.2.l.length+1) [X.1] X.2).1 (Zax (Zah 24) (X.2.l.length+1) [X.1] X.2).2 lx vx va w wx);case first=>
  go_wp2_with fail;go_loopw[3](fun va wr=>∃(k:Nat)(l:List Tm)(pp:Ps)(lr vr:Value),PGLoop base g vv l pp lr vr va w wr/\Zax (Zah 24) (X.2.l.length+1) [X.1] X.2=Zax (Zah 24) (k+1) l pp/\pp.l.length<=k/\l.length+pp.l.length<=2001)(fun _ wr=>ZgV g wr);case atStart=>exact⟨X.2.l.length,[X.1],X.2,_,_,HT0.o,rfl,zL _,by have :=HXL.o;have :=HLN.o;simp only[List.length_singleton];omega⟩
  case round=>
   obtain⟨k,l,pp,lr,vr,hT,hargs,hk,hll⟩:=hrel;have HTL0:=zh hT;have HAR:=zh hargs;have HKL:=zh hk;have HLL0:=zh hll;obtain⟨b0,b1,b2,bf⟩:=hT.ps.cells;have hgl:=hT.ps.lt.1;obtain⟨pa,pc,rfl,hpl,hpm⟩:=OwnR.val' hT.own;clear hT hargs hk hll HT0;cases hbd:pp.bad with
    |true=>have HBD:=zh (HAR.o.trans (Zdo hbd));rw[hbd]at b2;clear hbd;go_wp2_with fail;go_meet;case rel=>rw[HBD.o];exact⟨_,_,HTL0.o⟩
    |false=>
     have HBD:=zh hbd;rw[hbd]at b2;clear hbd;have HAT:Hd (Calls Tryd.prog 31 #[.pointer (some ⟨g,0,none⟩),.string ⟨#[44]⟩] wr _):=zh (Zby [44] HTL0.o.ps);go_wp2_with fail;refine HAT.o.mono ?_;rintro e w8⟨rfl,l8,v8,k1,k2,k3⟩;have htk:=ZaD (sg:=[44]) pp;have HT8:=zh (HTL0.o.move k1 k2 k3 (by have :=HLL0.o;have :=htk.1;omega));have HTK8:=zh htk;clear k1 k2 k3 htk b0 b1 b2 bf hgl HAT;cases hat:(pp.take [44]).1 with
      |false=>have HAT2:=zh (HAR.o.trans (Zea HBD.o hat));have HTS:=zh (ZaO hat);clear hat;go_wp2_with fail;go_meet;case rel=>rw[HAT2.o];have h8:=HT8.o;rw[HTS.o]at h8;exact⟨_,_,h8⟩
      |true=>
       have HAT2:=zh (HAR.o.trans (Zeb HBD.o hat));have HAL2:=zh (HTK8.o.2 hat);clear hat;obtain⟨p8,hp8⟩:∃p8,p8=(pp.take [44]).2:=⟨_,rfl⟩;rw[<-hp8]at HT8 HAT2 HAL2;obtain⟨Y,hY⟩:∃Y,Y=Zah 24 p8:=⟨_,rfl⟩;rw[<-hY]at HAT2;have hcall:=Zcj (base:=base) (g:=g) 24 (by omega) l8 v8 p8 w8 HT8.o.ps;rw[<-hY]at hcall;have HCALL:=zh hcall;have HYL:=zh (show Y.2.l.length<=p8.l.length by rw[hY];exact ZaJ 24 p8);clear hcall hY hp8;go_wp2_with fail;refine HCALL.o.mono ?_;rintro e w9⟨us,l9,v9,rfl,k1,k2,k3,k4⟩;obtain⟨ya,yc,rfl, -⟩:=Tm.rep4 k4;have hol:=HT8.o.own.lt;have HT9:=zh (HT8.o.move k1 k2 k3 (by have :=HYL.o;have :=HLL0.o;have :=HAL2.o;omega));have HCH0:=zh HT8.o.ch.size;have HN5:=zh (show Tm.rep (fun b=>(w.heap.size<=b/\¬RdM g v9 b)/\Zaw (.slice pa l.length pc)≠some b) w9 Y.1 _ from Tm.rep_lasts.2.1 _ _ _ _ _ k4 fun b _ hb=>⟨⟨Nat.le_trans HCH0.o hb.1,hb.2⟩,fun e=>by have :=(hol b e).2;have :=hb.1;omega⟩);have HLE:=zh (show l.length<4194304/\w.heap.size<=w9.heap.size from⟨by have :=HLL0.o;omega,HT9.o.ch.size⟩);clear k1 k2 k3 k4;go_wp2_with(at_builtin;go_must(refine Zau rfl (.tmp 16) (.tmp 19) 22 rfl w.heap.size 27 4 56 tyTerm Tm.rep_lasts (A:=fun b=>w.heap.size<=b/\¬RdM g v9 b) (.slice pa l.length pc) l rfl HT9.o.own Y.1 [_,_,_,_] (by rfl) rfl HN5.o HLE.o ?_);go_must(intro v2 w6 hown hg;obtain⟨pa2,pc2,hv2, -⟩:=OwnR.val' hown;rw[show(l++[Y.1]).length=l.length+1 by simp]at hv2;subst hv2;have HT7:=zh (HT9.o.push hBx hown hg (by have :=HYL.o;have :=HLL0.o;have :=HAL2.o;omega));clear hown hg));go_roundw;case rel=>have h1:=HAL2.o;have h2:=HYL.o;have h3:=HKL.o;have h4:=HLL0.o;exact⟨k - 1,l++[Y.1],Y.2,_,_,HT7.o,by rw[HAT2.o,show k - 1+1=k by omega],by omega,by simp only[List.length_append,List.length_singleton];omega⟩
       case measure=>have h1:=HAL2.o;have h2:=HYL.o;rw[Zb7 HT7.o.ps,Zb7 HTL0.o.ps];omega
 case rest=>
  obtain⟨lx2,vx2,hT⟩:=hcut;obtain⟨A,hA⟩:∃A,A=Zax (Zah 24) (X.2.l.length+1) [X.1] X.2:=⟨_,rfl⟩;rw[<-hA]at hT;have HTL:=zh hT;have HA:=zh hA;obtain⟨b0,b1,b2,bf⟩:=hT.ps.cells;have hgl:=hT.ps.lt.1;obtain⟨pa,pc,rfl,hpl,hpm⟩:=OwnR.val' hT.own;clear hT hA HT0;go_upto_region 4 with fail;go_cut[](fun wx=>∃lx vx,PGLoop base g vv A.1 (A.2.must [46]) lx vx (.slice pa A.1.length pc) w wx);case first=>
   cases hbd:A.2.bad with
    |true=>have HM:=zh (show A.2.must [46]={A.2 with bad:=true}by unfold Ps.must;rw[if_pos hbd,<-hbd]);rw[hbd]at b2;clear hbd;obtain⟨k1,k2⟩:=HTL.o.ps.setBad true;have HT9:=zh (HTL.o.move k1 k2 (VG.refl _ _) HTL.o.ll);clear k1 k2;go_wp2_with fail;go_meet;case rel=>rw[HM.o];exact⟨_,_,HT9.o⟩
    |false=>
     have HBD:=zh hbd;rw[hbd]at b2;clear hbd;have HAT:Hd (Calls Tryd.prog 31 #[.pointer (some ⟨g,0,none⟩),.string ⟨#[46]⟩] wc _):=zh (Zby [46] HTL.o.ps);go_wp2_with fail;refine HAT.o.mono ?_;rintro e w8⟨rfl,l8,v8,k1,k2,k3⟩;have htk:=ZaD (sg:=[46]) A.2;have HT8:=zh (HTL.o.move k1 k2 k3 (by have :=HTL.o.ll;have :=htk.1;omega));clear k1 k2 k3 htk b0 b1 b2 bf hgl HAT;obtain⟨b0,b1,b2,bf⟩:=HT8.o.ps.cells;have hgl:=HT8.o.ps.lt.1;cases hat:(A.2.take [46]).1 with
      |true=>
       have HM:=zh (show A.2.must [46]={(A.2.take [46]).2 with bad:=false}by
        unfold Ps.must;rw[if_neg (by rw[HBD.o];simp),if_pos hat];have e:(A.2.take [46]).2.bad=false:=by rw[ZcD];exact HBD.o
        rw[<-e]);clear hat;obtain⟨k1,k2⟩:=HT8.o.ps.setBad false;have HT9:=zh (HT8.o.move k1 k2 (VG.refl _ _) HT8.o.ll);clear k1 k2;go_wp2_with fail;go_meet;case rel=>rw[HM.o];exact⟨_,_,HT9.o⟩
      |false=>have HM:=zh (show A.2.must [46]={(A.2.take [46]).2 with bad:=true}by unfold Ps.must;rw[if_neg (by rw[HBD.o];simp),if_neg (by rw[hat];simp),ZaO hat];rfl);clear hat;obtain⟨k1,k2⟩:=HT8.o.ps.setBad true;have HT9:=zh (HT8.o.move k1 k2 (VG.refl _ _) HT8.o.ll);clear k1 k2;go_wp2_with fail;go_meet;case rel=>rw[HM.o];exact⟨_,_,HT9.o⟩
  case rest=>obtain⟨lx9,vx9,hT⟩:=hcut;have HT9:=zh hT;clear hT b0 b1 b2 bf hgl;go_wp2_with fail;go_ret;rw[HG0.o,<-HA.o];exact⟨_,_,_,rfl,HT9.o.ps,HT9.o.ch,HT9.o.vg,OwnR.sl' Tm.rep_lasts HT9.o.own (show A.1.length<=1048576 by have :=HT9.o.ll;omega) fun b hb=>⟨(HT9.o.own.lt b hb).1,HT9.o.na b hb⟩,by have :=HT9.o.ll;simp only;omega⟩
end
end Go.Proofs.YtlpmfkpefoegeacDoor
