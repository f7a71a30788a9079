import Derived.Test.YtlpmfkpefoegeacGreatDoorQRd6
import Derived.Deep.DeepCutAuto
import Derived.Deep.CutBlock
namespace Go.Proofs.YtlpmfkpefoegeacGreatDoor
set_option maxRecDepth 99999
set_option maxHeartbeats 0
set_option linter.all false
open Go.RowKit
structure uC (B base g x y : Nat) (vv : Value) (W : Str) (l : List Tm) (rr : Rd) (vr va : Value) (w0 wr : World) : Prop where
  rd : bW B base g vr rr wr
  ch : Ch (aU g vv) w0 wr
  vg : VG w0 vv vr
  bx : wr.heap[x]? = some (.cells #[.int .i64 0, .int .i64 0, .string ⟨#[]⟩, .slice none 0 0] 34 (0, 0))
  xH : wr.heap[y]? = some (.cells #[.int .i64 3, .int .i64 0, .string (bs W), va] 34 (0, 0))
  nx : ¬ aU g vr x
  ny : ¬ aU g vr y
  own : aI wr (y + 1) 34 4 Tm.rep (fun b => y + 1 ≤ b ∧ ¬ aU g vr b) l va
  na : ∀ b, ownB va = some b → ¬ aU g vr b
  xy : x = w0.heap.size ∧ x < y ∧ y < wr.heap.size
  ll : l.length + rr.s.length ≤ 2001
section
variable {B base g : Nat} {vv v1 : Value} {r r1 r2 : Rd} {w w1 w2 : World}
theorem ajo{x y:Nat}{o o':Obj}(hs:gG B base g v1 r2 w1 w2)(hx:w1.heap[x]?=some o)(hn:¬aU g v1 x)(hy:w1.heap[y]?=some o')(hm:¬aU g v1 y):∃v2,bW B base g v2 r2 w2/\Ch (aU g v1) w1 w2/\VG w1 v1 v2/\w2.heap[x]?=some o/\¬aU g v2 x/\w2.heap[y]?=some o'/\¬aU g v2 y:=by
 obtain⟨v2,h1,h2,h3⟩:=hs;have hl:=aD hx;have hl':=aD hy;refine⟨v2,h1,h2,h3,(h2.block x hl hn).trans hx,fun e=>?_,(h2.block y hl' hm).trans hy,fun e=>?_⟩
 ·rcases VG.rm h3 x e with e|e;·exact hn e
  ·omega
 ·rcases VG.rm h3 y e with e|e;·exact hm e
  ·omega
section
variable {x y : Nat} {Wd : Str} {l : List Tm} {rr vT : Rd} {vr kr va : Value} {w0 wr w5 : World}
theorem uC.move(h:uC B base g x y vv Wd l rr vr va w0 wr)(k1:bW B base g kr vT w5)(k2:Ch (aU g vr) wr w5)(k3:VG wr vr kr)(hll:l.length+vT.s.length<=2001):uC B base g x y vv Wd l vT kr va w0 w5:=by have hn2:∀b,b<wr.heap.size->¬aU g vr b->¬aU g kr b:=fun b hb hn e=>(VG.rm k3 b e).elim hn (fun e=>by omega);refine⟨k1,h.ch.trans k2 (VG.rm h.vg),h.vg.trans k3 h.ch.size,(k2.block x (aD h.bx) h.nx).trans h.bx,(k2.block y (aD h.xH) h.ny).trans h.xH,hn2 _ (aD h.bx) h.nx,hn2 _ (aD h.xH) h.ny,((h.own.mono (A':=fun b=>(y+1<=b/\¬aU g kr b)/\¬aU g vr b) Tm.aA (fun b hb hA=>⟨⟨hA.1,hn2 b hb hA.2⟩,hA.2⟩)).keeps (B:=fun b=>¬aU g vr b) Tm.aA (k2.keeps fun _ _ h=>h) (fun _ h=>h.2) h.na).mono Tm.aA (fun b _ hb=>hb.1),fun b hb=>hn2 b (h.own.lt b hb).2 (h.na b hb),⟨h.xy.1,h.xy.2.1,Et h.xy.2.2 k2.size⟩,hll⟩
theorem uC.drew(h:uC B base g x y vv Wd l rr vr va w0 wr):uC B base g x y vv Wd l rr vr va w0 wr.drew:=h.move (h.rd.below (zB _ _).drew) ((Ch.refl _ _).drew) (VG.refl _ _) h.ll
theorem uC.push{t:Tm}{v2:Value}{w6:World}{cells:Array Value}(h:uC B base g x y vv Wd l rr vr va w0 wr)(hB:B<=x)(hown:aI w6 (y+1) 34 4 Tm.rep (fun b=>y+1<=b/\¬aU g vr b) (l++[t]) v2)(hg:iX (wr.alloc (.cells cells 34)) w6 va v2)(hll:l.length+1+rr.s.length<=2001):uC B base g x y vv Wd (l++[t]) rr vr v2 w0 (w6.setCell ⟨y,3,none⟩ v2):=by
 have hz:=hg.size;simp only[bF]at hz;have hxy:=h.xy;have hown2:∀b,ownB va=some b->y+1<=b/\b<wr.heap.size:=h.own.lt;have hk:ag (fun b=>ownB va≠some b) wr w6:=(ag.alloc _ _ _).trans (hg.keeps fun b hb=>hb);have hk2:ag (fun b=>ownB va≠some b/\b≠y) wr (w6.setCell ⟨y,3,none⟩ v2):=(hk.mono fun b _ hb=>hb.1).trans (ag.setCell _ _ _ _ (fun e=>e.2 rfl));have hny:ownB va≠some y:=fun e=>by have :=(hown2 y e).1;omega
 have hnx:ownB va≠some x:=fun e=>by have :=(hown2 x e).1;omega
 refine⟨h.rd.keeps (hk2.mono fun b hb hA=>⟨fun e=>?_,fun e=>?_⟩),?_,h.vg,dE h.bx hk2 ⟨hnx,by omega⟩,bI (dE h.xH hk hny) 3 v2,h.nx,h.ny,hown.keeps (B:=fun b=>b≠y) Tm.aA (ag.setCell _ _ _ _ (fun e=>e rfl)) (fun b hb=>by omega) (fun b hb e=>?_),fun b hb=>?_,⟨hxy.1,hxy.2.1,by simp only[mZ];omega⟩,?_⟩
 ·rcases hA with hA|hA;·have :=(hown2 b e).1;omega
  ·exact h.na b e hA
 ·subst e;rcases hA with hA|hA;·omega
  ·exact h.ny hA
 ·exact(hg.ch (h.ch.alloc _) (fun b hb=> .inr (by have :=(hown2 b hb).1;omega))).setCell (p:=⟨y,3,none⟩) (.inr (by simp only;omega)) _
 ·subst e;rcases hg.block with e|e;·exact hny (e▸hb)
  ·have :=e b hb;simp only[bF]at this;omega
 ·rcases hg.block with e|e;·exact h.na b (e▸hb)
  ·have h1:=e b hb;simp only[bF]at h1;exact fun hm=>by have :=h.rd.CZ b hm;omega
 ·simp only[bA,dW];omega
end
theorem ajp{f:Rd->Tm×Rd}{k:Nat}{l:List Tm}{r:Rd}(h:(f r).2.bad=true):iI f (k+1) l r=(l++[(f r).1],(f r).2):=by rw[iI,ah h]
theorem ajq{f:Rd->Tm×Rd}{k:Nat}{l:List Tm}{r:Rd}(h:(f r).2.bad=false)(ha:((f r).2.at_ [44]).1=true):iI f (k+1) l r=iI f k (l++[(f r).1]) ((f r).2.at_ [44]).2:=by rw[iI,ae (by rw[h];simp),ah ha]
theorem ajr{f:Rd->Tm×Rd}{k:Nat}{l:List Tm}{r:Rd}(h:(f r).2.bad=false)(ha:((f r).2.at_ [44]).1=false):iI f (k+1) l r=(l++[(f r).1],((f r).2.at_ [44]).2):=by rw[iI,ae (by rw[h];simp),ae (by rw[ha];simp)]
theorem ajs(n:Nat)(d:Int)(hd:d<=24)(hd0:0<=d)(IH:∀(vv:Value)(r:Rd)(w:World),bW B base g vv r w->Calls Tryz.prog 50 #[.pointer (some ⟨g,0,none⟩),.int .i64 (d+1)] w (rY B base g vv (cz n r) w))(c:UInt8)(rest:Str)(hb:r.bad=false)(hs:bQ r.s=c::rest)(hc:yG c=false/\c≠33/\¬(c=45\/jX c=true))(h:bW B base g vv r w):Calls Tryz.prog 50 #[.pointer (some ⟨g,0,none⟩),.int .i64 d] w (rY B base g vv (AA (cz n) ((c::rest).take (dn (c::rest))) ⟨(c::rest).drop (dn (c::rest)),r.vars,false⟩) w):=by
 have HU:=zh h;have dV:=zh (qN (h.below ((zB _ _).alloc (zL _) y9)));have hBx:B<=w.heap.size:=by have :=h.bg;omega
 have hcs:=dz;have f1:decide (24<d)=false:=by simp;omega
 have HB:=zh hb;have HS:=zh hs;obtain⟨S,hS⟩:∃S,S=bs (c::rest):=⟨_,rfl⟩;have lH:=zh hS;have t1:S.toList.isEmpty=false:=by rw[hS,jE];rfl
 have t2:¬S.toList=[]:=by rw[hS,jE];simp
 have t3:0<S.size:=by rw[hS,dY];simp
 have hg0:S[0]=c:=by subst hS;exact Fb c rest t3
 have HG:=zh hg0;have hcn:¬(65<=(c.toNat:Int)/\(c.toNat:Int)<=90)/\(c.toNat:Int)≠33/\(c.toNat:Int)≠45/\¬(48<=(c.toNat:Int)/\(c.toNat:Int)<=57):=by obtain⟨k1,k2,k3⟩:=hc;refine⟨fun e=>?_,fun e=>k2 (Lt.1 (by have e33:(33:UInt8).toNat=33:=rfl;omega)),fun e=>k3 (.inl (Lt.1 (by have e45:(45:UInt8).toNat=45:=rfl;omega))),fun e=>k3 (.inr (IQ.2 e))⟩;rw[CW.2 e]at k1;cases k1
 have oN:=zh hcn;have HD0:=zh hd0;have RF:=zh IH;clear hc hcn IH hd hb hs hS hg0 h;go_enter Tryz.func50,Tryz.ntmps50;go_wp2_with fail;refine dV.o.mono ?_;rintro e w1⟨rfl,hst⟩;obtain⟨v1,h1,c1,g1,x1,hz1,n1⟩:=Bg HU.o hst;have HI:=zh h1;have bD:=zh c1;have HV:=zh g1;have HX:=zh x1;have HN:=zh n1;obtain⟨b0,b1,b2,bf⟩:=h1.cells;have hgl:=h1.lt.1;have hgx:¬g=w.heap.size:=fun e=>n1 (.inl e.symm);obtain⟨x0,x1,x2,x3,xf⟩:=aW x1;have e0:r.space.s=bQ r.s:=rfl;have e2:r.space.bad=r.bad:=rfl;rw[e0]at b0;rw[e2]at b2;clear hst h1 c1 g1 n1 e0 e2;rw[HB.o]at b2;rw[HS.o,<-lH.o]at b0;go_upto_region 6 with fail;go_cut[35](fun o wx=>o= .bool false/\wx=w1);case first=>
  by_cases RG:(65:Int)<=(c.toNat:Int)
  ·have f2:decide ((65:Int)<=(S[0].toNat:Int))=true:=by rw[HG.o];exact kJ (by omega)
   have f3:decide ((S[0].toNat:Int)<=(90:Int))=false:=by rw[HG.o];exact decide_eq_false (by have :=oN.o.1;omega)
   clear RG;go_wp2_with fail;go_meet;case rel=>exact⟨rfl,rfl⟩
  ·have f2:decide ((65:Int)<=(S[0].toNat:Int))=false:=by rw[HG.o];exact decide_eq_false (by omega)
   clear RG;go_wp2_with fail;go_meet;case rel=>exact⟨rfl,rfl⟩
 case rest=>
  obtain⟨rfl,ajt⟩:=hcut;subst ajt;have f4:((S[0].toNat:Int)==(33:Int))=false:=by rw[HG.o];rw[tY];exact oN.o.2.1
  have f5:((S[0].toNat:Int)==(45:Int))=false:=by rw[HG.o];rw[tY];exact oN.o.2.2.1
  go_upto_region 11 with fail;go_cut[58](fun o wx=>o= .bool false/\wx=wc);case first=>
   by_cases h48:(48:Int)<=(c.toNat:Int)
   ·have f6:decide ((48:Int)<=(S[0].toNat:Int))=true:=by rw[HG.o];exact kJ (by omega)
    have f7:decide ((S[0].toNat:Int)<=(57:Int))=false:=by rw[HG.o];exact decide_eq_false (by have :=oN.o.2.2.2;omega)
    clear h48;go_wp2_with fail;go_meet;case rel=>exact⟨rfl,rfl⟩
   ·have f6:decide ((48:Int)<=(S[0].toNat:Int))=false:=by rw[HG.o];exact decide_eq_false (by omega)
    clear h48;go_wp2_with fail;go_meet;case rel=>exact⟨rfl,rfl⟩
  case rest=>
   obtain⟨rfl,aju⟩:=hcut;subst aju;go_wp2_with fail;have HW:=zh (ZL (c::rest) (by rw[<-HS.o];exact Hu r.s) HI.o);refine HW.o.mono ?_;rintro e w2⟨rfl,eU⟩;obtain⟨v2,k1,k2,k3,k4,k5⟩:=nJ eU HX.o HN.o;obtain⟨vU,RH⟩:∃vU:Rd,vU=⟨(c::rest).drop (dn (c::rest)),r.vars,false⟩:=⟨_,rfl⟩;have er:({r.space with s:=(c::rest).drop (dn (c::rest))}:Rd)=vU:=by rw[RH,<-HB.o];rfl
   rw[er]at k1;have HI2:=zh k1;have dK:=zh (kS bD.o HV.o k2 k3);have bG:=zh k4;have nA:=zh k5;have HRR:=zh RH;have hl:=HI.o.len;have e0:r.space.s=c::rest:=HS.o;rw[e0]at hl;obtain⟨Wd,hWd⟩:∃Wd,Wd=(c::rest).take (dn (c::rest)):=⟨_,rfl⟩;rw[<-hWd];have HWD:=zh hWd;have hwl:(bs Wd).size<=2000:=by rw[hWd,dY,dS];omega
   have hz2:w.heap.size<w2.heap.size:=aD k4;clear eU k1 k2 k3 k4 k5 hl e0 b0 b1 b2 bf x0 x1 x2 x3 xf HW er RH hWd hgl;go_wp2_with fail;obtain⟨y,hy⟩:∃y,y=w2.heap.size:=⟨_,rfl⟩;obtain⟨W3,hW3⟩:∃W3,W3=w2.alloc (.cells #[.int .i64 1,.int .i64 0,.string (bs Wd),.slice none 0 0] 34):=⟨_,rfl⟩;have HB3:=zh (show Below w2.heap.size w2 W3 by rw[hW3];exact(zB _ _).alloc (zL _) _);have Bh:=zh (show W3.heap[y]?=some (.cells #[.int .i64 1,.int .i64 0,.string (bs Wd),.slice none 0 0] 34 (0,0))by rw[hW3,hy];exact bV _ _);have MJ:=zh (show ¬aU g v2 y by rw[hy];exact fun e=>by have :=HI2.o.CZ _ e;omega);have hxy:w.heap.size<y:=by omega
   have jY:=zh (aL bG.o HB3.o);have HI3:=zh (HI2.o.below HB3.o);have lG:=zh (And.intro (dK.o.1.tb HB3.o) dK.o.2);rw[<-hW3,<-hy];clear hW3 hy hz2;have HAT:Hd (Calls Tryz.prog 51 #[.pointer (some ⟨g,0,none⟩),.string ⟨#[40]⟩] W3 _):=zh (CV [40] (by simp) HI3.o);refine HAT.o.mono ?_;rintro e w3⟨rfl,vV⟩;obtain⟨v3,k1,k2,k3,k4,k5,k6,k7⟩:=ajo vV jY.o nA.o Bh.o MJ.o;have HI4:=zh k1;have j6:=zh (kS lG.o.1 lG.o.2 k2 (fun b hb=>(k3 b hb).imp id (fun e=>by have :=HB3.o.size;omega)));obtain⟨x0,x1,x2,x3,xf⟩:=aW k4;obtain⟨y0,y1,y2,y3,yf⟩:=aW k6;have hyl:=aD k6;have hxl:w.heap.size<w3.heap.size:=aD k4;have pR:=zh k4;have xI:=zh k6;have C9:=zh k5;have vW:=zh k7;have hyx:¬w.heap.size=y:=by omega
   have Z0:=zh (show AA (cz n) ((c::rest).take (dn (c::rest))) ⟨(c::rest).drop (dn (c::rest)),r.vars,false⟩=if(vU.at_ [40]).1=false then(.mk 1 0 (bs Wd) [],(vU.at_ [40]).2)else(.mk 3 0 (bs Wd) (iI (cz n) ((vU.at_ [40]).2.s.length+1) [] (vU.at_ [40]).2).1,(iI (cz n) ((vU.at_ [40]).2.s.length+1) [] (vU.at_ [40]).2).2.must [41])by rw[<-HWD.o,<-HRR.o];rfl);clear vV k1 k2 k3 k4 k5 k6 k7 HAT;cases hat:(vU.at_ [40]).1 with
    |false=>have HT:=zh hat;clear hat;go_wp2_with fail;rw[Z0.o,ah HT.o];refine cK (v:= .agg #[.int .i64 1,.int .i64 0,.string (bs Wd),.slice none 0 0]) (by simp[results,Tryz.results50,go_sem,hcs,x0,x1,x2,x3,hgx];try rfl) rfl ?_;exact uA HI4.o j6.o.1 j6.o.2 C9.o hBx (zb ZX uB (by omega))
    |true=>
     have HT:=zh (Z0.o.trans (ae (by rw[hat];simp)));clear hat;obtain⟨r1,hr1⟩:∃r1,r1=(vU.at_ [40]).2:=⟨_,rfl⟩;rw[<-hr1]at HI4 HT;have Z4:=zh (show r1.s.length<=2000 by have :=HI4.o.len;omega);clear hr1;go_upto_block 1 with fail;rw[HT.o];have xJ:Hd (uC B base g w.heap.size y vv Wd [] r1 v3 (.slice none 0 0) w (w3.setCell ⟨y,0,none⟩ (.int .i64 3))):=zh ⟨HI4.o.other vW.o (by omega),j6.o.1.setCell (p:=⟨y,0,none⟩) (.inr (by simp only;omega)) _,j6.o.2,dE (A:=fun b=>b≠y) pR.o (ag.setCell _ _ _ _ (fun e=>e rfl)) hyx,bI xI.o 0 _,C9.o,vW.o,aI.nil ..,fun b hb=>by simp[ownB]at hb,⟨rfl,hxy,by simp only[mZ];exact hyl⟩,by have :=Z4.o;simp only[fC];omega⟩;generalize w3.setCell ⟨y,0,none⟩ (.int .i64 3)=W4 at*;clear x0 x1 x2 x3 xf y0 y1 y2 y3 yf hyl hxl;go_cut[](fun wx=>∃vx va,uC B base g w.heap.size y vv Wd (iI (cz n) (r1.s.length+1) [] r1).1 (iI (cz n) (r1.s.length+1) [] r1).2 vx va w wx);case first=>
      go_wp2_with fail;go_loopw[](fun wr=>∃(k:Nat)(l:List Tm)(rr:Rd)(vr va:Value),uC B base g w.heap.size y vv Wd l rr vr va w wr/\iI (cz n) (r1.s.length+1) [] r1=iI (cz n) (k+1) l rr/\rr.s.length<=k/\l.length+rr.s.length<=2000)(fun wr=>qG g wr);case atStart=>exact⟨r1.s.length,[],r1,v3,.slice none 0 0,xJ.o,rfl,zL _,by simpa using Z4.o⟩
      case round=>
       obtain⟨k,l,rr,vr,va,hT,hargs,hk,hll⟩:=hrel;have eT:=zh hT;have ze:=zh hargs;have IV:=zh hk;have l6:=zh hll;have hlt:=hT.xy.2.2;obtain⟨pa,pc,rfl,hpl,hpm⟩:=aI.j5 hT.own;have hd24:d<=24:=by simpa using f1
       have hd0:=HD0.o;have hq3:wr.drew.cell? ⟨y,3,none⟩=some (.slice pa l.length pc):=(dw eT.o.drew.xH 3).trans rfl;obtain⟨X,hX⟩:∃X,X=cz n rr:=⟨_,rfl⟩;have hcall:=RF.o vr rr wr.drew eT.o.drew.rd;have hxl:=Hw n rr;rw[<-hX]at hcall hxl;have oD:=zh hcall;have jH:=zh hX;have pU:=zh hxl;clear hT hargs hk hll xJ hcall hX hxl;go_wp2_with fail;refine iY (F:=fun k w'=>k=1->w'.cell? ⟨y,3,none⟩=some (.slice pa l.length pc)) (by kernel_rfl) ?_;refine aC (i:=0) (v:=?_) rfl (Or.inl ⟨by rfl,?_⟩) (fun _=>hq3) ?_;rotate_left;·(intro w' hw;clear hw;go_simp<;>with_reducible rfl)
       try simp only[zP]
       refine aC (i:=1) (v:=?_) rfl (Or.inl ⟨by rfl,?_⟩) (fun _=>hq3) ?_;rotate_left;·(intro w' hw;obtain q3:=hw (by omega);go_simp<;>with_reducible rfl)
       try simp only[zP]
       refine aC (i:=2) (v:=?_) rfl (Or.inl ⟨by rfl,?_⟩) (fun _=>hq3) ?_;rotate_left;·(intro w' hw;clear hw;go_simp<;>with_reducible rfl)
       try simp only[zP]
       refine aC (i:=3) (v:=?_) rfl (Or.inl ⟨by rfl,?_⟩) (fun _=>hq3) ?_;rotate_left;·(intro w' hw;clear hw;go_simp<;>with_reducible rfl)
       try simp only[zP]
       refine aC (i:=4) (v:= .int .i64 (d+1)) rfl (Or.inl ⟨by rfl,?_⟩) (fun _=>hq3) ?_;·(intro w' hw;clear hw;go_simp;rw[IntKind.wrap_i64]<;>omega)
       try simp only[zP]
       refine aM (i:=5) (by kernel_rfl) (aF rfl (by rfl) ?_);go_simp;refine oD.o.mono ?_;rintro e w5⟨us,kr,rfl,k1,k2,k3,k4⟩;obtain⟨ua,uc,rfl, -⟩:=Tm.nk k4;have hol:=eT.o.own.lt;have zg:=zh (eT.o.drew.move k1 k2 k3 (by have :=pU.o;have :=l6.o;omega));have zi:=zh (show Tm.rep (fun b=>(y+1<=b/\¬aU g kr b)/\ownB (.slice pa l.length pc)≠some b) w5 X.1 _ from Tm.aA.2.1 _ _ _ _ _ k4 fun b _ hb=>⟨⟨by have :=hb.1;simp only[ig]at this;omega,hb.2⟩,fun e=>by have :=(hol b e).2;have :=hb.1;simp only[ig]at this;omega⟩);have IW:=zh (show w5.cell? ⟨y,3,none⟩=some (.slice pa l.length pc)from(dw zg.o.xH 3).trans rfl);have vX:=zh (show l.length<4194304/\y+1<=w5.heap.size from⟨by have :=l6.o;omega,zg.o.xy.2.2⟩);clear k1 k2 k3 k4 hq3;refine⟨fun _ _ _ _=>IW.o,?_⟩;refine aM (i:=6) (by kernel_rfl) (aF rfl (by rfl) ?_);go_simp;refine⟨fun _ _ _ _=>(ag.alloc (fun _=>True) w5 _).cell trivial IW.o,?_⟩;refine aM (i:=7) (by kernel_rfl) (aF rfl (by rfl) ?_);refine rH (.tmp 96) (.tmp 101) 23 rfl (y+1) 34 4 56 AL Tm.aA _ _ rfl zg.o.own X.1 [_,_,_,_] rfl rfl zi.o vX.o ?_;intro v2 w6 hown hg;have hny:ownB (.slice pa l.length pc)≠some y:=fun e=>by have :=(hol y e).1;omega
       have RI:ag (fun b=>ownB (.slice pa l.length pc)≠some b) w5 w6:=(ag.alloc _ _ _).trans (hg.keeps fun b hb=>hb);refine⟨fun _ _ _ _=>RI.cell hny IW.o,?_⟩;obtain⟨IX,IY,hv2, -⟩:=aI.j5 hown;rw[show(l++[X.1]).length=l.length+1 by simp]at hv2;subst hv2;have Da:=zh (zg.o.push hBx hown hg (by have :=pU.o;have :=l6.o;omega));have hq6:=aW (dE zg.o.xH RI hny);obtain⟨q0,q1,q2,q3,qf⟩:=hq6;clear hown hg RI;simp only[zP];refine aC (i:=8) (v:=?_) rfl (Or.inl ⟨by rfl,?_⟩) (fun h=>by omega) ?_;rotate_left;·(intro w' hw;clear hw;go_simp<;>with_reducible rfl)
       try simp only[zP]
       refine aM (i:=9) (by kernel_rfl) (aF rfl (by rfl) ?_);go_simp;refine⟨fun k0 hk0 _ h12=>?_,fU (by kernel_rfl) ?_ _⟩;·subst h12;exact absurd (show waits _ 9 1=true by kernel_rfl) (by rw[hk0];decide)
       generalize w6.setCell ⟨y,3,none⟩ _=W7 at*;obtain⟨b0,b1,b2,bf⟩:=Da.o.rd.cells;clear q0 q1 q2 q3 qf;cases hbd:X.2.bad with
        |true=>have oq:=zh (show iI (cz n) (r1.s.length+1) [] r1=(l++[X.1],X.2)by rw[ze.o,ajp (by rw[<-jH.o];exact hbd),<-jH.o]);rw[hbd]at b2;clear hbd;go_wp2_with fail;go_meet;case rel=>rw[oq.o];exact⟨_,_,Da.o⟩
        |false=>
         have oq:=zh hbd;rw[hbd]at b2;clear hbd;have HAT:Hd (Calls Tryz.prog 51 #[.pointer (some ⟨g,0,none⟩),.string ⟨#[44]⟩] W7 _):=zh (CV [44] (by simp) Da.o.rd);go_wp2_with fail;refine HAT.o.mono ?_;rintro e w8⟨rfl,v8,k1,k2,k3⟩;have hal:=at_len (sg:=[44]) X.2;have iB:=zh (Da.o.move k1 k2 k3 (by have :=pU.o;have :=l6.o;have :=hal.1;simp only[bA,dW];omega));have kP:=zh hal;clear k1 k2 k3 hal;cases hat:(X.2.at_ [44]).1 with
          |false=>have xK:=zh (show iI (cz n) (r1.s.length+1) [] r1=(l++[X.1],(X.2.at_ [44]).2)by rw[ze.o,ajr (by rw[<-jH.o];exact oq.o) (by rw[<-jH.o];exact hat),<-jH.o]);clear hat;go_wp2_with fail;go_meet;case rel=>rw[xK.o];exact⟨_,_,iB.o⟩
          |true=>
           have xK:=zh (show iI (cz n) (r1.s.length+1) [] r1=iI (cz n) k (l++[X.1]) (X.2.at_ [44]).2 by rw[ze.o,ajq (by rw[<-jH.o];exact oq.o) (by rw[<-jH.o];exact hat),<-jH.o]);have IZ:=zh (kP.o.2 hat);clear hat;go_wp2_with fail;go_roundw;case rel=>have h1:=IZ.o;have h2:=pU.o;have h3:=IV.o;have h4:=l6.o;simp only[dW]at h1;exact⟨k - 1,l++[X.1],(X.2.at_ [44]).2,v8,_,iB.o,by rw[xK.o,show k - 1+1=k by omega],by omega,by simp only[bA,dW];omega⟩
           case measure=>have h1:=IZ.o;have h2:=pU.o;simp only[dW]at h1;rw[qH iB.o.rd,qH eT.o.rd];omega
     case rest=>obtain⟨vx,va,hT⟩:=hcut;obtain⟨A,hA⟩:∃A,A=iI (cz n) (r1.s.length+1) [] r1:=⟨_,rfl⟩;rw[<-hA]at hT;have eT:=zh hT;have HA:=zh hA;obtain⟨pa,pc,rfl,hpl,hpm⟩:=aI.j5 hT.own;clear hT hA xJ;have HAT:Hd (Calls Tryz.prog 51 #[.pointer (some ⟨g,0,none⟩),.string ⟨#[41]⟩] wc _):=zh (CV [41] (by simp) eT.o.rd);go_wp2_with fail;refine HAT.o.mono ?_;rintro e w8⟨rfl,v8,k1,k2,k3⟩;have hal:=at_len (sg:=[41]) A.2;have iB:=zh (eT.o.move k1 k2 k3 (by have :=eT.o.ll;have :=hal.1;omega));clear k1 k2 k3 hal;cases hat:(A.2.at_ [41]).1 with|true=>have HM:=zh (show A.2.must [41]=(A.2.at_ [41]).2 by unfold Rd.must;rw[ah hat]);have eF:=iB;clear hat;obtain⟨q0,q1,q2,q3,qf⟩:=aW eF.o.xH;obtain⟨x0,x1,x2,x3,xf⟩:=aW eF.o.bx;have hyl:=eF.o.xy.2.2;go_wp2_with fail;rw[HT.o,<-HA.o,HM.o];refine cK (v:= .agg #[.int .i64 3,.int .i64 0,.string (bs Wd),.slice pa A.1.length pc]) (by simp[results,Tryz.results50,go_sem,hcs,x0,x1,x2,x3,q0,q1,q2,q3,hyx];try rfl) rfl ?_;refine uA eF.o.rd eF.o.ch eF.o.vg eF.o.nx hBx ?_;have hol:=eF.o.own.lt;refine Tm.gT.2 ⟨ZY,uB,by omega,_,rfl,aI.sl' Tm.aA (eF.o.own.mono Tm.aA fun b hb hA=>⟨⟨by omega,hA.2⟩,by omega⟩) (by have :=eF.o.ll;omega) fun b hb=>?_⟩;have h1:=(hol b hb).1;exact⟨⟨by omega,eF.o.na b hb⟩,by omega⟩|false=>have HM:=zh (show A.2.must [41]=(A.2.at_ [41]).2.kill by unfold Rd.must;rw[ae (by rw[hat];simp)]);obtain⟨b0,b1,b2,bf⟩:=iB.o.rd.cells;obtain⟨v9,k1,k2,k3⟩:=iB.o.rd.xz true;have eF:=zh (iB.o.move k1 k2 k3 (by have :=iB.o.ll;exact this));have hgy:¬g=y:=fun e=>iB.o.ny (.inl e.symm);clear hat k1 k2 k3;obtain⟨p0,p1,p2,p3,pf⟩:=aW iB.o.xH;obtain⟨o0,o1,o2,o3,of⟩:=aW iB.o.bx;obtain⟨q0,q1,q2,q3,qf⟩:=aW eF.o.xH;obtain⟨x0,x1,x2,x3,xf⟩:=aW eF.o.bx;have hyl:=eF.o.xy.2.2;go_wp2_with fail;rw[HT.o,<-HA.o,HM.o];refine cK (v:= .agg #[.int .i64 3,.int .i64 0,.string (bs Wd),.slice pa A.1.length pc]) (by simp[results,Tryz.results50,go_sem,hcs,x0,x1,x2,x3,q0,q1,q2,q3,o0,o1,o2,o3,p0,p1,p2,p3,hgx,hgy,hyx];try rfl) rfl ?_;refine uA eF.o.rd eF.o.ch eF.o.vg eF.o.nx hBx ?_;have hol:=eF.o.own.lt;refine Tm.gT.2 ⟨ZY,uB,by omega,_,rfl,aI.sl' Tm.aA (eF.o.own.mono Tm.aA fun b hb hA=>⟨⟨by omega,hA.2⟩,by omega⟩) (by have :=eF.o.ll;omega) fun b hb=>?_⟩;have h1:=(hol b hb).1;exact⟨⟨by omega,eF.o.na b hb⟩,by omega⟩
end
section
variable {B base g : Nat} {vv v1 : Value} {r r1 r2 : Rd} {w w1 w2 : World}
theorem RJ:∀(n:Nat)(hn:n<=24)(d:Int)(hd:d=25 - (n:Int))(vv:Value)(r:Rd)(w:World),bW B base g vv r w->Calls Tryz.prog 50 #[.pointer (some ⟨g,0,none⟩),.int .i64 d] w (rY B base g vv (cz n r) w)
 |0,hn,d,hd,vv,r,w,h=>aje d (by omega) h
 |n+1,hn,d,hd,vv,r,w,h=>by
  have IH:=fun(vv:Value)(r:Rd)(w:World)h=>RJ n (by omega) (d+1) (by omega) vv r w h;by_cases hb:r.bad=true
  ·have e:cz (n+1) r=(uh,r.space.kill):=by rw[cz,ah hb]
   rw[e];exact ajf d (by omega) hb h
  ·have hb':r.bad=false:=by simpa using hb
   have e:cz (n+1) r=match bQ r.s with|[]=>(uh,r.space.kill)|c::rest=>AB (cz n) c rest r.vars:=by rw[cz,ae hb];cases bQ r.s<;>rfl
   rw[e];cases hs:bQ r.s with
    |nil=>exact ajg d (by omega) hb' hs h
    |cons c rest=>
     simp only;unfold AB;split;·rename_i hu;have h1:=ajh d (by omega) c rest hb' hs (CW.1 hu) h;unfold C8 at h1;simp only[hb']at h1;exact h1
     ·rename_i hu;split;·rename_i RL;have h1:=ajl d (by omega) c rest hb' hs (by rw[RL];rfl) h;simp only[hb']at h1;exact h1
      ·rename_i RL;split
       ·rename_i hn;have hnr:rZ r c rest=match EB ((c::rest).take (dN (c::rest)))with|some k=>(.mk 2 k ⟨#[]⟩ [],⟨(c::rest).drop (dN (c::rest)),r.vars,false⟩)|none=>(.mk 2 0 ⟨#[]⟩ [],⟨c::rest,r.vars,true⟩):=by unfold rZ uz;simp only[hb'];cases EB ((c::rest).take (dN (c::rest)))<;>rfl
        have h1:Calls Tryz.prog 50 #[.pointer (some ⟨g,0,none⟩),.int .i64 d] w (rY B base g vv (rZ r c rest) w):=by
         rcases hn with h45|hdg;·exact ajm d (by omega) c rest hb' hs (by rw[h45];rfl) h
         ·exact ajn d (by omega) c rest hb' hs (IQ.1 hdg) h
        rw[hnr]at h1;exact h1
       ·rename_i hn;exact ajs n d (by omega) (by omega) IH c rest hb' hs ⟨by simpa using hu,RL,hn⟩ h
structure zk (B base g : Nat) (vv : Value) (l : List Tm) (rr : Rd) (vr va : Value) (w0 wr : World) : Prop where
  rd : bW B base g vr rr wr
  ch : Ch (aU g vv) w0 wr
  vg : VG w0 vv vr
  own : aI wr w0.heap.size 34 4 Tm.rep (fun b => w0.heap.size ≤ b ∧ ¬ aU g vr b) l va
  na : ∀ b, ownB va = some b → ¬ aU g vr b
  ll : l.length + rr.s.length ≤ 2001
section
variable {l : List Tm} {rr vT : Rd} {vr kr va : Value} {w0 wr w5 : World}
theorem zk.move(h:zk B base g vv l rr vr va w0 wr)(k1:bW B base g kr vT w5)(k2:Ch (aU g vr) wr w5)(k3:VG wr vr kr)(hll:l.length+vT.s.length<=2001):zk B base g vv l vT kr va w0 w5:=by have hn2:∀b,b<wr.heap.size->¬aU g vr b->¬aU g kr b:=fun b hb hn e=>(VG.rm k3 b e).elim hn (fun e=>by omega);exact⟨k1,h.ch.trans k2 (VG.rm h.vg),h.vg.trans k3 h.ch.size,((h.own.mono (A':=fun b=>(w0.heap.size<=b/\¬aU g kr b)/\¬aU g vr b) Tm.aA (fun b hb hA=>⟨⟨hA.1,hn2 b hb hA.2⟩,hA.2⟩)).keeps (B:=fun b=>¬aU g vr b) Tm.aA (k2.keeps fun _ _ h=>h) (fun _ h=>h.2) h.na).mono Tm.aA (fun b _ hb=>hb.1),fun b hb=>hn2 b (h.own.lt b hb).2 (h.na b hb),hll⟩
theorem zk.push{t:Tm}{v2:Value}{w6:World}{cells:Array Value}(h:zk B base g vv l rr vr va w0 wr)(hB:B<=w0.heap.size)(hown:aI w6 w0.heap.size 34 4 Tm.rep (fun b=>w0.heap.size<=b/\¬aU g vr b) (l++[t]) v2)(hg:iX (wr.alloc (.cells cells 34)) w6 va v2)(hll:l.length+1+rr.s.length<=2001):zk B base g vv (l++[t]) rr vr v2 w0 w6:=by
 have hown2:∀b,ownB va=some b->w0.heap.size<=b/\b<wr.heap.size:=h.own.lt;have hk:ag (fun b=>ownB va≠some b) wr w6:=(ag.alloc _ _ _).trans (hg.keeps fun b hb=>hb);refine⟨h.rd.keeps (hk.mono fun b hb hA e=>?_),hg.ch (h.ch.alloc _) (fun b hb=> .inr (hown2 b hb).1),h.vg,hown,fun b hb=>?_,?_⟩
 ·rcases hA with hA|hA;·have :=(hown2 b e).1;omega
  ·exact h.na b e hA
 ·rcases hg.block with e|e;·exact h.na b (e▸hb)
  ·have h1:=e b hb;simp only[bF]at h1;exact fun hm=>by have :=h.rd.CZ b hm;omega
 ·simp only[bA,dW];omega
end
def RGl(B base g:Nat)(vv:Value)(x:List Tm×Rd)(w:World)(e:Ending)(w':World):Prop:=∃lv lC,e= .returned lv/\bW B base g lC x.2 w'/\Ch (aU g vv) w w'/\VG w vv lC/\iP (fun b=>w.heap.size<=b/\¬aU g lC b) w' x.1 lv/\x.1.length<=2001
theorem ajz{f:Rd->Tm×Rd}{k:Nat}{l:List Tm}{r:Rd}(hb:r.bad=false)(ha:((f r).2.at_ [44]).1=false):iy f (k+1) l r=(l++[(f r).1],((f r).2.at_ [44]).2):=by rw[iy,ae (by rw[hb];simp),ae (by rw[ha];simp)]
theorem ajA{f:Rd->Tm×Rd}{k:Nat}{l:List Tm}{r:Rd}(hb:r.bad=false)(ha:((f r).2.at_ [44]).1=true):iy f (k+1) l r=iy f k (l++[(f r).1]) ((f r).2.at_ [44]).2:=by rw[iy,ae (by rw[hb];simp),ah ha]
theorem Z5(h:bW B base g vv r w):Calls Tryz.prog 40 #[.pointer (some ⟨g,0,none⟩)] w (RGl B base g vv (fA r) w):=by
 have hBx:B<=w.heap.size:=by have :=h.bg;omega
 have Fh:=zh h.len;have IU:=zh (show fA r=((iy (cz 24) (r.s.length+1) [] r).1,(iy (cz 24) (r.s.length+1) [] r).2.must [46])from rfl);have xJ:Hd (zk B base g vv [] r vv (.slice none 0 0) w w):=zh ⟨h,Ch.refl _ _,VG.refl _ _,aI.nil ..,fun b hb=>by simp[ownB]at hb,by have :=h.len;simp only[fC];omega⟩;clear h;go_enter Tryz.func40,Tryz.ntmps40;go_upto_block 0 with fail;go_cut[3](fun va wx=>∃vx,zk B base g vv (iy (cz 24) (r.s.length+1) [] r).1 (iy (cz 24) (r.s.length+1) [] r).2 vx va w wx);case first=>
  go_wp2_with fail;go_loopw[3](fun va wr=>∃(k:Nat)(l:List Tm)(rr:Rd)(vr:Value),zk B base g vv l rr vr va w wr/\iy (cz 24) (r.s.length+1) [] r=iy (cz 24) (k+1) l rr/\rr.s.length<=k/\l.length+rr.s.length<=2000)(fun _ wr=>qG g wr);case atStart=>exact⟨r.s.length,[],r,vv,xJ.o,rfl,zL _,by have :=Fh.o;simp only[fC];omega⟩
  case round=>
   obtain⟨k,l,rr,vr,hT,hargs,hk,hll⟩:=hrel;have eT:=zh hT;have ze:=zh hargs;have IV:=zh hk;have l6:=zh hll;obtain⟨pa,pc,rfl,hpl,hpm⟩:=aI.j5 hT.own;obtain⟨b0,b1,b2,bf⟩:=hT.rd.cells;clear hT hargs hk hll xJ;cases hbd:rr.bad with
    |true=>rw[hbd]at b2;have oq:=zh (show iy (cz 24) (r.s.length+1) [] r=(l,rr)by rw[ze.o,ahm _ _ _ hbd]);clear hbd;go_wp2_with fail;go_meet;case rel=>rw[oq.o];exact⟨_,eT.o⟩
    |false=>
     rw[hbd]at b2;have oq:=zh hbd;obtain⟨X,hX⟩:∃X,X=cz 24 rr:=⟨_,rfl⟩;have hcall:=RJ (B:=B) (base:=base) (g:=g) 24 (by omega) 1 (by omega) vr rr wr eT.o.rd;have hxl:=Hw 24 rr;rw[<-hX]at hcall hxl;have oD:=zh hcall;have jH:=zh hX;have pU:=zh hxl;clear hbd hcall hX hxl;go_wp2_with fail;refine oD.o.mono ?_;rintro e w5⟨us,kr,rfl,k1,k2,k3,k4⟩;obtain⟨ua,uc,rfl, -⟩:=Tm.nk k4;have hol:=eT.o.own.lt;have zg:=zh (eT.o.move k1 k2 k3 (by have :=pU.o;have :=l6.o;omega));have ajB:=zh eT.o.ch.size;have zi:=zh (show Tm.rep (fun b=>(w.heap.size<=b/\¬aU g kr b)/\ownB (.slice pa l.length pc)≠some b) w5 X.1 _ from Tm.aA.2.1 _ _ _ _ _ k4 fun b _ hb=>⟨⟨dM ajB.o hb.1,hb.2⟩,fun e=>by have :=(hol b e).2;have :=hb.1;omega⟩);have vX:=zh (show l.length<4194304/\w.heap.size<=w5.heap.size from⟨by have :=l6.o;omega,zg.o.ch.size⟩);clear k1 k2 k3 k4 b0 b1 b2 bf;go_wp2_with(at_builtin;go_must(refine iH rfl (.tmp 9) (.tmp 12) 23 rfl w.heap.size 34 4 56 AL Tm.aA (A:=fun b=>w.heap.size<=b/\¬aU g kr b) (.slice pa l.length pc) l rfl zg.o.own X.1 [_,_,_,_] (by rfl) rfl zi.o vX.o ?_);go_must(intro v2 w6 hown hg;obtain⟨IX,IY,hv2, -⟩:=aI.j5 hown;rw[show(l++[X.1]).length=l.length+1 by simp]at hv2;subst hv2;have Da:=zh (zg.o.push hBx hown hg (by have :=pU.o;have :=l6.o;omega));clear hown hg));have HAT:Hd (Calls Tryz.prog 51 #[.pointer (some ⟨g,0,none⟩),.string ⟨#[44]⟩] w6 _):=zh (CV [44] (by simp) Da.o.rd);refine HAT.o.mono ?_;rintro e w8⟨rfl,v8,k1,k2,k3⟩;have hal:=at_len (sg:=[44]) X.2;have iB:=zh (Da.o.move k1 k2 k3 (by have :=pU.o;have :=l6.o;have :=hal.1;simp only[bA,dW];omega));have kP:=zh hal;clear k1 k2 k3 hal;cases hat:(X.2.at_ [44]).1 with
      |false=>have xK:=zh (show iy (cz 24) (r.s.length+1) [] r=(l++[X.1],(X.2.at_ [44]).2)by rw[ze.o,ajz oq.o (by rw[<-jH.o];exact hat),<-jH.o]);clear hat;go_wp2_with fail;go_meet;case rel=>rw[xK.o];exact⟨_,iB.o⟩
      |true=>
       have xK:=zh (show iy (cz 24) (r.s.length+1) [] r=iy (cz 24) k (l++[X.1]) (X.2.at_ [44]).2 by rw[ze.o,ajA oq.o (by rw[<-jH.o];exact hat),<-jH.o]);have IZ:=zh (kP.o.2 hat);clear hat;go_wp2_with fail;go_roundw;case rel=>have h1:=IZ.o;have h2:=pU.o;have h3:=IV.o;have h4:=l6.o;simp only[dW]at h1;exact⟨k - 1,l++[X.1],(X.2.at_ [44]).2,v8,iB.o,by rw[xK.o,show k - 1+1=k by omega],by omega,by simp only[bA,dW];omega⟩
       case measure=>have h1:=IZ.o;have h2:=pU.o;simp only[dW]at h1;rw[qH iB.o.rd,qH eT.o.rd];omega
 case rest=>obtain⟨vx,hT⟩:=hcut;obtain⟨A,hA⟩:∃A,A=iy (cz 24) (r.s.length+1) [] r:=⟨_,rfl⟩;rw[<-hA]at hT;have eT:=zh hT;have HA:=zh hA;obtain⟨pa,pc,rfl,hpl,hpm⟩:=aI.j5 hT.own;clear hT hA xJ;have HAT:Hd (Calls Tryz.prog 51 #[.pointer (some ⟨g,0,none⟩),.string ⟨#[46]⟩] wc _):=zh (CV [46] (by simp) eT.o.rd);go_wp2_with fail;refine HAT.o.mono ?_;rintro e w8⟨rfl,v8,k1,k2,k3⟩;have hal:=at_len (sg:=[46]) A.2;have iB:=zh (eT.o.move k1 k2 k3 (by have :=eT.o.ll;have :=hal.1;omega));clear k1 k2 k3 hal;cases hat:(A.2.at_ [46]).1 with|true=>have HM:=zh (show A.2.must [46]=(A.2.at_ [46]).2 by unfold Rd.must;rw[ah hat]);have eF:=iB;clear hat;go_wp2_with fail;go_ret;rw[IU.o,<-HA.o,HM.o];exact⟨_,v8,rfl,eF.o.rd,eF.o.ch,eF.o.vg,aI.sl' Tm.aA eF.o.own (show A.1.length<=1048576 by have :=eF.o.ll;omega) fun b hb=>⟨(eF.o.own.lt b hb).1,eF.o.na b hb⟩,by have :=eF.o.ll;simp only;omega⟩|false=>have HM:=zh (show A.2.must [46]=(A.2.at_ [46]).2.kill by unfold Rd.must;rw[ae (by rw[hat];simp)]);obtain⟨b0,b1,b2,bf⟩:=iB.o.rd.cells;obtain⟨v9,k1,k2,k3⟩:=iB.o.rd.xz true;have eF:=zh (iB.o.move k1 k2 k3 (by have :=iB.o.ll;exact this));clear hat k1 k2 k3;go_wp2_with fail;go_ret;rw[IU.o,<-HA.o,HM.o];exact⟨_,v9,rfl,eF.o.rd,eF.o.ch,eF.o.vg,aI.sl' Tm.aA eF.o.own (show A.1.length<=1048576 by have :=eF.o.ll;omega) fun b hb=>⟨(eF.o.own.lt b hb).1,eF.o.na b hb⟩,by have :=eF.o.ll;simp only;omega⟩
end
section
variable {B base g : Nat} {vv v1 : Value} {r r1 r2 : Rd} {w w0 w1 w2 : World}
theorem Z6(s:Str)(hs:s.length<=2000)(hB:B<=w.heap.size)(ht:mO B w):bW B (w.heap.size+1) w.heap.size (.slice none 0 0) ⟨s,[],false⟩ (w.alloc (.cells #[.string (bs s),.slice none 0 0,.bool false] 79)):=⟨bV _ _,af.nil,ht.below ((zB _ _).alloc (zL _) _),⟨hB,by omega,by simp⟩,by simpa using hs⟩
theorem bW.I1(h:bW B base g v1 r w1)(hg:w0.heap.size<=g)(hb:Below w0.heap.size w0 w1)(hc:Ch (aU g v1) w1 w2):Below w0.heap.size w0 w2:=((Ch.of_below (M:=fun b=>w0.heap.size<=b) hb).trans hc fun b e=>by
 rcases e with e|e;·exact .inl (by omega)
 ·exact .inl (by have :=(h.vars.lt b e).1;have :=h.bg;omega)).below fun k hk=>by omega
end
def ajC(w:World)(q:List Tm×Int×Int)(e:Ending)(w':World):Prop:=∃lv,e= .returned (.tuple #[lv,.int .i64 q.2.1,.int .i64 q.2.2])/\Below w.heap.size w w'/\iP (fun b=>w.heap.size<=b) w' q.1 lv
theorem ajD{s:Str}(h:s.length>2000):eO s=([],0,3):=by unfold eO;rw[ah h]
theorem ajE{s:Str}(h:¬s.length>2000)(hb:(fA ⟨s,[],false⟩).2.bad=true\/(fA ⟨s,[],false⟩).2.space.s≠[]\/¬iw (fA ⟨s,[],false⟩).1 ((fA ⟨s,[],false⟩).2.vars.length:Nat)):eO s=([],0,1):=by unfold eO;rw[ae h,ah hb]
theorem ajF{s:Str}(h:¬s.length>2000)(hb:¬((fA ⟨s,[],false⟩).2.bad=true\/(fA ⟨s,[],false⟩).2.space.s≠[]\/¬iw (fA ⟨s,[],false⟩).1 ((fA ⟨s,[],false⟩).2.vars.length:Nat))):eO s=((fA ⟨s,[],false⟩).1,(((fA ⟨s,[],false⟩).2.vars.length:Nat):Int),0):=by unfold eO;rw[ae h,ae hb]
theorem ajG(s:Str)(hs:s.length<=1048576)(B:Nat)(w:World)(hB:B<=w.heap.size)(ht:mO B w):Calls Tryz.prog 14 #[.string (bs s)] w (ajC w (eO s)):=by
 have HT:=zh ht;clear ht hs;by_cases hl:s.length>2000
 ·have hd':decide ((2000:Int)<((bs s).size:Int))=true:=by rw[dY];simp;omega
  have HQ:=zh (ajD hl);clear hl;go_enter Tryz.func14,Tryz.ntmps14;go_wp2_with fail;go_ret3;rw[HQ.o];exact⟨_,rfl,zB _ _,aj.nil ..⟩
 ·have hd':decide ((2000:Int)<((bs s).size:Int))=false:=by rw[dY];simp;omega
  have HL:=zh hl;have HI:=zh (Z6 s (by omega) hB HT.o);have HB1:=zh (show Below w.heap.size w (w.alloc (.cells #[.string (bs s),.slice none 0 0,.bool false] 79))from(zB _ _).alloc (zL _) _);obtain⟨G,hG⟩:∃G,G=fA ⟨s,[],false⟩:=⟨_,rfl⟩;have HG:=zh hG;have nI:=zh (Z5 HI.o);rw[<-hG]at nI;have iZ:=zh (show Tm.aH G.1<=2001 by rw[hG];have :=QZ ⟨s,[],false⟩;have e:(⟨s,[],false⟩:Rd).s.length=s.length:=rfl;omega);clear hl hG;go_enter Tryz.func14,Tryz.ntmps14;go_wp2_with fail;refine nI.o.mono ?_;rintro e w2⟨lv,v2,rfl,k1,k2,k3,k4,k5⟩;obtain⟨la,lc,lb,lo,rfl,hl1,hl2,hl3, -⟩:=k4.at;have HI2:=zh k1;have HB2:=zh (HI.o.I1 (zL _) HB1.o k2);have HR2:=zh k4;have dV:=zh (qN k1);clear k1 k2 k3 k4 k5;go_wp2_with fail;refine dV.o.mono ?_;rintro e w3⟨rfl,v3,k1,k2,k3⟩;have HI3:=zh k1;have HB3:=zh (HI2.o.I1 (zL _) HB2.o k2);have HR3:=zh (aj.mono (A':=fun b=>w.heap.size<=b) Tm.aA (by omega) (aj.keeps Tm.aA HR2.o (k2.keeps fun b _ hb=>hb.2)) fun b _ hb=>by have :=hb.1;simp only[bF]at this;omega);obtain⟨b0,b1,b2,bf⟩:=k1.cells;obtain⟨va,vc,hv,hvl,mM⟩:=k1.vars.val;have hlen:=k1.len;have e0:G.2.space.s=bQ G.2.s:=rfl;have e1:G.2.space.vars=G.2.vars:=rfl;have e2:G.2.space.bad=G.2.bad:=rfl;rw[e0]at b0 hlen;rw[e1]at hv hvl hlen;rw[e2]at b2;subst hv;unfold maxLen at mM;clear k1 k2 k3 dV nI e0 e1 e2;have HBAD:=zh (fun hb=>ajE (s:=s) HL.o hb);have yZ:=zh (fun hb=>ajF (s:=s) HL.o hb);rw[<-HG.o]at HBAD yZ;cases hbd:G.2.bad with
   |true=>rw[hbd]at b2;have HQ:=zh (HBAD.o (.inl hbd));clear hbd;go_wp2_with fail;go_ret3;rw[HQ.o];exact⟨_,rfl,HB3.o,aj.nil ..⟩
   |false=>
    have oq:=zh hbd;rw[hbd]at b2;clear hbd;cases hsp:bQ G.2.s with
     |cons c rest=>rw[hsp]at b0;obtain⟨t1,t2,t3⟩:=Rt c rest;have HQ:=zh (HBAD.o (.inr (.inl (by show bQ G.2.s≠[];rw[hsp];simp))));clear hsp;go_wp2_with fail;go_ret3;rw[HQ.o];exact⟨_,rfl,HB3.o,aj.nil ..⟩
     |nil=>
      rw[hsp]at b0;obtain⟨t1,t2⟩:=MC;have HS:=zh (show G.2.space.s=[]from hsp);have hv64:au (G.2.vars.length:Int):=by unfold au;omega
      have zl:=zh (LY G.1 (G.2.vars.length:Int) (by have :=iZ.o;omega) hv64 _ w3 _ HR3.o);clear hsp hv64;go_wp2_with fail;refine zl.o.mono ?_;rintro e w4⟨v,rfl,hb4,t,rfl,hgt⟩;have dH:=zh (HB3.o.trans (hb4.mono HB3.o.size));have HR4:=zh (aj.keeps Tm.aA HR3.o (ag.ob hb4));obtain⟨b0,b1,b2,bf⟩:=(HI3.o.below hb4).cells;have zm:=zh hgt;clear hb4 hgt;cases t with
       |false=>have HQ:=zh (HBAD.o (.inr (.inr (fun h=>by have :=zm.o.2 h;cases this))));clear HBAD yZ;go_wp2_with fail;go_ret3;rw[HQ.o];exact⟨_,rfl,dH.o,aj.nil ..⟩
       |true=>
        have HQ:=zh (yZ.o (by
         rintro(h|h|h);·rw[oq.o]at h;cases h
         ·exact h HS.o
         ·exact h (zm.o.1 rfl)));have e1:G.2.space.vars=G.2.vars:=rfl;rw[e1]at*;clear HBAD yZ e1;go_wp2_with fail;go_quiet(fail);have dx:=zh (show Below w.heap.size w (w4.drewN nq)from dH.o.trans ⟨rfl,rfl,rfl,zL _,fun _ _=>rfl⟩);have Fj:=zh (aj.keeps (w':=w4.drewN nq) Tm.aA HR4.o ⟨zL _,fun _ _ _=>rfl⟩);generalize w4.drewN nq=W5 at*;go_wp2_with fail;go_ret3;rw[HQ.o];exact⟨_,rfl,dx.o,Fj.o⟩
theorem ajH:mH Tryz.prog 22 65 6 88:= .mk' (z:= .agg #[.int .i64 0,.int .i64 0,.string .empty,.slice none 0 0,.slice none 0 0,.int .i64 0]) Tryz.underlying22 (by kernel_rfl) rfl (by omega) (by omega)
structure Bi (B base g : Nat) (l : List Cl) (rr : Rd) (vr va : Value) (w0 wr : World) : Prop where
  rd : bW B base g vr rr wr
  ku : Below w0.heap.size w0 wr
  own : aI wr w0.heap.size 65 6 Cl.rep (fun b => w0.heap.size ≤ b ∧ ¬ aU g vr b) l va
  na : ∀ b, ownB va = some b → ¬ aU g vr b
  gn : w0.heap.size ≤ g
  ll : l.length + rr.s.length ≤ 2001
section
variable {B base g : Nat} {l : List Cl} {rr vT : Rd} {vr kr va : Value} {w0 wr w5 : World}
theorem Bi.move(h:Bi B base g l rr vr va w0 wr)(k1:bW B base g kr vT w5)(k2:Ch (aU g vr) wr w5)(k3:VG wr vr kr)(hll:l.length+vT.s.length<=2001):Bi B base g l vT kr va w0 w5:=by have hn2:∀b,b<wr.heap.size->¬aU g vr b->¬aU g kr b:=fun b hb hn e=>(VG.rm k3 b e).elim hn (fun e=>by omega);exact⟨k1,h.rd.I1 h.gn h.ku k2,((h.own.mono (A':=fun b=>(w0.heap.size<=b/\¬aU g kr b)/\¬aU g vr b) Cl.aA (fun b hb hA=>⟨⟨hA.1,hn2 b hb hA.2⟩,hA.2⟩)).keeps (B:=fun b=>¬aU g vr b) Cl.aA (k2.keeps fun _ _ h=>h) (fun _ h=>h.2) h.na).mono Cl.aA (fun b _ hb=>hb.1),fun b hb=>hn2 b (h.own.lt b hb).2 (h.na b hb),h.gn,hll⟩
theorem Bi.push{c:Cl}{v2:Value}{w6:World}{cells:Array Value}(h:Bi B base g l rr vr va w0 wr)(hB:B<=w0.heap.size)(hown:aI w6 w0.heap.size 65 6 Cl.rep (fun b=>w0.heap.size<=b/\¬aU g vr b) (l++[c]) v2)(hg:iX (wr.alloc (.cells cells 65)) w6 va v2)(hll:l.length+1+rr.s.length<=2001):Bi B base g (l++[c]) rr vr v2 w0 w6:=by
 have hown2:∀b,ownB va=some b->w0.heap.size<=b/\b<wr.heap.size:=h.own.lt;have hk:ag (fun b=>ownB va≠some b) wr w6:=(ag.alloc _ _ _).trans (hg.keeps fun b hb=>hb);refine⟨h.rd.keeps (hk.mono fun b hb hA e=>?_),hg.below (h.ku.alloc h.ku.size _) (by simp only[bF];have :=h.ku.size;omega) (fun b hb=>(hown2 b hb).1),hown,fun b hb=>?_,h.gn,?_⟩
 ·rcases hA with hA|hA;·have :=(hown2 b e).1;omega
  ·exact h.na b e hA
 ·rcases hg.block with e|e;·exact h.na b (e▸hb)
  ·have h1:=e b hb;simp only[bF]at h1;exact fun hm=>by have :=h.rd.CZ b hm;omega
 ·simp only[bA,dW];omega
end
theorem RN(r:Rd):r.space.space=r.space:=by unfold Rd.space;simp only;rw[Hu]
theorem Z7(k:Nat)(l:List Cl)(r:Rd):jC k l r.space=jC k l r:=by cases k with|zero=>rfl|succ k=>rw[jC,jC,RN]
theorem ajI{k:Nat}{l:List Cl}{r:Rd}(h:r.space=r)(h0:r.s=[]):jC (k+1) l r=some l:=by rw[jC,h,ah h0]
theorem Z8{k:Nat}{l:List Cl}{r:Rd}(h:r.space=r)(h0:¬r.s=[])(hb:(eY r).2.bad=true\/¬(eY r).1.Good):jC (k+1) l r=none:=by rw[jC,h,ae h0,ah hb]
theorem ajJ{k:Nat}{l:List Cl}{r:Rd}(h:r.space=r)(h0:¬r.s=[])(hb:¬((eY r).2.bad=true\/¬(eY r).1.Good)):jC (k+1) l r=jC k (l++[(eY r).1]) (eY r).2:=by rw[jC,h,ae h0,ae hb]
theorem ajK{r:Rd}(ha:((cz 24 {r with vars:=[]}).2.at_ [58,45]).1=true):eY r=(⟨(cz 24 {r with vars:=[]}).1,(fA ((cz 24 {r with vars:=[]}).2.at_ [58,45]).2).1,(((fA ((cz 24 {r with vars:=[]}).2.at_ [58,45]).2).2.vars.length:Nat):Int)⟩,(fA ((cz 24 {r with vars:=[]}).2.at_ [58,45]).2).2):=by unfold eY;simp only;rw[ah ha]
theorem ajL{r:Rd}(ha:((cz 24 {r with vars:=[]}).2.at_ [58,45]).1=false):eY r=(⟨(cz 24 {r with vars:=[]}).1,[],(((((cz 24 {r with vars:=[]}).2.at_ [58,45]).2.must [46]).vars.length:Nat):Int)⟩,((cz 24 {r with vars:=[]}).2.at_ [58,45]).2.must [46]):=by unfold eY;simp only;rw[ae (by rw[ha];simp)]
theorem ajM(r:Rd):(eY r).1.head=(cz 24 {r with vars:=[]}).1/\(eY r).1.vars=(((eY r).2.vars.length:Nat):Int):=by unfold eY;simp only;split<;>exact⟨rfl,rfl⟩
theorem MK{g:Nat}{va vb:Value}{wa wb:World}{D:Nat->Prop}{t:Tm}{us:List Value}(h:Tm.rep (fun b=>D b/\¬aU g va b) wa t us)(hc:Ch (aU g va) wa wb)(hv:VG wa va vb):Tm.rep (fun b=>D b/\¬aU g vb b) wb t us:=Tm.aA.2.1 _ _ _ _ _ (Tm.aA.1 _ _ _ _ _ (Tm.aA.2.1 _ (fun b=>(D b/\¬aU g vb b)/\¬aU g va b) _ _ _ h fun b hb hA=>⟨⟨hA.1,fun e=>(VG.rm hv b e).elim hA.2 (fun e=>by omega)⟩,hA.2⟩) (hc.keeps fun b _ hb=>hb.2)) fun b _ hb=>hb.1
def ajN(w:World)(q:List Cl×Int)(e:Ending)(w':World):Prop:=∃lv,e= .returned (.tuple #[lv,.int .i64 q.2])/\Below w.heap.size w w'/\EP (fun b=>w.heap.size<=b) w' q.1 lv
theorem ML{w:World}{g:Nat}{E:TypeId}{v0 v1 v2 v3 v4 v5:Value}(h:w.heap[g]?=some (.cells #[v0,v1,v2,v3,v4,v5] E (0,0))):w.cell? ⟨g,0,none⟩=some v0/\w.cell? ⟨g,1,none⟩=some v1/\w.cell? ⟨g,2,none⟩=some v2/\w.cell? ⟨g,3,none⟩=some v3/\w.cell? ⟨g,4,none⟩=some v4/\w.cell? ⟨g,5,none⟩=some v5/\∀o,w.frozen? ⟨g,o,none⟩=false:=⟨(dw h 0).trans rfl,(dw h 1).trans rfl,(dw h 2).trans rfl,(dw h 3).trans rfl,(dw h 4).trans rfl,(dw h 5).trans rfl,fun o=>by simp[World.frozen?,h]⟩
theorem ajO(s:Str)(hs:s.length<=1048576)(B:Nat)(w:World)(hB:B<=w.heap.size)(ht:mO B w):Calls Tryz.prog 26 #[.string (bs s)] w (ajN w (gL s)):=by
 have HT:=zh ht;clear ht hs;by_cases hl:s.length>2000
 ·have hd':decide ((2000:Int)<((bs s).size:Int))=true:=by rw[dY];simp;omega
  have HQ:=zh (show gL s=([],3)by unfold gL;rw[ah hl]);clear hl;go_enter Tryz.func26,Tryz.ntmps26;go_wp2_with fail;go_ret2;rw[HQ.o];exact⟨_,rfl,zB _ _,aj.nil ..⟩
 ·have hd':decide ((2000:Int)<((bs s).size:Int))=false:=by rw[dY];simp;omega
  have HQ:=zh (show gL s=AR (jC (s.length+1) [] ⟨s,[],false⟩)by unfold gL;rw[ae hl]);have uu:=zh (show s.length<=2000 by omega);have HI:=zh (Z6 s (by omega) hB HT.o);have HB1:=zh (show Below w.heap.size w (w.alloc (.cells #[.string (bs s),.slice none 0 0,.bool false] 79))from(zB _ _).alloc (zL _) _);have dV:=zh (qN HI.o);obtain⟨base,hbase⟩:∃base,base=w.heap.size+1:=⟨_,rfl⟩;rw[<-hbase]at HI dV;clear hl hbase;go_enter Tryz.func26,Tryz.ntmps26;go_wp2_with fail;refine dV.o.mono ?_;rintro e w1⟨rfl,v1,k1,k2,k3⟩;have xJ:=zh (show Bi B base w.heap.size [] (⟨s,[],false⟩:Rd).space v1 (.slice none 0 0) w w1 from⟨k1,HI.o.I1 (zL _) HB1.o k2,aI.nil ..,fun b hb=>by simp[ownB]at hb,zL _,by have :(bQ s).length<=s.length:=xq s;have :=uu.o;show 0+(bQ s).length<=2001;omega⟩);obtain⟨K,hK⟩:∃K,K=jC (s.length+1) [] ⟨s,[],false⟩:=⟨_,rfl⟩;rw[<-hK]at HQ;have HK:=zh hK;clear k1 k2 k3 dV HI hK;go_wp2_with fail;go_loopw[4](fun va wr=>∃(k:Nat)(l:List Cl)(rr:Rd)(vr:Value),Bi B base w.heap.size l rr vr va w wr/\rr.space=rr/\K=jC (k+1) l rr/\rr.s.length<=k/\l.length+rr.s.length<=2000)(fun _ wr=>qG w.heap.size wr);case atStart=>refine⟨s.length,[],(⟨s,[],false⟩:Rd).space,v1,xJ.o,RN _,by rw[Z7,HK.o],xq s,?_⟩;have :(bQ s).length<=s.length:=xq s;have :=uu.o;show 0+(bQ s).length<=2000;omega
  case round=>
   obtain⟨k,l,rr,vr,hT,hsp,hpr,hk,hll⟩:=hrel;have eT:=zh hT;have MP:=zh hsp;have nH:=zh hpr;have IV:=zh hk;have l6:=zh hll;obtain⟨pa,pc,rfl,hpl,hpm⟩:=aI.j5 hT.own;obtain⟨b0,b1,b2,bf⟩:=hT.rd.cells;clear hT hsp hpr hk hll xJ;cases hrs:rr.s with
    |nil=>
     rw[hrs]at b0;obtain⟨t1,t2⟩:=MC;have HE:=zh (show K=some l by rw[nH.o,ajI MP.o hrs]);have ar3:l.length<=2001:=by have :=eT.o.ll;omega
     clear hrs;by_cases ER:l.length>24
     ·have hd3:decide ((24:Int)<(l.length:Int))=true:=by simp;omega
      have HR:=zh (show gL s=([],3)by rw[HQ.o,HE.o];unfold AR;simp only;rw[ah ER]);clear ER;go_wp2_with fail;go_ret2;rw[HR.o];exact⟨_,rfl,eT.o.ku,aj.nil ..⟩
     ·have hd3:decide ((24:Int)<(l.length:Int))=false:=by simp;omega
      have HR:=zh (show gL s=(l,0)by rw[HQ.o,HE.o];unfold AR;simp only;rw[ae ER]);clear ER;go_wp2_with fail;go_ret2;rw[HR.o];exact⟨_,rfl,eT.o.ku,aI.sl' Cl.aA (eT.o.own.mono (A':=fun b=>w.heap.size<=b) Cl.aA fun b _ hb=>hb.1) (show l.length<=1048576 by omega) fun b hb=>(eT.o.own.lt b hb).1⟩
    |cons c0 ajP=>
     rw[hrs]at b0;obtain⟨t1,t2,t3⟩:=Rt c0 ajP;have I4:=zh (show ¬rr.s=[]by rw[hrs];simp);clear hrs;obtain⟨X,hX⟩:∃X,X=cz 24 {rr with vars:=[]}:=⟨_,rfl⟩;obtain⟨v1,k1,k2,k3⟩:=eT.o.rd.ahD;have hcall:=RJ (B:=B) (base:=base) (g:=w.heap.size) 24 (by omega) 1 (by omega) _ _ _ k1;rw[<-hX]at hcall;have oD:=zh hcall;have HX:=zh hX;have iK:=zh (And.intro k2 (show VG wr vr v1 from k3));clear hcall hX k1 k2 k3;go_wp2_with fail;refine oD.o.mono ?_;rintro e w2⟨us,v2,rfl,k1,k2,k3,k4⟩;obtain⟨ua,uc,rfl, -⟩:=Tm.nk k4;have HI2:=zh k1;have dK:=zh (kS iK.o.1 iK.o.2 k2 k3);have HR2:=zh k4;clear k1 k2 k3 k4 b0 b1 b2 bf t1 t2 t3;go_wp2_with fail;obtain⟨y,hy⟩:∃y,y=w2.heap.size:=⟨_,rfl⟩;obtain⟨W3,hW3⟩:∃W3,W3=w2.alloc (.cells #[.int .i64 X.1.kind,.int .i64 X.1.n,.string X.1.s,.slice ua X.1.args.length uc,.slice none 0 0,.int .i64 0] 65):=⟨_,rfl⟩;have HB3:=zh (show Below w2.heap.size w2 W3 by rw[hW3];exact(zB _ _).alloc (zL _) _);have Bh:=zh (show W3.heap[y]?=some (.cells #[.int .i64 X.1.kind,.int .i64 X.1.n,.string X.1.s,.slice ua X.1.args.length uc,.slice none 0 0,.int .i64 0] 65 (0,0))by rw[hW3,hy];exact bV _ _);have MJ:=zh (show ¬aU w.heap.size v2 y by rw[hy];exact fun e=>by have :=HI2.o.CZ _ e;omega);have hwy:wr.heap.size<=y:=by rw[hy];exact dK.o.1.size
     have hww:w.heap.size<=wr.heap.size:=eT.o.ku.size;have HI3:=zh (HI2.o.below HB3.o);have lG:=zh (And.intro (dK.o.1.tb HB3.o) dK.o.2);have HR3:=zh (show Tm.rep (fun b=>(wr.heap.size<=b/\b≠y)/\¬aU w.heap.size v2 b) W3 X.1 [.int .i64 X.1.kind,.int .i64 X.1.n,.string X.1.s,.slice ua X.1.args.length uc]from Tm.aA.1 _ _ _ _ _ (Tm.aA.2.1 _ _ _ _ _ HR2.o fun b hb hA=>⟨⟨by have :=hA.1;have :=iK.o.1.size;omega,by omega⟩,hA.2⟩) (ag.ob HB3.o));rw[<-hW3,<-hy];clear hW3 hy HR2 HI2 dK HB3;have HAT:Hd (Calls Tryz.prog 51 #[.pointer (some ⟨w.heap.size,0,none⟩),.string ⟨#[58,45]⟩] W3 _):=zh (CV [58,45] (by simp) HI3.o);refine HAT.o.mono ?_;rintro e w3⟨rfl,vV⟩;obtain⟨v3,k1,k2,k3,k4,k5⟩:=nJ vV Bh.o MJ.o;have HI4:=zh k1;have j6:=zh (kS lG.o.1 lG.o.2 k2 k3);have xI:=zh k4;have C9:=zh k5;have HR4:=zh (MK HR3.o k2 k3);have MQ:=zh (fun ha=>ajK (r:=rr) ha);have lJ:=zh (fun ha=>ajL (r:=rr) ha);rw[<-HX.o]at MQ lJ;obtain⟨A,hA⟩:∃A,A=(X.2.at_ [58,45]).2:=⟨_,rfl⟩;rw[<-hA]at HI4 MQ lJ;have hal:=(at_len (sg:=[58,45]) X.2).1;rw[<-hA]at hal;have hyl:=aD k4;clear vV k1 k2 k3 k4 k5 HAT oD hA;go_upto_if 29 with fail;go_cut[](fun wx=>∃Fp la lc,bW B base w.heap.size Fp (eY rr).2 wx/\Ch (aU w.heap.size vr) wr wx/\VG wr vr Fp/\wx.heap[y]?=some (.cells #[.int .i64 X.1.kind,.int .i64 X.1.n,.string X.1.s,.slice ua X.1.args.length uc,.slice la (eY rr).1.body.length lc,.int .i64 0] 65 (0,0))/\¬aU w.heap.size Fp y/\Tm.rep (fun b=>(wr.heap.size<=b/\b≠y)/\¬aU w.heap.size Fp b) wx X.1 [.int .i64 X.1.kind,.int .i64 X.1.n,.string X.1.s,.slice ua X.1.args.length uc]/\iP (fun b=>(wr.heap.size<=b/\b≠y)/\¬aU w.heap.size Fp b) wx (eY rr).1.body (.slice la (eY rr).1.body.length lc));case first=>obtain⟨q0,q1,q2,q3,q4,q5,qf⟩:=ML xI.o;cases hat:(X.2.at_ [58,45]).1 with|true=>have nK:=zh (MQ.o hat);have nI:=zh (Z5 HI4.o);clear hat;go_wp2_with fail;refine nI.o.mono ?_;rintro e w5⟨lv,v5,rfl,k1,k2,k3,k4,k5⟩;obtain⟨la,lc,lb,lo,rfl,hl1,hl2,hl3, -⟩:=k4.at;have MR:=zh k1;have gX:=zh (kS j6.o.1 j6.o.2 k2 k3);have RO:=(k2.block y hyl C9.o).trans xI.o;have MS:=zh RO;have zi:=zh (show ¬aU w.heap.size v5 y from fun e=>(VG.rm k3 y e).elim C9.o (fun e=>by omega));have Fj:=zh (MK HR4.o k2 k3);have MU:=zh (show iP (fun b=>(wr.heap.size<=b/\b≠y)/\¬aU w.heap.size v5 b) w5 (fA A).1 (.slice la (fA A).1.length lc)from aj.mono Tm.aA (by omega) k4 fun b hb hA=>⟨⟨by have :=hA.1;have :=j6.o.1.size;omega,by have :=hA.1;omega⟩,hA.2⟩);obtain⟨q0,q1,q2,q3,q4,q5,qf⟩:=ML RO;clear k1 k2 k3 k4 k5 RO nI;go_wp2_with fail;go_meet;case rel=>rw[nK.o];have hks:ag (fun b=>(wr.heap.size<=b/\b≠y)/\¬aU w.heap.size v5 b) w5 (w5.setCell ⟨y,4,none⟩ (.slice la (fA A).1.length lc)):=ag.setCell _ _ _ _ (fun e=>e.1.2 rfl);exact⟨v5,la,lc,MR.o.other zi.o (by omega),gX.o.1.setCell (p:=⟨y,4,none⟩) (.inr (by simp only;omega)) _,gX.o.2,bI MS.o 4 _,zi.o,Tm.aA.1 _ _ _ _ _ Fj.o hks,aj.keeps Tm.aA MU.o hks⟩|false=>have nK:=zh (lJ.o hat);have xK:Hd (Calls Tryz.prog 51 #[.pointer (some ⟨w.heap.size,0,none⟩),.string ⟨#[46]⟩] w3 _):=zh (CV [46] (by simp) HI4.o);clear hat;go_wp2_with fail;refine xK.o.mono ?_;rintro e w5⟨rfl,Z9⟩;obtain⟨v5,k1,k2,k3,k4,k5⟩:=nJ Z9 xI.o C9.o;have MR:=zh k1;have gX:=zh (kS j6.o.1 j6.o.2 k2 k3);have MS:=zh k4;have zi:=zh k5;have Fj:=zh (MK HR4.o k2 k3);obtain⟨b0,b1,b2,bf⟩:=k1.cells;clear Z9 k1 k2 k3 k4 k5 xK;cases MV:(A.at_ [46]).1 with|true=>have HM:=zh (show A.must [46]=(A.at_ [46]).2 by unfold Rd.must;rw[ah MV]);clear MV;go_wp2_with fail;go_meet;case rel=>rw[nK.o,HM.o];exact⟨v5,none,0,MR.o,gX.o.1,gX.o.2,MS.o,zi.o,Fj.o,aj.nil ..⟩|false=>have HM:=zh (show A.must [46]=(A.at_ [46]).2.kill by unfold Rd.must;rw[ae (by rw[MV];simp)]);obtain⟨v6,k1,k2,k3,k4,k5⟩:=nJ (MR.o.xz true) MS.o zi.o;have HI6:=zh k1;have I5:=zh (kS gX.o.1 gX.o.2 k2 k3);have RQ:=zh k4;have HN6:=zh k5;have I6:=zh (MK Fj.o k2 k3);clear MV k1 k2 k3 k4 k5;go_wp2_with fail;go_meet;case rel=>rw[nK.o,HM.o];exact⟨v6,none,0,HI6.o,I5.o.1,I5.o.2,RQ.o,HN6.o,I6.o,aj.nil ..⟩
     case rest=>
      obtain⟨Fp,la,lc,k1,k2,k3,k4,k5,k6,k7⟩:=hcut;obtain⟨C,hC⟩:∃C,C=eY rr:=⟨_,rfl⟩;rw[<-hC]at k1 k4 k7;have hch:=ajM rr;rw[<-hC,<-HX.o]at hch;have hcl:=aho rr;rw[<-hC]at hcl;have hcn:=(Y0 rr).1;rw[<-hC]at hcn;have HC:=zh hC;have HH:=zh hch;have ajS:=zh hcl;have aaa:C.1.nodes<=1099511627776:=by have :=l6.o;omega
      have oN:=zh aaa;have HI9:=zh k1;have HC9:=zh (And.intro k2 k3);have HN9:=zh k5;have Fq:=zh k6;have iC:=zh k7;have RS:=zh k4;obtain⟨b0,b1,b2,bf⟩:=k1.cells;obtain⟨va,vc,hv,hvl,mM⟩:=k1.vars.val;have hlen:=k1.len;subst hv;unfold maxLen at mM;obtain⟨q0,q1,q2,q3,q4,q5,qf⟩:=ML k4;have hcs:=dz;have Db:C.1.vars=(C.2.vars.length:Int):=hch.2;have HVN:=zh Db;clear hC hch hcl hcn aaa k1 k2 k3 k4 k5 k6 k7 MQ lJ HI4 j6 xI C9 HR4 HI3 lG HR3 Bh MJ hal hyl Db;have ajV:=zh (show(wc.setCell ⟨y,5,none⟩ (.int .i64 (C.2.vars.length:Int))).heap[y]?=some (.cells #[.int .i64 X.1.kind,.int .i64 X.1.n,.string X.1.s,.slice ua X.1.args.length uc,.slice la C.1.body.length lc,.int .i64 (C.2.vars.length:Int)] 65 (0,0))from bI RS.o 5 _);have ajW:=zh (HI9.o.other (b:=y) (o:=5) (u:= .int .i64 (C.2.vars.length:Int)) HN9.o (by omega));have RU:=zh (And.intro (HC9.o.1.setCell (p:=⟨y,5,none⟩) (.inr (by simp only;omega)) (.int .i64 (C.2.vars.length:Int))) HC9.o.2);have hks:ag (fun b=>(wr.heap.size<=b/\b≠y)/\¬aU w.heap.size (.slice va C.2.vars.length vc) b) wc (wc.setCell ⟨y,5,none⟩ (.int .i64 (C.2.vars.length:Int))):=ag.setCell _ _ _ _ (fun e=>e.1.2 rfl);have Dc:=zh (show Cl.rep (fun b=>(wr.heap.size<=b/\b≠y)/\¬aU w.heap.size (.slice va C.2.vars.length vc) b) (wc.setCell ⟨y,5,none⟩ (.int .i64 (C.2.vars.length:Int))) C.1 [.int .i64 X.1.kind,.int .i64 X.1.n,.string X.1.s,.slice ua X.1.args.length uc,.slice la C.1.body.length lc,.int .i64 (C.2.vars.length:Int)]from⟨ua,uc,la,lc,by rw[HH.o.1,HVN.o],by rw[HH.o.1];exact Tm.aA.1 _ _ _ _ _ Fq.o hks,aj.keeps Tm.aA iC.o hks,by rw[HVN.o];unfold au;omega⟩);clear hks;cases hbd:C.2.bad with
       |true=>have HB:=zh (show K=none by rw[nH.o];exact Z8 MP.o I4.o (.inl (by rw[<-HC.o];exact hbd)));have HR:=zh (show gL s=([],1)by rw[HQ.o,HB.o];rfl);have gM:=zh (eT.o.rd.I1 eT.o.gn eT.o.ku RU.o.1);rw[hbd]at b2;clear hbd;go_wp2_with fail;go_ret2;rw[HR.o];exact⟨_,rfl,gM.o,aj.nil ..⟩
       |false=>
        have oq:=zh hbd;rw[hbd]at b2;clear hbd;go_wp2_with fail;refine(QK C.1 oN.o _ _ _ Dc.o).mono ?_;rintro e zn⟨v,rfl,l7,t,rfl,hgt⟩;have ajX:=zh (ajW.o.below l7);have I7:=zh (And.intro (RU.o.1.tb l7) RU.o.2);have RV:=zh (aL ajV.o l7);have zm:=zh hgt;have MW:=zh (ajS.o.2 oq.o);have De:=zh (eT.o.move ajX.o I7.o.1 I7.o.2 (by have :=MW.o;have :=l6.o;omega));have hol:=eT.o.own.lt;have ajY:=zh (show Cl.rep (fun b=>(w.heap.size<=b/\¬aU w.heap.size (.slice va C.2.vars.length vc) b)/\ownB (.slice pa l.length pc)≠some b) zn C.1 [.int .i64 X.1.kind,.int .i64 X.1.n,.string X.1.s,.slice ua X.1.args.length uc,.slice la C.1.body.length lc,.int .i64 (C.2.vars.length:Int)]from Cl.aA.2.1 _ _ _ _ _ (Cl.aA.1 _ _ _ _ _ Dc.o (ag.ob l7)) fun b _ hb=>⟨⟨by have :=hb.1.1;omega,hb.2⟩,fun e=>by have :=(hol b e).2;have :=hb.1.1;omega⟩);have vX:=zh (show l.length<4194304/\w.heap.size<=zn.heap.size from⟨by have :=l6.o;omega,De.o.ku.size⟩);clear l7 hgt b0 b1 b2 bf q0 q1 q2 q3 q4 q5 qf;obtain⟨q0,q1,q2,q3,q4,q5,qf⟩:=ML RV.o;cases t with
         |false=>have HB:=zh (show K=none by rw[nH.o];exact Z8 MP.o I4.o (.inr (by rw[<-HC.o];exact fun h=>by have :=zm.o.2 h;cases this)));have HR:=zh (show gL s=([],1)by rw[HQ.o,HB.o];rfl);go_wp2_with fail;go_ret2;rw[HR.o];exact⟨_,rfl,De.o.ku,aj.nil ..⟩
         |true=>
          have HB:=zh (show K=jC k (l++[C.1]) C.2 by rw[nH.o,ajJ MP.o I4.o (by rw[<-HC.o];exact fun h=>h.elim (fun h=>by rw[oq.o]at h;cases h) (fun h=>h (zm.o.1 rfl))),<-HC.o]);go_wp2_with(at_builtin;go_must(refine iH rfl (.tmp 54) (.tmp 56) 22 rfl w.heap.size 65 6 88 ajH Cl.aA (A:=fun b=>w.heap.size<=b/\¬aU w.heap.size (.slice va C.2.vars.length vc) b) (.slice pa l.length pc) l rfl De.o.own C.1 [_,_,_,_,_,_] (by rfl) rfl ajY.o vX.o ?_);go_must(intro v2' w12 hown hg;obtain⟨IX,IY,hv2, -⟩:=aI.j5 hown;rw[show(l++[C.1]).length=l.length+1 by simp]at hv2;subst hv2;have RX:=zh (De.o.push hB hown hg (by have :=MW.o;have :=l6.o;omega));clear hown hg));have dV:=zh (qN RX.o.rd);refine dV.o.mono ?_;rintro e Df⟨rfl,v13,k1,k2,k3⟩;have hsl:C.2.space.s.length<=C.2.s.length:=xq _;have aae:=zh hsl;have aaf:=zh (RX.o.move k1 k2 k3 (by have :=RX.o.ll;omega));clear k1 k2 k3 hsl dV;go_wp2_with fail;go_roundw;case rel=>have h1:=MW.o;have h2:=aae.o;have h3:=IV.o;have h4:=l6.o;exact⟨k - 1,l++[C.1],C.2.space,v13,aaf.o,RN _,by rw[HB.o,Z7,show k - 1+1=k by omega],by omega,by simp only[bA,dW];omega⟩
          case measure=>have h1:=MW.o;have h2:=aae.o;rw[qH aaf.o.rd,qH eT.o.rd];omega
