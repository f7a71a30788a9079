import Derived.Test.YtlpmfkpefoegeacGreatDoorQRd6
import Derived.Deep.DeepCutAuto
import Derived.Deep.CutBlock
import Derived.Test.YtlpmfkpefoegeacGreatDoorPPrint
namespace Go.Proofs.YtlpmfkpefoegeacGreatDoor
set_option maxRecDepth 99999
set_option maxHeartbeats 0
set_option linter.all false
open Go.RowKit
structure xB (B base g x y : Nat) (vv : Value) (W : Str) (l : List Tm) (rr : Rd) (vr va : Value) (w0 wr : World) : Prop where
  rd : bT B base g vr rr wr
  ch : Ch (aQ g vv) w0 wr
  vg : VG w0 vv vr
  bx : wr.heap[x]? = some (.cells #[.int .i64 0, .int .i64 0, .string ⟨#[]⟩, .slice none 0 0] 34 (0, 0))
  AU : wr.heap[y]? = some (.cells #[.int .i64 3, .int .i64 0, .string (bs W), va] 34 (0, 0))
  nx : ¬ aQ g vr x
  ny : ¬ aQ g vr y
  own : az wr (y + 1) 34 4 Tm.rep (fun b => y + 1 ≤ b ∧ ¬ aQ g vr b) l va
  na : ∀ b, ownB va = some b → ¬ aQ g vr b
  xy : x = w0.heap.size ∧ x < y ∧ y < wr.heap.size
  ll : l.length + rr.s.length ≤ 2001
section
variable {B base g : Nat} {vv v1 : Value} {r r1 r2 : Rd} {w w1 w2 : World}
theorem apH{x y:Nat}{o o':Obj}(hs:iK B base g v1 r2 w1 w2)(hx:w1.heap[x]?=some o)(hn:¬aQ g v1 x)(hy:w1.heap[y]?=some o')(hm:¬aQ g v1 y):∃v2,bT B base g v2 r2 w2/\Ch (aQ g v1) w1 w2/\VG w1 v1 v2/\w2.heap[x]?=some o/\¬aQ g v2 x/\w2.heap[y]?=some o'/\¬aQ g v2 y:=by
 obtain⟨v2,h1,h2,h3⟩:=hs;have hl:=ax hx;have hl':=ax hy;refine⟨v2,h1,h2,h3,(h2.block x hl hn).trans hx,fun e=>?_,(h2.block y hl' hm).trans hy,fun e=>?_⟩
 ·rcases VG.rm h3 x e with e|e;·exact hn e
  ·omega
 ·rcases VG.rm h3 y e with e|e;·exact hm e
  ·omega
section
variable {x y : Nat} {Wd : Str} {l : List Tm} {rr yR : Rd} {vr mX va : Value} {w0 wr w5 : World}
theorem xB.move(h:xB B base g x y vv Wd l rr vr va w0 wr)(k1:bT B base g mX yR w5)(k2:Ch (aQ g vr) wr w5)(k3:VG wr vr mX)(hll:l.length+yR.s.length<=2001):xB B base g x y vv Wd l yR mX va w0 w5:=by have hn2:∀b,b<wr.heap.size->¬aQ g vr b->¬aQ g mX b:=fun b hb hn e=>(VG.rm k3 b e).elim hn (fun e=>by omega);refine⟨k1,h.ch.trans k2 (VG.rm h.vg),h.vg.trans k3 h.ch.size,(k2.block x (ax h.bx) h.nx).trans h.bx,(k2.block y (ax h.AU) h.ny).trans h.AU,hn2 _ (ax h.bx) h.nx,hn2 _ (ax h.AU) h.ny,((h.own.mono (A':=fun b=>(y+1<=b/\¬aQ g mX b)/\¬aQ g vr b) Tm.ae (fun b hb hA=>⟨⟨hA.1,hn2 b hb hA.2⟩,hA.2⟩)).keeps (B:=fun b=>¬aQ g vr b) Tm.ae (k2.keeps fun _ _ h=>h) (fun _ h=>h.2) h.na).mono Tm.ae (fun b _ hb=>hb.1),fun b hb=>hn2 b (h.own.lt b hb).2 (h.na b hb),⟨h.xy.1,h.xy.2.1,uB h.xy.2.2 k2.size⟩,hll⟩
theorem xB.drew(h:xB B base g x y vv Wd l rr vr va w0 wr):xB B base g x y vv Wd l rr vr va w0 wr.drew:=h.move (h.rd.below (Z _ _).drew) ((Ch.refl _ _).drew) (VG.refl _ _) h.ll
theorem xB.push{t:Tm}{v2:Value}{w6:World}{cells:Array Value}(h:xB B base g x y vv Wd l rr vr va w0 wr)(hB:B<=x)(hown:az w6 (y+1) 34 4 Tm.rep (fun b=>y+1<=b/\¬aQ g vr b) (l++[t]) v2)(hg:jJ (wr.alloc (.cells cells 34)) w6 va v2)(hll:l.length+1+rr.s.length<=2001):xB B base g x y vv Wd (l++[t]) rr vr v2 w0 (w6.setCell ⟨y,3,none⟩ v2):=by
 have hz:=hg.size;simp only[bO]at hz;have hxy:=h.xy;have hown2:∀b,ownB va=some b->y+1<=b/\b<wr.heap.size:=h.own.lt;have hk:J (fun b=>ownB va≠some b) wr w6:=(J.alloc _ _ _).trans (hg.keeps fun b hb=>hb);have hk2:J (fun b=>ownB va≠some b/\b≠y) wr (w6.setCell ⟨y,3,none⟩ v2):=(hk.mono fun b _ hb=>hb.1).trans (J.setCell _ _ _ _ (fun e=>e.2 rfl));have hny:ownB va≠some y:=fun e=>by have :=(hown2 y e).1;omega
 have hnx:ownB va≠some x:=fun e=>by have :=(hown2 x e).1;omega
 refine⟨h.rd.keeps (hk2.mono fun b hb hA=>⟨fun e=>?_,fun e=>?_⟩),?_,h.vg,bJ h.bx hk2 ⟨hnx,by omega⟩,aX (bJ h.AU hk hny) 3 v2,h.nx,h.ny,hown.keeps (B:=fun b=>b≠y) Tm.ae (J.setCell _ _ _ _ (fun e=>e rfl)) (fun b hb=>by omega) (fun b hb e=>?_),fun b hb=>?_,⟨hxy.1,hxy.2.1,by simp only[oL];omega⟩,?_⟩
 ·rcases hA with hA|hA;·have :=(hown2 b e).1;omega
  ·exact h.na b e hA
 ·subst e;rcases hA with hA|hA;·omega
  ·exact h.ny hA
 ·exact(hg.ch (h.ch.alloc _) (fun b hb=> .inr (by have :=(hown2 b hb).1;omega))).setCell (p:=⟨y,3,none⟩) (.inr (by simp only;omega)) _
 ·subst e;rcases hg.block with e|e;·exact hny (e▸hb)
  ·have :=e b hb;simp only[bO]at this;omega
 ·rcases hg.block with e|e;·exact h.na b (e▸hb)
  ·have h1:=e b hb;simp only[bO]at h1;exact fun hm=>by have :=h.rd.GY b hm;omega
 ·simp only[bB,dZ];omega
end
theorem apI{f:Rd->Tm×Rd}{k:Nat}{l:List Tm}{r:Rd}(h:(f r).2.bad=true):jK f (k+1) l r=(l++[(f r).1],(f r).2):=by rw[jK,G h]
theorem apJ{f:Rd->Tm×Rd}{k:Nat}{l:List Tm}{r:Rd}(h:(f r).2.bad=false)(ha:((f r).2.at_ [44]).1=true):jK f (k+1) l r=jK f k (l++[(f r).1]) ((f r).2.at_ [44]).2:=by rw[jK,O (by rw[h];simp),G ha]
theorem apK{f:Rd->Tm×Rd}{k:Nat}{l:List Tm}{r:Rd}(h:(f r).2.bad=false)(ha:((f r).2.at_ [44]).1=false):jK f (k+1) l r=(l++[(f r).1],((f r).2.at_ [44]).2):=by rw[jK,O (by rw[h];simp),O (by rw[ha];simp)]
theorem apL(n:Nat)(d:Int)(hd:d<=24)(hd0:0<=d)(IH:∀(vv:Value)(r:Rd)(w:World),bT B base g vv r w->Calls Tryz.prog 50 #[.pointer (some ⟨g,0,none⟩),.int .i64 (d+1)] w (vS B base g vv (cz n r) w))(c:UInt8)(rest:Str)(hb:r.bad=false)(hs:bP r.s=c::rest)(hc:Cf c=false/\c≠33/\¬(c=45\/mQ c=true))(h:bT B base g vv r w):Calls Tryz.prog 50 #[.pointer (some ⟨g,0,none⟩),.int .i64 d] w (vS B base g vv (Ea (cz n) ((c::rest).take (dB (c::rest))) ⟨(c::rest).drop (dB (c::rest)),r.vars,false⟩) w):=by
 have HU:=Y h;have dN:=Y (uL (h.below ((Z _ _).alloc (zL _) CL)));have hBx:B<=w.heap.size:=by have :=h.bg;omega
 have hcs:=bF;have f1:decide (24<d)=false:=by simp;omega
 have HB:=Y hb;have HS:=Y hs;obtain⟨S,hS⟩:∃S,S=bs (c::rest):=⟨_,rfl⟩;have nZ:=Y hS;have t1:S.toList.isEmpty=false:=by rw[hS,lN];rfl
 have t2:¬S.toList=[]:=by rw[hS,lN];simp
 have t3:0<S.size:=by rw[hS,eP];simp
 have hg0:S[0]=c:=by subst hS;exact JJ c rest t3
 have HG:=Y hg0;have hc0:0<=(S[0].toNat:Int):=by omega
 have hcn:¬(65<=(c.toNat:Int)/\(c.toNat:Int)<=90)/\(c.toNat:Int)≠33/\(c.toNat:Int)≠45/\¬(48<=(c.toNat:Int)/\(c.toNat:Int)<=57):=by obtain⟨k1,k2,k3⟩:=hc;refine⟨fun e=>?_,fun e=>k2 (QU.1 (by have e33:(33:UInt8).toNat=33:=rfl;omega)),fun e=>k3 (.inl (QU.1 (by have e45:(45:UInt8).toNat=45:=rfl;omega))),fun e=>k3 (.inr (Nr.2 e))⟩;rw[GU.2 e]at k1;cases k1
 have qm:=Y hcn;have HD0:=Y hd0;have Yb:=Y IH;clear hc hcn IH hd hb hs hS hg0 h;go_enter Tryz.func50,Tryz.ntmps50;go_wp2_with fail;refine dN.o.mono ?_;rintro e w1⟨rfl,hst⟩;obtain⟨v1,h1,c1,g1,x1,hz1,n1⟩:=EC HU.o hst;have HI:=Y h1;have aM:=Y c1;have HV:=Y g1;have HX:=Y x1;have HN:=Y n1;obtain⟨b0,b1,b2,bf⟩:=h1.cells;have hgl:=h1.lt.1;have hgx:¬g=w.heap.size:=fun e=>n1 (.inl e.symm);obtain⟨x0,x1,x2,x3,xf⟩:=aF x1;have e0:r.space.s=bP r.s:=rfl;have e2:r.space.bad=r.bad:=rfl;rw[e0]at b0;rw[e2]at b2;clear hst h1 c1 g1 n1 e0 e2;rw[HB.o]at b2;rw[HS.o,<-nZ.o]at b0;go_upto_region 6 with fail;go_cut[35](fun o wx=>o= .bool false/\wx=w1);case first=>
  by_cases Yc:(65:Int)<=(c.toNat:Int)
  ·have f2:decide ((65:Int)<=(S[0].toNat:Int))=true:=by rw[HG.o];exact qG (by omega)
   have f3:decide ((S[0].toNat:Int)<=(90:Int))=false:=by rw[HG.o];exact decide_eq_false (by have :=qm.o.1;omega)
   clear Yc;go_wp2_with fail;go_meet;case rel=>exact⟨rfl,rfl⟩
  ·have f2:decide ((65:Int)<=(S[0].toNat:Int))=false:=by rw[HG.o];exact decide_eq_false (by omega)
   clear Yc;go_wp2_with fail;go_meet;case rel=>exact⟨rfl,rfl⟩
 case rest=>
  obtain⟨rfl,apM⟩:=hcut;subst apM;have f4:((S[0].toNat:Int)==(33:Int))=false:=by rw[HG.o];rw[Ak];exact qm.o.2.1
  have f5:((S[0].toNat:Int)==(45:Int))=false:=by rw[HG.o];rw[Ak];exact qm.o.2.2.1
  go_upto_region 11 with fail;go_cut[58](fun o wx=>o= .bool false/\wx=wc);case first=>
   by_cases h48:(48:Int)<=(c.toNat:Int)
   ·have f6:decide ((48:Int)<=(S[0].toNat:Int))=true:=by rw[HG.o];exact qG (by omega)
    have f7:decide ((S[0].toNat:Int)<=(57:Int))=false:=by rw[HG.o];exact decide_eq_false (by have :=qm.o.2.2.2;omega)
    clear h48;go_wp2_with fail;go_meet;case rel=>exact⟨rfl,rfl⟩
   ·have f6:decide ((48:Int)<=(S[0].toNat:Int))=false:=by rw[HG.o];exact decide_eq_false (by omega)
    clear h48;go_wp2_with fail;go_meet;case rel=>exact⟨rfl,rfl⟩
  case rest=>
   obtain⟨rfl,apN⟩:=hcut;subst apN;go_wp2_with fail;have HW:=Y (afu (c::rest) (by rw[<-HS.o];exact Ms r.s) HI.o);refine HW.o.mono ?_;rintro e w2⟨rfl,gu⟩;obtain⟨v2,k1,k2,k3,k4,k5⟩:=qR gu HX.o HN.o;obtain⟨yS,Yd⟩:∃yS:Rd,yS=⟨(c::rest).drop (dB (c::rest)),r.vars,false⟩:=⟨_,rfl⟩;have er:({r.space with s:=(c::rest).drop (dB (c::rest))}:Rd)=yS:=by rw[Yd,<-HB.o];rfl
   rw[er]at k1;have HI2:=Y k1;have dJ:=Y (nI aM.o HV.o k2 k3);have bu:=Y k4;have mq:=Y k5;have HRR:=Y Yd;have hl:=HI.o.len;have e0:r.space.s=c::rest:=HS.o;rw[e0]at hl;obtain⟨Wd,hWd⟩:∃Wd,Wd=(c::rest).take (dB (c::rest)):=⟨_,rfl⟩;rw[<-hWd];have HWD:=Y hWd;have hwl:(bs Wd).size<=2000:=by rw[hWd,eP,dX];omega
   have HWL:=Y hwl;have HL:=Y hl;have hz2:w.heap.size<w2.heap.size:=ax k4;clear gu k1 k2 k3 k4 k5 hl e0 b0 b1 b2 bf x0 x1 x2 x3 xf HW er Yd hWd hgl;go_wp2_with fail;obtain⟨y,hy⟩:∃y,y=w2.heap.size:=⟨_,rfl⟩;obtain⟨W3,hW3⟩:∃W3,W3=w2.alloc (.cells #[.int .i64 1,.int .i64 0,.string (bs Wd),.slice none 0 0] 34):=⟨_,rfl⟩;have HB3:=Y (show Below w2.heap.size w2 W3 by rw[hW3];exact(Z _ _).alloc (zL _) _);have ED:=Y (show W3.heap[y]?=some (.cells #[.int .i64 1,.int .i64 0,.string (bs Wd),.slice none 0 0] 34 (0,0))by rw[hW3,hy];exact bq _ _);have R5:=Y (show ¬aQ g v2 y by rw[hy];exact fun e=>by have :=HI2.o.GY _ e;omega);have hxy:w.heap.size<y:=by omega
   have iQ:=Y (aA bu.o HB3.o);have HI3:=Y (HI2.o.below HB3.o);have eY:=Y (And.intro (dJ.o.1.tb HB3.o) dJ.o.2);rw[<-hW3,<-hy];have HYZ:=Y hy;clear hW3 hy hz2;have HAT:Hd (Calls Tryz.prog 51 #[.pointer (some ⟨g,0,none⟩),.string ⟨#[40]⟩] W3 _):=Y (GR [40] (by simp) HI3.o);refine HAT.o.mono ?_;rintro e w3⟨rfl,vU⟩;obtain⟨v3,k1,k2,k3,k4,k5,k6,k7⟩:=apH vU iQ.o mq.o ED.o R5.o;have HI4:=Y k1;have iA:=Y (nI eY.o.1 eY.o.2 k2 (fun b hb=>(k3 b hb).imp id (fun e=>by have :=HB3.o.size;omega)));obtain⟨x0,x1,x2,x3,xf⟩:=aF k4;obtain⟨y0,y1,y2,y3,yf⟩:=aF k6;have hyl:=ax k6;have hxl:w.heap.size<w3.heap.size:=ax k4;have nJ:=Y k4;have uM:=Y k6;have G5:=Y k5;have uN:=Y k7;have hyx:¬w.heap.size=y:=by omega
   have aAM:¬y=w.heap.size:=by omega
   have afH:=Y (show Ea (cz n) ((c::rest).take (dB (c::rest))) ⟨(c::rest).drop (dB (c::rest)),r.vars,false⟩=if(yS.at_ [40]).1=false then(.mk 1 0 (bs Wd) [],(yS.at_ [40]).2)else(.mk 3 0 (bs Wd) (jK (cz n) ((yS.at_ [40]).2.s.length+1) [] (yS.at_ [40]).2).1,(jK (cz n) ((yS.at_ [40]).2.s.length+1) [] (yS.at_ [40]).2).2.must [41])by rw[<-HWD.o,<-HRR.o];rfl);clear vU k1 k2 k3 k4 k5 k6 k7 HAT;cases hat:(yS.at_ [40]).1 with
    |false=>have HT:=Y hat;clear hat;go_wp2_with fail;rw[afH.o,G HT.o];refine bX (v:= .agg #[.int .i64 1,.int .i64 0,.string (bs Wd),.slice none 0 0]) (by simp[results,Tryz.results50,go_sem,hcs,x0,x1,x2,x3,hgx];try rfl) rfl ?_;exact xz HI4.o iA.o.1 iA.o.2 G5.o hBx (CO afC xA (by omega))
    |true=>
     have HT:=Y (afH.o.trans (O (by rw[hat];simp)));clear hat;obtain⟨r1,hr1⟩:∃r1,r1=(yS.at_ [40]).2:=⟨_,rfl⟩;rw[<-hr1]at HI4 HT;have afI:=Y (show r1.s.length<=2000 by have :=HI4.o.len;omega);clear hr1;go_upto_block 1 with fail;rw[HT.o];have vV:Hd (xB B base g w.heap.size y vv Wd [] r1 v3 (.slice none 0 0) w (w3.setCell ⟨y,0,none⟩ (.int .i64 3))):=Y ⟨HI4.o.other uN.o (by omega),iA.o.1.setCell (p:=⟨y,0,none⟩) (.inr (by simp only;omega)) _,iA.o.2,bJ (A:=fun b=>b≠y) nJ.o (J.setCell _ _ _ _ (fun e=>e rfl)) hyx,aX uM.o 0 _,G5.o,uN.o,az.nil ..,fun b hb=>by simp[ownB]at hb,⟨rfl,hxy,by simp only[oL];exact hyl⟩,by have :=afI.o;simp only[fT];omega⟩;generalize w3.setCell ⟨y,0,none⟩ (.int .i64 3)=W4 at*;clear x0 x1 x2 x3 xf y0 y1 y2 y3 yf hyl hxl;go_cut[](fun wx=>∃vx va,xB B base g w.heap.size y vv Wd (jK (cz n) (r1.s.length+1) [] r1).1 (jK (cz n) (r1.s.length+1) [] r1).2 vx va w wx);case first=>
      go_wp2_with fail;go_loopw[](fun wr=>∃(k:Nat)(l:List Tm)(rr:Rd)(vr va:Value),xB B base g w.heap.size y vv Wd l rr vr va w wr/\jK (cz n) (r1.s.length+1) [] r1=jK (cz n) (k+1) l rr/\rr.s.length<=k/\l.length+rr.s.length<=2000)(fun wr=>uG g wr);case atStart=>exact⟨r1.s.length,[],r1,v3,.slice none 0 0,vV.o,rfl,zL _,by simpa using afI.o⟩
      case round=>
       obtain⟨k,l,rr,vr,va,hT,hargs,hk,hll⟩:=hrel;have fw:=Y hT;have CP:=Y hargs;have Nt:=Y hk;have lV:=Y hll;have hlt:=hT.xy.2.2;obtain⟨pa,pc,rfl,hpl,hpm⟩:=az.kG hT.own;have hd24:d<=24:=by simpa using f1
       have hd0:=HD0.o;have hq3:wr.drew.cell? ⟨y,3,none⟩=some (.slice pa l.length pc):=(bY fw.o.drew.AU 3).trans rfl;obtain⟨X,hX⟩:∃X,X=cz n rr:=⟨_,rfl⟩;have hcall:=Yb.o vr rr wr.drew fw.o.drew.rd;have hxl:=Jk n rr;rw[<-hX]at hcall hxl;have mr:=Y hcall;have mW:=Y hX;have pE:=Y hxl;clear hT hargs hk hll vV hcall hX hxl;go_wp2_with fail;refine jd (F:=fun k w'=>k=1->w'.cell? ⟨y,3,none⟩=some (.slice pa l.length pc)) (by kernel_rfl) ?_;refine zT 0 (fun _=>hq3) ?_;try simp only[U]
       refine zY 1 (fun _=>hq3) ?_ (z:=by intro w' hw;obtain q3:=hw (by omega);go_simp<;>with_reducible rfl);try simp only[U]
       refine zT 2 (fun _=>hq3) ?_;try simp only[U]
       refine zT 3 (fun _=>hq3) ?_;try simp only[U]
       refine zY (v:= .int .i64 (d+1)) 4 (fun _=>hq3) ?_ (z:=by intro w' hw;clear hw;go_simp;rw[Wx]<;>omega);try simp only[U]
       refine zO 5 ?_;go_simp;refine mr.o.mono ?_;rintro e w5⟨us,mX,rfl,k1,k2,k3,k4⟩;obtain⟨ua,uc,rfl, -⟩:=Tm.dV k4;have hol:=fw.o.own.lt;have CQ:=Y (fw.o.drew.move k1 k2 k3 (by have :=pE.o;have :=lV.o;omega));have CR:=Y (show Tm.rep (fun b=>(y+1<=b/\¬aQ g mX b)/\ownB (.slice pa l.length pc)≠some b) w5 X.1 _ from Tm.ae.2.1 _ _ _ _ _ k4 fun b _ hb=>⟨⟨by have :=hb.1;simp only[dG]at this;omega,hb.2⟩,fun e=>by have :=(hol b e).2;have :=hb.1;simp only[dG]at this;omega⟩);have Nu:=Y (show w5.cell? ⟨y,3,none⟩=some (.slice pa l.length pc)from(bY CQ.o.AU 3).trans rfl);have qp:=Y (show l.length<4194304/\y+1<=w5.heap.size from⟨by have :=lV.o;omega,CQ.o.xy.2.2⟩);clear k1 k2 k3 k4 hq3;refine⟨fun _ _ _ _=>Nu.o,?_⟩;refine zO 6 ?_;go_simp;refine⟨fun _ _ _ _=>(J.alloc (fun _=>True) w5 _).cell trivial Nu.o,?_⟩;refine zO 7 ?_;refine uC (.tmp 96) (.tmp 101) 23 rfl (y+1) 34 4 56 Au Tm.ae _ _ rfl CQ.o.own X.1 [_,_,_,_] rfl rfl CR.o qp.o ?_;intro v2 w6 hown hg;have hny:ownB (.slice pa l.length pc)≠some y:=fun e=>by have :=(hol y e).1;omega
       have Ye:J (fun b=>ownB (.slice pa l.length pc)≠some b) w5 w6:=(J.alloc _ _ _).trans (hg.keeps fun b hb=>hb);refine⟨fun _ _ _ _=>Ye.cell hny Nu.o,?_⟩;obtain⟨Yf,Yg,hv2, -⟩:=az.kG hown;rw[show(l++[X.1]).length=l.length+1 by simp]at hv2;subst hv2;have EE:=Y (CQ.o.push hBx hown hg (by have :=pE.o;have :=lV.o;omega));have hq6:=aF (bJ CQ.o.AU Ye hny);obtain⟨q0,q1,q2,q3,qf⟩:=hq6;clear hown hg Ye;simp only[U];refine zT 8 (fun h=>by omega) ?_;try simp only[U]
       refine zO 9 ?_;go_simp;refine⟨fun k0 hk0 _ h12=>?_,zQ ?_⟩;·subst h12;exact absurd (show waits _ 9 1=true by kernel_rfl) (by rw[hk0];decide)
       generalize w6.setCell ⟨y,3,none⟩ _=W7 at*;obtain⟨b0,b1,b2,bf⟩:=EE.o.rd.cells;have Yh:=EE.o.rd.lt.1;clear q0 q1 q2 q3 qf;cases hbd:X.2.bad with
        |true=>have nU:=Y (show jK (cz n) (r1.s.length+1) [] r1=(l++[X.1],X.2)by rw[CP.o,apI (by rw[<-mW.o];exact hbd),<-mW.o]);rw[hbd]at b2;clear hbd;go_wp2_with fail;go_meet;case rel=>rw[nU.o];exact⟨_,_,EE.o⟩
        |false=>
         have nU:=Y hbd;rw[hbd]at b2;clear hbd;have HAT:Hd (Calls Tryz.prog 51 #[.pointer (some ⟨g,0,none⟩),.string ⟨#[44]⟩] W7 _):=Y (GR [44] (by simp) EE.o.rd);go_wp2_with fail;refine HAT.o.mono ?_;rintro e w8⟨rfl,v8,k1,k2,k3⟩;have hal:=at_len (sg:=[44]) X.2;have iT:=Y (EE.o.move k1 k2 k3 (by have :=pE.o;have :=lV.o;have :=hal.1;simp only[bB,dZ];omega));have kW:=Y hal;clear k1 k2 k3 hal;cases hat:(X.2.at_ [44]).1 with
          |false=>have AV:=Y (show jK (cz n) (r1.s.length+1) [] r1=(l++[X.1],(X.2.at_ [44]).2)by rw[CP.o,apK (by rw[<-mW.o];exact nU.o) (by rw[<-mW.o];exact hat),<-mW.o]);clear hat;go_wp2_with fail;go_meet;case rel=>rw[AV.o];exact⟨_,_,iT.o⟩
          |true=>
           have AV:=Y (show jK (cz n) (r1.s.length+1) [] r1=jK (cz n) k (l++[X.1]) (X.2.at_ [44]).2 by rw[CP.o,apJ (by rw[<-mW.o];exact nU.o) (by rw[<-mW.o];exact hat),<-mW.o]);have Nv:=Y (kW.o.2 hat);clear hat;go_wp2_with fail;go_roundw;case rel=>have h1:=Nv.o;have h2:=pE.o;have h3:=Nt.o;have h4:=lV.o;simp only[dZ]at h1;exact⟨k - 1,l++[X.1],(X.2.at_ [44]).2,v8,_,iT.o,by rw[AV.o,show k - 1+1=k by omega],by omega,by simp only[bB,dZ];omega⟩
           case measure=>have h1:=Nv.o;have h2:=pE.o;simp only[dZ]at h1;rw[uH iT.o.rd,uH fw.o.rd];omega
     case rest=>obtain⟨vx,va,hT⟩:=hcut;obtain⟨A,hA⟩:∃A,A=jK (cz n) (r1.s.length+1) [] r1:=⟨_,rfl⟩;rw[<-hA]at hT;have fw:=Y hT;have HA:=Y hA;obtain⟨pa,pc,rfl,hpl,hpm⟩:=az.kG hT.own;clear hT hA vV;have HAT:Hd (Calls Tryz.prog 51 #[.pointer (some ⟨g,0,none⟩),.string ⟨#[41]⟩] wc _):=Y (GR [41] (by simp) fw.o.rd);go_wp2_with fail;refine HAT.o.mono ?_;rintro e w8⟨rfl,v8,k1,k2,k3⟩;have hal:=at_len (sg:=[41]) A.2;have iT:=Y (fw.o.move k1 k2 k3 (by have :=fw.o.ll;have :=hal.1;omega));clear k1 k2 k3 hal;cases hat:(A.2.at_ [41]).1 with|true=>have HM:=Y (show A.2.must [41]=(A.2.at_ [41]).2 by unfold Rd.must;rw[G hat]);have eH:=iT;clear hat;obtain⟨q0,q1,q2,q3,qf⟩:=aF eH.o.AU;obtain⟨x0,x1,x2,x3,xf⟩:=aF eH.o.bx;have hyl:=eH.o.xy.2.2;have apQ:=ax eH.o.bx;go_wp2_with fail;rw[HT.o,<-HA.o,HM.o];refine bX (v:= .agg #[.int .i64 3,.int .i64 0,.string (bs Wd),.slice pa A.1.length pc]) (by simp[results,Tryz.results50,go_sem,hcs,x0,x1,x2,x3,q0,q1,q2,q3,hyx];try rfl) rfl ?_;refine xz eH.o.rd eH.o.ch eH.o.vg eH.o.nx hBx ?_;have hol:=eH.o.own.lt;refine Tm.jv.2 ⟨afD,xA,by omega,_,rfl,az.sl' Tm.ae (eH.o.own.mono Tm.ae fun b hb hA=>⟨⟨by omega,hA.2⟩,by omega⟩) (by have :=eH.o.ll;omega) fun b hb=>?_⟩;have h1:=(hol b hb).1;exact⟨⟨by omega,eH.o.na b hb⟩,by omega⟩|false=>have HM:=Y (show A.2.must [41]=(A.2.at_ [41]).2.kill by unfold Rd.must;rw[O (by rw[hat];simp)]);obtain⟨b0,b1,b2,bf⟩:=iT.o.rd.cells;have Nw:=iT.o.rd.lt.1;obtain⟨v9,k1,k2,k3⟩:=iT.o.rd.AA true;have eH:=Y (iT.o.move k1 k2 k3 (by have :=iT.o.ll;exact this));have hgy:¬g=y:=fun e=>iT.o.ny (.inl e.symm);clear hat k1 k2 k3;obtain⟨p0,p1,p2,p3,pf⟩:=aF iT.o.AU;obtain⟨o0,o1,o2,o3,of⟩:=aF iT.o.bx;obtain⟨q0,q1,q2,q3,qf⟩:=aF eH.o.AU;obtain⟨x0,x1,x2,x3,xf⟩:=aF eH.o.bx;have hyl:=eH.o.xy.2.2;have apQ:=ax eH.o.bx;go_wp2_with fail;rw[HT.o,<-HA.o,HM.o];refine bX (v:= .agg #[.int .i64 3,.int .i64 0,.string (bs Wd),.slice pa A.1.length pc]) (by simp[results,Tryz.results50,go_sem,hcs,x0,x1,x2,x3,q0,q1,q2,q3,o0,o1,o2,o3,p0,p1,p2,p3,hgx,hgy,hyx];try rfl) rfl ?_;refine xz eH.o.rd eH.o.ch eH.o.vg eH.o.nx hBx ?_;have hol:=eH.o.own.lt;refine Tm.jv.2 ⟨afD,xA,by omega,_,rfl,az.sl' Tm.ae (eH.o.own.mono Tm.ae fun b hb hA=>⟨⟨by omega,hA.2⟩,by omega⟩) (by have :=eH.o.ll;omega) fun b hb=>?_⟩;have h1:=(hol b hb).1;exact⟨⟨by omega,eH.o.na b hb⟩,by omega⟩
end
section
variable {B base g : Nat} {vv v1 : Value} {r r1 r2 : Rd} {w w1 w2 : World}
theorem Yi:∀(n:Nat)(hn:n<=24)(d:Int)(hd:d=25 - (n:Int))(vv:Value)(r:Rd)(w:World),bT B base g vv r w->Calls Tryz.prog 50 #[.pointer (some ⟨g,0,none⟩),.int .i64 d] w (vS B base g vv (cz n r) w)
 |0,hn,d,hd,vv,r,w,h=>apy d (by omega) h
 |n+1,hn,d,hd,vv,r,w,h=>by
  have IH:=fun(vv:Value)(r:Rd)(w:World)h=>Yi n (by omega) (d+1) (by omega) vv r w h;by_cases hb:r.bad=true
  ·have e:cz (n+1) r=(xk,r.space.kill):=by rw[cz,G hb]
   rw[e];exact apz d (by omega) hb h
  ·have hb':r.bad=false:=by simpa using hb
   have e:cz (n+1) r=match bP r.s with|[]=>(xk,r.space.kill)|c::rest=>Eb (cz n) c rest r.vars:=by rw[cz,O hb];cases bP r.s<;>rfl
   rw[e];cases hs:bP r.s with
    |nil=>exact apA d (by omega) hb' hs h
    |cons c rest=>
     simp only;unfold Eb;split;·rename_i hu;have h1:=apB d (by omega) c rest hb' hs (GU.1 hu) h;unfold GZ at h1;simp only[hb']at h1;exact h1
     ·rename_i hu;split;·rename_i Yj;have h1:=apE d (by omega) c rest hb' hs (by rw[Yj];rfl) h;simp only[hb']at h1;exact h1
      ·rename_i Yj;split
       ·rename_i hn;have hnr:vT r c rest=match Ji ((c::rest).take (ed (c::rest)))with|some k=>(.mk 2 k ⟨#[]⟩ [],⟨(c::rest).drop (ed (c::rest)),r.vars,false⟩)|none=>(.mk 2 0 ⟨#[]⟩ [],⟨c::rest,r.vars,true⟩):=by unfold vT xu;simp only[hb'];cases Ji ((c::rest).take (ed (c::rest)))<;>rfl
        have h1:Calls Tryz.prog 50 #[.pointer (some ⟨g,0,none⟩),.int .i64 d] w (vS B base g vv (vT r c rest) w):=by
         rcases hn with h45|hdg;·exact apF d (by omega) c rest hb' hs (by rw[h45];rfl) h
         ·exact apG d (by omega) c rest hb' hs (Nr.1 hdg) h
        rw[hnr]at h1;exact h1
       ·rename_i hn;exact apL n d (by omega) (by omega) IH c rest hb' hs ⟨by simpa using hu,Yj,hn⟩ h
structure CS (B base g : Nat) (vv : Value) (l : List Tm) (rr : Rd) (vr va : Value) (w0 wr : World) : Prop where
  rd : bT B base g vr rr wr
  ch : Ch (aQ g vv) w0 wr
  vg : VG w0 vv vr
  own : az wr w0.heap.size 34 4 Tm.rep (fun b => w0.heap.size ≤ b ∧ ¬ aQ g vr b) l va
  na : ∀ b, ownB va = some b → ¬ aQ g vr b
  ll : l.length + rr.s.length ≤ 2001
section
variable {l : List Tm} {rr yR : Rd} {vr mX va : Value} {w0 wr w5 : World}
theorem CS.move(h:CS B base g vv l rr vr va w0 wr)(k1:bT B base g mX yR w5)(k2:Ch (aQ g vr) wr w5)(k3:VG wr vr mX)(hll:l.length+yR.s.length<=2001):CS B base g vv l yR mX va w0 w5:=by have hn2:∀b,b<wr.heap.size->¬aQ g vr b->¬aQ g mX b:=fun b hb hn e=>(VG.rm k3 b e).elim hn (fun e=>by omega);exact⟨k1,h.ch.trans k2 (VG.rm h.vg),h.vg.trans k3 h.ch.size,((h.own.mono (A':=fun b=>(w0.heap.size<=b/\¬aQ g mX b)/\¬aQ g vr b) Tm.ae (fun b hb hA=>⟨⟨hA.1,hn2 b hb hA.2⟩,hA.2⟩)).keeps (B:=fun b=>¬aQ g vr b) Tm.ae (k2.keeps fun _ _ h=>h) (fun _ h=>h.2) h.na).mono Tm.ae (fun b _ hb=>hb.1),fun b hb=>hn2 b (h.own.lt b hb).2 (h.na b hb),hll⟩
theorem CS.push{t:Tm}{v2:Value}{w6:World}{cells:Array Value}(h:CS B base g vv l rr vr va w0 wr)(hB:B<=w0.heap.size)(hown:az w6 w0.heap.size 34 4 Tm.rep (fun b=>w0.heap.size<=b/\¬aQ g vr b) (l++[t]) v2)(hg:jJ (wr.alloc (.cells cells 34)) w6 va v2)(hll:l.length+1+rr.s.length<=2001):CS B base g vv (l++[t]) rr vr v2 w0 w6:=by
 have hown2:∀b,ownB va=some b->w0.heap.size<=b/\b<wr.heap.size:=h.own.lt;have hk:J (fun b=>ownB va≠some b) wr w6:=(J.alloc _ _ _).trans (hg.keeps fun b hb=>hb);refine⟨h.rd.keeps (hk.mono fun b hb hA e=>?_),hg.ch (h.ch.alloc _) (fun b hb=> .inr (hown2 b hb).1),h.vg,hown,fun b hb=>?_,?_⟩
 ·rcases hA with hA|hA;·have :=(hown2 b e).1;omega
  ·exact h.na b e hA
 ·rcases hg.block with e|e;·exact h.na b (e▸hb)
  ·have h1:=e b hb;simp only[bO]at h1;exact fun hm=>by have :=h.rd.GY b hm;omega
 ·simp only[bB,dZ];omega
end
def RGl(B base g:Nat)(vv:Value)(x:List Tm×Rd)(w:World)(e:Ending)(w':World):Prop:=∃lv nV,e= .returned lv/\bT B base g nV x.2 w'/\Ch (aQ g vv) w w'/\VG w vv nV/\iN (fun b=>w.heap.size<=b/\¬aQ g nV b) w' x.1 lv/\x.1.length<=2001
theorem apS{f:Rd->Tm×Rd}{k:Nat}{l:List Tm}{r:Rd}(hb:r.bad=false)(ha:((f r).2.at_ [44]).1=false):jA f (k+1) l r=(l++[(f r).1],((f r).2.at_ [44]).2):=by rw[jA,O (by rw[hb];simp),O (by rw[ha];simp)]
theorem apT{f:Rd->Tm×Rd}{k:Nat}{l:List Tm}{r:Rd}(hb:r.bad=false)(ha:((f r).2.at_ [44]).1=true):jA f (k+1) l r=jA f k (l++[(f r).1]) ((f r).2.at_ [44]).2:=by rw[jA,O (by rw[hb];simp),G ha]
theorem afK(h:bT B base g vv r w):Calls Tryz.prog 40 #[.pointer (some ⟨g,0,none⟩)] w (RGl B base g vv (gD r) w):=by
 have HU:=Y h;have hBx:B<=w.heap.size:=by have :=h.bg;omega
 have JR:=Y h.len;have xw:=Y (show gD r=((jA (cz 24) (r.s.length+1) [] r).1,(jA (cz 24) (r.s.length+1) [] r).2.must [46])from rfl);have vV:Hd (CS B base g vv [] r vv (.slice none 0 0) w w):=Y ⟨h,Ch.refl _ _,VG.refl _ _,az.nil ..,fun b hb=>by simp[ownB]at hb,by have :=h.len;simp only[fT];omega⟩;clear h;go_enter Tryz.func40,Tryz.ntmps40;go_upto_block 0 with fail;go_cut[3](fun va wx=>∃vx,CS B base g vv (jA (cz 24) (r.s.length+1) [] r).1 (jA (cz 24) (r.s.length+1) [] r).2 vx va w wx);case first=>
  go_wp2_with fail;go_loopw[3](fun va wr=>∃(k:Nat)(l:List Tm)(rr:Rd)(vr:Value),CS B base g vv l rr vr va w wr/\jA (cz 24) (r.s.length+1) [] r=jA (cz 24) (k+1) l rr/\rr.s.length<=k/\l.length+rr.s.length<=2000)(fun _ wr=>uG g wr);case atStart=>exact⟨r.s.length,[],r,vv,vV.o,rfl,zL _,by have :=JR.o;simp only[fT];omega⟩
  case round=>
   obtain⟨k,l,rr,vr,hT,hargs,hk,hll⟩:=hrel;have fw:=Y hT;have CP:=Y hargs;have Nt:=Y hk;have lV:=Y hll;obtain⟨pa,pc,rfl,hpl,hpm⟩:=az.kG hT.own;obtain⟨b0,b1,b2,bf⟩:=hT.rd.cells;have hgl:=hT.rd.lt.1;clear hT hargs hk hll vV;cases hbd:rr.bad with
    |true=>rw[hbd]at b2;have nU:=Y (show jA (cz 24) (r.s.length+1) [] r=(l,rr)by rw[CP.o,an0 _ _ _ hbd]);clear hbd;go_wp2_with fail;go_meet;case rel=>rw[nU.o];exact⟨_,fw.o⟩
    |false=>
     rw[hbd]at b2;have nU:=Y hbd;obtain⟨X,hX⟩:∃X,X=cz 24 rr:=⟨_,rfl⟩;have hcall:=Yi (B:=B) (base:=base) (g:=g) 24 (by omega) 1 (by omega) vr rr wr fw.o.rd;have hxl:=Jk 24 rr;rw[<-hX]at hcall hxl;have mr:=Y hcall;have mW:=Y hX;have pE:=Y hxl;clear hbd hcall hX hxl;go_wp2_with fail;refine mr.o.mono ?_;rintro e w5⟨us,mX,rfl,k1,k2,k3,k4⟩;obtain⟨ua,uc,rfl, -⟩:=Tm.dV k4;have hol:=fw.o.own.lt;have CQ:=Y (fw.o.move k1 k2 k3 (by have :=pE.o;have :=lV.o;omega));have apU:=Y fw.o.ch.size;have CR:=Y (show Tm.rep (fun b=>(w.heap.size<=b/\¬aQ g mX b)/\ownB (.slice pa l.length pc)≠some b) w5 X.1 _ from Tm.ae.2.1 _ _ _ _ _ k4 fun b _ hb=>⟨⟨dm apU.o hb.1,hb.2⟩,fun e=>by have :=(hol b e).2;have :=hb.1;omega⟩);have qp:=Y (show l.length<4194304/\w.heap.size<=w5.heap.size from⟨by have :=lV.o;omega,CQ.o.ch.size⟩);clear k1 k2 k3 k4 b0 b1 b2 bf hgl;go_wp2_with(at_builtin;go_must(refine ja rfl (.tmp 9) (.tmp 12) 23 rfl w.heap.size 34 4 56 Au Tm.ae (A:=fun b=>w.heap.size<=b/\¬aQ g mX b) (.slice pa l.length pc) l rfl CQ.o.own X.1 [_,_,_,_] (by rfl) rfl CR.o qp.o ?_);go_must(intro v2 w6 hown hg;obtain⟨Yf,Yg,hv2, -⟩:=az.kG hown;rw[show(l++[X.1]).length=l.length+1 by simp]at hv2;subst hv2;have EE:=Y (CQ.o.push hBx hown hg (by have :=pE.o;have :=lV.o;omega));clear hown hg));have HAT:Hd (Calls Tryz.prog 51 #[.pointer (some ⟨g,0,none⟩),.string ⟨#[44]⟩] w6 _):=Y (GR [44] (by simp) EE.o.rd);refine HAT.o.mono ?_;rintro e w8⟨rfl,v8,k1,k2,k3⟩;have hal:=at_len (sg:=[44]) X.2;have iT:=Y (EE.o.move k1 k2 k3 (by have :=pE.o;have :=lV.o;have :=hal.1;simp only[bB,dZ];omega));have kW:=Y hal;clear k1 k2 k3 hal;cases hat:(X.2.at_ [44]).1 with
      |false=>have AV:=Y (show jA (cz 24) (r.s.length+1) [] r=(l++[X.1],(X.2.at_ [44]).2)by rw[CP.o,apS nU.o (by rw[<-mW.o];exact hat),<-mW.o]);clear hat;go_wp2_with fail;go_meet;case rel=>rw[AV.o];exact⟨_,iT.o⟩
      |true=>
       have AV:=Y (show jA (cz 24) (r.s.length+1) [] r=jA (cz 24) k (l++[X.1]) (X.2.at_ [44]).2 by rw[CP.o,apT nU.o (by rw[<-mW.o];exact hat),<-mW.o]);have Nv:=Y (kW.o.2 hat);clear hat;go_wp2_with fail;go_roundw;case rel=>have h1:=Nv.o;have h2:=pE.o;have h3:=Nt.o;have h4:=lV.o;simp only[dZ]at h1;exact⟨k - 1,l++[X.1],(X.2.at_ [44]).2,v8,iT.o,by rw[AV.o,show k - 1+1=k by omega],by omega,by simp only[bB,dZ];omega⟩
       case measure=>have h1:=Nv.o;have h2:=pE.o;simp only[dZ]at h1;rw[uH iT.o.rd,uH fw.o.rd];omega
 case rest=>obtain⟨vx,hT⟩:=hcut;obtain⟨A,hA⟩:∃A,A=jA (cz 24) (r.s.length+1) [] r:=⟨_,rfl⟩;rw[<-hA]at hT;have fw:=Y hT;have HA:=Y hA;obtain⟨pa,pc,rfl,hpl,hpm⟩:=az.kG hT.own;clear hT hA vV;have HAT:Hd (Calls Tryz.prog 51 #[.pointer (some ⟨g,0,none⟩),.string ⟨#[46]⟩] wc _):=Y (GR [46] (by simp) fw.o.rd);go_wp2_with fail;refine HAT.o.mono ?_;rintro e w8⟨rfl,v8,k1,k2,k3⟩;have hal:=at_len (sg:=[46]) A.2;have iT:=Y (fw.o.move k1 k2 k3 (by have :=fw.o.ll;have :=hal.1;omega));clear k1 k2 k3 hal;cases hat:(A.2.at_ [46]).1 with|true=>have HM:=Y (show A.2.must [46]=(A.2.at_ [46]).2 by unfold Rd.must;rw[G hat]);have eH:=iT;clear hat;go_wp2_with fail;go_ret;rw[xw.o,<-HA.o,HM.o];exact⟨_,v8,rfl,eH.o.rd,eH.o.ch,eH.o.vg,az.sl' Tm.ae eH.o.own (show A.1.length<=1048576 by have :=eH.o.ll;omega) fun b hb=>⟨(eH.o.own.lt b hb).1,eH.o.na b hb⟩,by have :=eH.o.ll;simp only;omega⟩|false=>have HM:=Y (show A.2.must [46]=(A.2.at_ [46]).2.kill by unfold Rd.must;rw[O (by rw[hat];simp)]);obtain⟨b0,b1,b2,bf⟩:=iT.o.rd.cells;have Nw:=iT.o.rd.lt.1;obtain⟨v9,k1,k2,k3⟩:=iT.o.rd.AA true;have eH:=Y (iT.o.move k1 k2 k3 (by have :=iT.o.ll;exact this));clear hat k1 k2 k3;go_wp2_with fail;go_ret;rw[xw.o,<-HA.o,HM.o];exact⟨_,v9,rfl,eH.o.rd,eH.o.ch,eH.o.vg,az.sl' Tm.ae eH.o.own (show A.1.length<=1048576 by have :=eH.o.ll;omega) fun b hb=>⟨(eH.o.own.lt b hb).1,eH.o.na b hb⟩,by have :=eH.o.ll;simp only;omega⟩
end
section
variable {B base g : Nat} {vv v1 : Value} {r r1 r2 : Rd} {w w0 w1 w2 : World}
theorem afL(s:Str)(hs:s.length<=2000)(hB:B<=w.heap.size)(ht:qh B w):bT B (w.heap.size+1) w.heap.size (.slice none 0 0) ⟨s,[],false⟩ (w.alloc (.cells #[.string (bs s),.slice none 0 0,.bool false] 79)):=⟨bq _ _,I.nil,ht.below ((Z _ _).alloc (zL _) _),⟨hB,by omega,by simp⟩,by simpa using hs⟩
theorem bT.Ny(h:bT B base g v1 r w1)(hg:w0.heap.size<=g)(hb:Below w0.heap.size w0 w1)(hc:Ch (aQ g v1) w1 w2):Below w0.heap.size w0 w2:=((Ch.of_below (M:=fun b=>w0.heap.size<=b) hb).trans hc fun b e=>by
 rcases e with e|e;·exact .inl (by omega)
 ·exact .inl (by have :=(h.vars.lt b e).1;have :=h.bg;omega)).below fun k hk=>by omega
end
def apV(w:World)(q:List Tm×Int×Int)(e:Ending)(w':World):Prop:=∃lv,e= .returned (.tuple #[lv,.int .i64 q.2.1,.int .i64 q.2.2])/\Below w.heap.size w w'/\iN (fun b=>w.heap.size<=b) w' q.1 lv
theorem apW{s:Str}(h:s.length>2000):dI s=([],0,3):=by unfold dI;rw[G h]
theorem apX{s:Str}(h:¬s.length>2000)(hb:(gD ⟨s,[],false⟩).2.bad=true\/(gD ⟨s,[],false⟩).2.space.s≠[]\/¬iJ (gD ⟨s,[],false⟩).1 ((gD ⟨s,[],false⟩).2.vars.length:Nat)):dI s=([],0,1):=by unfold dI;rw[O h,G hb]
theorem apY{s:Str}(h:¬s.length>2000)(hb:¬((gD ⟨s,[],false⟩).2.bad=true\/(gD ⟨s,[],false⟩).2.space.s≠[]\/¬iJ (gD ⟨s,[],false⟩).1 ((gD ⟨s,[],false⟩).2.vars.length:Nat))):dI s=((gD ⟨s,[],false⟩).1,(((gD ⟨s,[],false⟩).2.vars.length:Nat):Int),0):=by unfold dI;rw[O h,O hb]
theorem afM(s:Str)(hs:s.length<=1048576)(B:Nat)(w:World)(hB:B<=w.heap.size)(ht:qh B w):Calls Tryz.prog 14 #[.string (bs s)] w (apV w (dI s)):=by
 have HT:=Y ht;have hz:(bs s).size<=1048576:=by rw[eP];exact hs
 clear ht hs;by_cases hl:s.length>2000
 ·have hd:decide (2000<(bs s).size)=true:=by rw[eP];simpa using hl
  have hd':decide ((2000:Int)<((bs s).size:Int))=true:=by rw[eP];simp;omega
  have HQ:=Y (apW hl);clear hl;go_enter Tryz.func14,Tryz.ntmps14;go_wp2_with fail;go_ret3;rw[HQ.o];exact⟨_,rfl,Z _ _,ag.nil ..⟩
 ·have hd:decide (2000<(bs s).size)=false:=by rw[eP];simpa using hl
  have hd':decide ((2000:Int)<((bs s).size:Int))=false:=by rw[eP];simp;omega
  have HL:=Y hl;have HI:=Y (afL s (by omega) hB HT.o);have HB1:=Y (show Below w.heap.size w (w.alloc (.cells #[.string (bs s),.slice none 0 0,.bool false] 79))from(Z _ _).alloc (zL _) _);obtain⟨aEX,hG⟩:∃aEX,aEX=gD ⟨s,[],false⟩:=⟨_,rfl⟩;have HG:=Y hG;have lT:=Y (afK HI.o);rw[<-hG]at lT;have nG:=Y (show Tm.aC aEX.1<=2001 by rw[hG];have :=Xt ⟨s,[],false⟩;have e:(⟨s,[],false⟩:Rd).s.length=s.length:=rfl;omega);clear hl hG;go_enter Tryz.func14,Tryz.ntmps14;go_wp2_with fail;refine lT.o.mono ?_;rintro e w2⟨lv,v2,rfl,k1,k2,k3,k4,k5⟩;obtain⟨la,lc,lb,lo,rfl,hl1,hl2,hl3, -⟩:=k4.at;have HI2:=Y k1;have HB2:=Y (HI.o.Ny (zL _) HB1.o k2);have HR2:=Y k4;have dN:=Y (uL k1);clear k1 k2 k3 k4 k5;go_wp2_with fail;refine dN.o.mono ?_;rintro e w3⟨rfl,v3,k1,k2,k3⟩;have HI3:=Y k1;have HB3:=Y (HI2.o.Ny (zL _) HB2.o k2);have HR3:=Y (ag.mono (A':=fun b=>w.heap.size<=b) Tm.ae (by omega) (ag.keeps Tm.ae HR2.o (k2.keeps fun b _ hb=>hb.2)) fun b _ hb=>by have :=hb.1;simp only[bO]at this;omega);obtain⟨b0,b1,b2,bf⟩:=k1.cells;have hgl:=k1.lt.1;obtain⟨va,vc,hv,hvl,qg⟩:=k1.vars.val;have hlen:=k1.len;have e0:aEX.2.space.s=bP aEX.2.s:=rfl;have e1:aEX.2.space.vars=aEX.2.vars:=rfl;have e2:aEX.2.space.bad=aEX.2.bad:=rfl;rw[e0]at b0 hlen;rw[e1]at hv hvl hlen;rw[e2]at b2;subst hv;unfold maxLen at qg;clear k1 k2 k3 dN lT e0 e1 e2;have HBAD:=Y (fun hb=>apX (s:=s) HL.o hb);have jO:=Y (fun hb=>apY (s:=s) HL.o hb);rw[<-HG.o]at HBAD jO;cases hbd:aEX.2.bad with
   |true=>rw[hbd]at b2;have HQ:=Y (HBAD.o (.inl hbd));clear hbd;go_wp2_with fail;go_ret3;rw[HQ.o];exact⟨_,rfl,HB3.o,ag.nil ..⟩
   |false=>
    have nU:=Y hbd;rw[hbd]at b2;clear hbd;cases hsp:bP aEX.2.s with
     |cons c rest=>rw[hsp]at b0;obtain⟨t1,t2,t3⟩:=XQ c rest;have HQ:=Y (HBAD.o (.inr (.inl (by show bP aEX.2.s≠[];rw[hsp];simp))));clear hsp;go_wp2_with fail;go_ret3;rw[HQ.o];exact⟨_,rfl,HB3.o,ag.nil ..⟩
     |nil=>
      rw[hsp]at b0;obtain⟨t1,t2⟩:=RV;have HS:=Y (show aEX.2.space.s=[]from hsp);have hv64:ah (aEX.2.vars.length:Int):=by unfold ah;omega
      have vW:=Y (Jv aEX.1 (aEX.2.vars.length:Int) (by have :=nG.o;omega) hv64 _ w3 _ HR3.o);clear hsp hv64;go_wp2_with fail;refine vW.o.mono ?_;rintro e w4⟨v,rfl,hb4,t,rfl,hgt⟩;have bL:=Y (HB3.o.trans (hb4.mono HB3.o.size));have HR4:=Y (ag.keeps Tm.ae HR3.o (J.ob hb4));obtain⟨b0,b1,b2,bf⟩:=(HI3.o.below hb4).cells;have CU:=(HI3.o.below hb4).lt.1;have xC:=Y hgt;clear hb4 hgt;cases t with
       |false=>have HQ:=Y (HBAD.o (.inr (.inr (fun h=>by have :=xC.o.2 h;cases this))));clear HBAD jO;go_wp2_with fail;go_ret3;rw[HQ.o];exact⟨_,rfl,bL.o,ag.nil ..⟩
       |true=>
        have HQ:=Y (jO.o (by
         rintro(h|h|h);·rw[nU.o]at h;cases h
         ·exact h HS.o
         ·exact h (xC.o.1 rfl)));have e1:aEX.2.space.vars=aEX.2.vars:=rfl;rw[e1]at*;clear HBAD jO e1;go_wp2_with fail;go_quiet(fail);have bH:=Y (show Below w.heap.size w (w4.drewN nq)from bL.o.trans ⟨rfl,rfl,rfl,zL _,fun _ _=>rfl⟩);have JS:=Y (ag.keeps (w':=w4.drewN nq) Tm.ae HR4.o ⟨zL _,fun _ _ _=>rfl⟩);generalize w4.drewN nq=W5 at*;go_wp2_with fail;go_ret3;rw[HQ.o];exact⟨_,rfl,bH.o,JS.o⟩
theorem apZ:oU Tryz.prog 22 65 6 88:= .mk' (z:= .agg #[.int .i64 0,.int .i64 0,.string .empty,.slice none 0 0,.slice none 0 0,.int .i64 0]) Tryz.underlying22 (by kernel_rfl) rfl (by omega) (by omega)
structure EF (B base g : Nat) (l : List Cl) (rr : Rd) (vr va : Value) (w0 wr : World) : Prop where
  rd : bT B base g vr rr wr
  lW : Below w0.heap.size w0 wr
  own : az wr w0.heap.size 65 6 Cl.rep (fun b => w0.heap.size ≤ b ∧ ¬ aQ g vr b) l va
  na : ∀ b, ownB va = some b → ¬ aQ g vr b
  gn : w0.heap.size ≤ g
  ll : l.length + rr.s.length ≤ 2001
section
variable {B base g : Nat} {l : List Cl} {rr yR : Rd} {vr mX va : Value} {w0 wr w5 : World}
theorem EF.move(h:EF B base g l rr vr va w0 wr)(k1:bT B base g mX yR w5)(k2:Ch (aQ g vr) wr w5)(k3:VG wr vr mX)(hll:l.length+yR.s.length<=2001):EF B base g l yR mX va w0 w5:=by have hn2:∀b,b<wr.heap.size->¬aQ g vr b->¬aQ g mX b:=fun b hb hn e=>(VG.rm k3 b e).elim hn (fun e=>by omega);exact⟨k1,h.rd.Ny h.gn h.lW k2,((h.own.mono (A':=fun b=>(w0.heap.size<=b/\¬aQ g mX b)/\¬aQ g vr b) Cl.ae (fun b hb hA=>⟨⟨hA.1,hn2 b hb hA.2⟩,hA.2⟩)).keeps (B:=fun b=>¬aQ g vr b) Cl.ae (k2.keeps fun _ _ h=>h) (fun _ h=>h.2) h.na).mono Cl.ae (fun b _ hb=>hb.1),fun b hb=>hn2 b (h.own.lt b hb).2 (h.na b hb),h.gn,hll⟩
theorem EF.push{c:Cl}{v2:Value}{w6:World}{cells:Array Value}(h:EF B base g l rr vr va w0 wr)(hB:B<=w0.heap.size)(hown:az w6 w0.heap.size 65 6 Cl.rep (fun b=>w0.heap.size<=b/\¬aQ g vr b) (l++[c]) v2)(hg:jJ (wr.alloc (.cells cells 65)) w6 va v2)(hll:l.length+1+rr.s.length<=2001):EF B base g (l++[c]) rr vr v2 w0 w6:=by
 have hown2:∀b,ownB va=some b->w0.heap.size<=b/\b<wr.heap.size:=h.own.lt;have hk:J (fun b=>ownB va≠some b) wr w6:=(J.alloc _ _ _).trans (hg.keeps fun b hb=>hb);refine⟨h.rd.keeps (hk.mono fun b hb hA e=>?_),hg.below (h.lW.alloc h.lW.size _) (by simp only[bO];have :=h.lW.size;omega) (fun b hb=>(hown2 b hb).1),hown,fun b hb=>?_,h.gn,?_⟩
 ·rcases hA with hA|hA;·have :=(hown2 b e).1;omega
  ·exact h.na b e hA
 ·rcases hg.block with e|e;·exact h.na b (e▸hb)
  ·have h1:=e b hb;simp only[bO]at h1;exact fun hm=>by have :=h.rd.GY b hm;omega
 ·simp only[bB,dZ];omega
end
theorem Yk(r:Rd):r.space.space=r.space:=by unfold Rd.space;simp only;rw[Ms]
theorem afN(k:Nat)(l:List Cl)(r:Rd):lL k l r.space=lL k l r:=by cases k with|zero=>rfl|succ k=>rw[lL,lL,Yk]
theorem ap0{k:Nat}{l:List Cl}{r:Rd}(h:r.space=r)(h0:r.s=[]):lL (k+1) l r=some l:=by rw[lL,h,G h0]
theorem afO{k:Nat}{l:List Cl}{r:Rd}(h:r.space=r)(h0:¬r.s=[])(hb:(fI r).2.bad=true\/¬(fI r).1.Good):lL (k+1) l r=none:=by rw[lL,h,O h0,G hb]
theorem ap1{k:Nat}{l:List Cl}{r:Rd}(h:r.space=r)(h0:¬r.s=[])(hb:¬((fI r).2.bad=true\/¬(fI r).1.Good)):lL (k+1) l r=lL k (l++[(fI r).1]) (fI r).2:=by rw[lL,h,O h0,O hb]
theorem ap2{r:Rd}(ha:((cz 24 {r with vars:=[]}).2.at_ [58,45]).1=true):fI r=(⟨(cz 24 {r with vars:=[]}).1,(gD ((cz 24 {r with vars:=[]}).2.at_ [58,45]).2).1,(((gD ((cz 24 {r with vars:=[]}).2.at_ [58,45]).2).2.vars.length:Nat):Int)⟩,(gD ((cz 24 {r with vars:=[]}).2.at_ [58,45]).2).2):=by unfold fI;simp only;rw[G ha]
theorem ap3{r:Rd}(ha:((cz 24 {r with vars:=[]}).2.at_ [58,45]).1=false):fI r=(⟨(cz 24 {r with vars:=[]}).1,[],(((((cz 24 {r with vars:=[]}).2.at_ [58,45]).2.must [46]).vars.length:Nat):Int)⟩,((cz 24 {r with vars:=[]}).2.at_ [58,45]).2.must [46]):=by unfold fI;simp only;rw[O (by rw[ha];simp)]
theorem ap4(r:Rd):(fI r).1.head=(cz 24 {r with vars:=[]}).1/\(fI r).1.vars=(((fI r).2.vars.length:Nat):Int):=by unfold fI;simp only;split<;>exact⟨rfl,rfl⟩
theorem R6{g:Nat}{va vb:Value}{wa wb:World}{D:Nat->Prop}{t:Tm}{us:List Value}(h:Tm.rep (fun b=>D b/\¬aQ g va b) wa t us)(hc:Ch (aQ g va) wa wb)(hv:VG wa va vb):Tm.rep (fun b=>D b/\¬aQ g vb b) wb t us:=Tm.ae.2.1 _ _ _ _ _ (Tm.ae.1 _ _ _ _ _ (Tm.ae.2.1 _ (fun b=>(D b/\¬aQ g vb b)/\¬aQ g va b) _ _ _ h fun b hb hA=>⟨⟨hA.1,fun e=>(VG.rm hv b e).elim hA.2 (fun e=>by omega)⟩,hA.2⟩) (hc.keeps fun b _ hb=>hb.2)) fun b _ hb=>hb.1
def ap5(w:World)(q:List Cl×Int)(e:Ending)(w':World):Prop:=∃lv,e= .returned (.tuple #[lv,.int .i64 q.2])/\Below w.heap.size w w'/\Ay (fun b=>w.heap.size<=b) w' q.1 lv
theorem R7{w:World}{g:Nat}{E:TypeId}{v0 v1 v2 v3 v4 v5:Value}(h:w.heap[g]?=some (.cells #[v0,v1,v2,v3,v4,v5] E (0,0))):w.cell? ⟨g,0,none⟩=some v0/\w.cell? ⟨g,1,none⟩=some v1/\w.cell? ⟨g,2,none⟩=some v2/\w.cell? ⟨g,3,none⟩=some v3/\w.cell? ⟨g,4,none⟩=some v4/\w.cell? ⟨g,5,none⟩=some v5/\∀o,w.frozen? ⟨g,o,none⟩=false:=⟨(bY h 0).trans rfl,(bY h 1).trans rfl,(bY h 2).trans rfl,(bY h 3).trans rfl,(bY h 4).trans rfl,(bY h 5).trans rfl,fun o=>by simp[World.frozen?,h]⟩
theorem afP(s:Str)(hs:s.length<=1048576)(B:Nat)(w:World)(hB:B<=w.heap.size)(ht:qh B w):Calls Tryz.prog 26 #[.string (bs s)] w (ap5 w (gF s)):=by
 have HT:=Y ht;have hz:(bs s).size<=1048576:=by rw[eP];exact hs
 clear ht hs;by_cases hl:s.length>2000
 ·have hd:decide (2000<(bs s).size)=true:=by rw[eP];simpa using hl
  have hd':decide ((2000:Int)<((bs s).size:Int))=true:=by rw[eP];simp;omega
  have HQ:=Y (show gF s=([],3)by unfold gF;rw[G hl]);clear hl;go_enter Tryz.func26,Tryz.ntmps26;go_wp2_with fail;go_ret2;rw[HQ.o];exact⟨_,rfl,Z _ _,ag.nil ..⟩
 ·have hd:decide (2000<(bs s).size)=false:=by rw[eP];simpa using hl
  have hd':decide ((2000:Int)<((bs s).size:Int))=false:=by rw[eP];simp;omega
  have HQ:=Y (show gF s=Ej (lL (s.length+1) [] ⟨s,[],false⟩)by unfold gF;rw[O hl]);have nX:=Y (show s.length<=2000 by omega);have HI:=Y (afL s (by omega) hB HT.o);have HB1:=Y (show Below w.heap.size w (w.alloc (.cells #[.string (bs s),.slice none 0 0,.bool false] 79))from(Z _ _).alloc (zL _) _);have dN:=Y (uL HI.o);obtain⟨base,hbase⟩:∃base,base=w.heap.size+1:=⟨_,rfl⟩;rw[<-hbase]at HI dN;clear hl hbase;go_enter Tryz.func26,Tryz.ntmps26;go_wp2_with fail;refine dN.o.mono ?_;rintro e w1⟨rfl,v1,k1,k2,k3⟩;have vV:=Y (show EF B base w.heap.size [] (⟨s,[],false⟩:Rd).space v1 (.slice none 0 0) w w1 from⟨k1,HI.o.Ny (zL _) HB1.o k2,az.nil ..,fun b hb=>by simp[ownB]at hb,zL _,by have :(bP s).length<=s.length:=Ar s;have :=nX.o;show 0+(bP s).length<=2001;omega⟩);obtain⟨K,hK⟩:∃K,K=lL (s.length+1) [] ⟨s,[],false⟩:=⟨_,rfl⟩;rw[<-hK]at HQ;have HK:=Y hK;clear k1 k2 k3 dN HI hK;go_wp2_with fail;go_loopw[4](fun va wr=>∃(k:Nat)(l:List Cl)(rr:Rd)(vr:Value),EF B base w.heap.size l rr vr va w wr/\rr.space=rr/\K=lL (k+1) l rr/\rr.s.length<=k/\l.length+rr.s.length<=2000)(fun _ wr=>uG w.heap.size wr);case atStart=>refine⟨s.length,[],(⟨s,[],false⟩:Rd).space,v1,vV.o,Yk _,by rw[afN,HK.o],Ar s,?_⟩;have :(bP s).length<=s.length:=Ar s;have :=nX.o;show 0+(bP s).length<=2000;omega
  case round=>
   obtain⟨k,l,rr,vr,hT,hsp,hpr,hk,hll⟩:=hrel;have fw:=Y hT;have R8:=Y hsp;have rP:=Y hpr;have Nt:=Y hk;have lV:=Y hll;obtain⟨pa,pc,rfl,hpl,hpm⟩:=az.kG hT.own;obtain⟨b0,b1,b2,bf⟩:=hT.rd.cells;have hgl:=hT.rd.lt.1;clear hT hsp hpr hk hll vV;cases hrs:rr.s with
    |nil=>
     rw[hrs]at b0;obtain⟨t1,t2⟩:=RV;have HE:=Y (show K=some l by rw[rP.o,ap0 R8.o hrs]);have aAN:l.length<=2001:=by have :=fw.o.ll;omega
     clear hrs;by_cases Ei:l.length>24
     ·have hd2:decide (24<l.length)=true:=by simpa using Ei
      have hd3:decide ((24:Int)<(l.length:Int))=true:=by simp;omega
      have HR:=Y (show gF s=([],3)by rw[HQ.o,HE.o];unfold Ej;simp only;rw[G Ei]);clear Ei;go_wp2_with fail;go_ret2;rw[HR.o];exact⟨_,rfl,fw.o.lW,ag.nil ..⟩
     ·have hd2:decide (24<l.length)=false:=by simpa using Ei
      have hd3:decide ((24:Int)<(l.length:Int))=false:=by simp;omega
      have HR:=Y (show gF s=(l,0)by rw[HQ.o,HE.o];unfold Ej;simp only;rw[O Ei]);clear Ei;go_wp2_with fail;go_ret2;rw[HR.o];exact⟨_,rfl,fw.o.lW,az.sl' Cl.ae (fw.o.own.mono (A':=fun b=>w.heap.size<=b) Cl.ae fun b _ hb=>hb.1) (show l.length<=1048576 by omega) fun b hb=>(fw.o.own.lt b hb).1⟩
    |cons c0 ap6=>
     rw[hrs]at b0;obtain⟨t1,t2,t3⟩:=XQ c0 ap6;have xD:=Y hrs;have Nz:=Y (show ¬rr.s=[]by rw[hrs];simp);clear hrs;obtain⟨X,hX⟩:∃X,X=cz 24 {rr with vars:=[]}:=⟨_,rfl⟩;obtain⟨v1,k1,k2,k3⟩:=fw.o.rd.Xm;have hcall:=Yi (B:=B) (base:=base) (g:=w.heap.size) 24 (by omega) 1 (by omega) _ _ _ k1;rw[<-hX]at hcall;have mr:=Y hcall;have HX:=Y hX;have eX:=Y (And.intro k2 (show VG wr vr v1 from k3));have pE:=Y (show X.2.s.length<=rr.s.length by rw[hX];exact Jk 24 {rr with vars:=[]});clear hcall hX k1 k2 k3;go_wp2_with fail;refine mr.o.mono ?_;rintro e w2⟨us,v2,rfl,k1,k2,k3,k4⟩;obtain⟨ua,uc,rfl, -⟩:=Tm.dV k4;have HI2:=Y k1;have dJ:=Y (nI eX.o.1 eX.o.2 k2 k3);have HR2:=Y k4;clear k1 k2 k3 k4 b0 b1 b2 bf hgl t1 t2 t3;go_wp2_with fail;obtain⟨y,hy⟩:∃y,y=w2.heap.size:=⟨_,rfl⟩;obtain⟨W3,hW3⟩:∃W3,W3=w2.alloc (.cells #[.int .i64 X.1.kind,.int .i64 X.1.n,.string X.1.s,.slice ua X.1.args.length uc,.slice none 0 0,.int .i64 0] 65):=⟨_,rfl⟩;have HB3:=Y (show Below w2.heap.size w2 W3 by rw[hW3];exact(Z _ _).alloc (zL _) _);have ED:=Y (show W3.heap[y]?=some (.cells #[.int .i64 X.1.kind,.int .i64 X.1.n,.string X.1.s,.slice ua X.1.args.length uc,.slice none 0 0,.int .i64 0] 65 (0,0))by rw[hW3,hy];exact bq _ _);have R5:=Y (show ¬aQ w.heap.size v2 y by rw[hy];exact fun e=>by have :=HI2.o.GY _ e;omega);have hwy:wr.heap.size<=y:=by rw[hy];exact dJ.o.1.size
     have hww:w.heap.size<=wr.heap.size:=fw.o.lW.size;have HI3:=Y (HI2.o.below HB3.o);have eY:=Y (And.intro (dJ.o.1.tb HB3.o) dJ.o.2);have HR3:=Y (show Tm.rep (fun b=>(wr.heap.size<=b/\b≠y)/\¬aQ w.heap.size v2 b) W3 X.1 [.int .i64 X.1.kind,.int .i64 X.1.n,.string X.1.s,.slice ua X.1.args.length uc]from Tm.ae.1 _ _ _ _ _ (Tm.ae.2.1 _ _ _ _ _ HR2.o fun b hb hA=>⟨⟨by have :=hA.1;have :=eX.o.1.size;omega,by omega⟩,hA.2⟩) (J.ob HB3.o));rw[<-hW3,<-hy];clear hW3 hy HR2 HI2 dJ HB3;have HAT:Hd (Calls Tryz.prog 51 #[.pointer (some ⟨w.heap.size,0,none⟩),.string ⟨#[58,45]⟩] W3 _):=Y (GR [58,45] (by simp) HI3.o);refine HAT.o.mono ?_;rintro e w3⟨rfl,vU⟩;obtain⟨v3,k1,k2,k3,k4,k5⟩:=qR vU ED.o R5.o;have HI4:=Y k1;have iA:=Y (nI eY.o.1 eY.o.2 k2 k3);have uM:=Y k4;have G5:=Y k5;have HR4:=Y (R6 HR3.o k2 k3);have R9:=Y (fun ha=>ap2 (r:=rr) ha);have kZ:=Y (fun ha=>ap3 (r:=rr) ha);rw[<-HX.o]at R9 kZ;obtain⟨A,hA⟩:∃A,A=(X.2.at_ [58,45]).2:=⟨_,rfl⟩;rw[<-hA]at HI4 R9 kZ;have hal:=(at_len (sg:=[58,45]) X.2).1;rw[<-hA]at hal;have hyl:=ax k4;clear vU k1 k2 k3 k4 k5 HAT mr hA;go_upto_if 29 with fail;go_cut[](fun wx=>∃JU la lc,bT B base w.heap.size JU (fI rr).2 wx/\Ch (aQ w.heap.size vr) wr wx/\VG wr vr JU/\wx.heap[y]?=some (.cells #[.int .i64 X.1.kind,.int .i64 X.1.n,.string X.1.s,.slice ua X.1.args.length uc,.slice la (fI rr).1.body.length lc,.int .i64 0] 65 (0,0))/\¬aQ w.heap.size JU y/\Tm.rep (fun b=>(wr.heap.size<=b/\b≠y)/\¬aQ w.heap.size JU b) wx X.1 [.int .i64 X.1.kind,.int .i64 X.1.n,.string X.1.s,.slice ua X.1.args.length uc]/\iN (fun b=>(wr.heap.size<=b/\b≠y)/\¬aQ w.heap.size JU b) wx (fI rr).1.body (.slice la (fI rr).1.body.length lc));case first=>obtain⟨q0,q1,q2,q3,q4,q5,qf⟩:=R7 uM.o;cases hat:(X.2.at_ [58,45]).1 with|true=>have vX:=Y (R9.o hat);have lT:=Y (afK HI4.o);clear hat;go_wp2_with fail;refine lT.o.mono ?_;rintro e w5⟨lv,v5,rfl,k1,k2,k3,k4,k5⟩;obtain⟨la,lc,lb,lo,rfl,hl1,hl2,hl3, -⟩:=k4.at;have Sa:=Y k1;have fF:=Y (nI iA.o.1 iA.o.2 k2 k3);have Sb:=(k2.block y hyl G5.o).trans uM.o;have AX:=Y Sb;have CR:=Y (show ¬aQ w.heap.size v5 y from fun e=>(VG.rm k3 y e).elim G5.o (fun e=>by omega));have JS:=Y (R6 HR4.o k2 k3);have HG5:=Y (show iN (fun b=>(wr.heap.size<=b/\b≠y)/\¬aQ w.heap.size v5 b) w5 (gD A).1 (.slice la (gD A).1.length lc)from ag.mono Tm.ae (by omega) k4 fun b hb hA=>⟨⟨by have :=hA.1;have :=iA.o.1.size;omega,by have :=hA.1;omega⟩,hA.2⟩);obtain⟨q0,q1,q2,q3,q4,q5,qf⟩:=R7 Sb;have aAQ:=ax Sb;clear k1 k2 k3 k4 k5 Sb lT;go_wp2_with fail;go_meet;case rel=>rw[vX.o];have hks:J (fun b=>(wr.heap.size<=b/\b≠y)/\¬aQ w.heap.size v5 b) w5 (w5.setCell ⟨y,4,none⟩ (.slice la (gD A).1.length lc)):=J.setCell _ _ _ _ (fun e=>e.1.2 rfl);exact⟨v5,la,lc,Sa.o.other CR.o (by omega),fF.o.1.setCell (p:=⟨y,4,none⟩) (.inr (by simp only;omega)) _,fF.o.2,aX AX.o 4 _,CR.o,Tm.ae.1 _ _ _ _ _ JS.o hks,ag.keeps Tm.ae HG5.o hks⟩|false=>have vX:=Y (kZ.o hat);have AV:Hd (Calls Tryz.prog 51 #[.pointer (some ⟨w.heap.size,0,none⟩),.string ⟨#[46]⟩] w3 _):=Y (GR [46] (by simp) HI4.o);clear hat;go_wp2_with fail;refine AV.o.mono ?_;rintro e w5⟨rfl,afQ⟩;obtain⟨v5,k1,k2,k3,k4,k5⟩:=qR afQ uM.o G5.o;have Sa:=Y k1;have fF:=Y (nI iA.o.1 iA.o.2 k2 k3);have AX:=Y k4;have CR:=Y k5;have JS:=Y (R6 HR4.o k2 k3);obtain⟨b0,b1,b2,bf⟩:=k1.cells;have Yl:=k1.lt.1;clear afQ k1 k2 k3 k4 k5 AV;cases Sc:(A.at_ [46]).1 with|true=>have HM:=Y (show A.must [46]=(A.at_ [46]).2 by unfold Rd.must;rw[G Sc]);clear Sc;go_wp2_with fail;go_meet;case rel=>rw[vX.o,HM.o];exact⟨v5,none,0,Sa.o,fF.o.1,fF.o.2,AX.o,CR.o,JS.o,ag.nil ..⟩|false=>have HM:=Y (show A.must [46]=(A.at_ [46]).2.kill by unfold Rd.must;rw[O (by rw[Sc];simp)]);obtain⟨v6,k1,k2,k3,k4,k5⟩:=qR (Sa.o.AA true) AX.o CR.o;have HI6:=Y k1;have NA:=Y (nI fF.o.1 fF.o.2 k2 k3);have Ym:=Y k4;have HN6:=Y k5;have NC:=Y (R6 JS.o k2 k3);clear Sc k1 k2 k3 k4 k5;go_wp2_with fail;go_meet;case rel=>rw[vX.o,HM.o];exact⟨v6,none,0,HI6.o,NA.o.1,NA.o.2,Ym.o,HN6.o,NC.o,ag.nil ..⟩
     case rest=>
      obtain⟨JU,la,lc,k1,k2,k3,k4,k5,k6,k7⟩:=hcut;obtain⟨C,hC⟩:∃C,C=fI rr:=⟨_,rfl⟩;rw[<-hC]at k1 k4 k7;have hch:=ap4 rr;rw[<-hC,<-HX.o]at hch;have hcl:=an2 rr;rw[<-hC]at hcl;have hcn:=(aeQ rr).1;rw[<-hC]at hcn;have HC:=Y hC;have HH:=Y hch;have aqa:=Y hcl;have afR:C.1.nodes<=1099511627776:=by have :=lV.o;omega
      have qm:=Y afR;have HI9:=Y k1;have HC9:=Y (And.intro k2 k3);have HN9:=Y k5;have EG:=Y k6;have lX:=Y k7;have Yn:=Y k4;obtain⟨b0,b1,b2,bf⟩:=k1.cells;have afT:=k1.lt.1;obtain⟨va,vc,hv,hvl,qg⟩:=k1.vars.val;have hlen:=k1.len;subst hv;unfold maxLen at qg;obtain⟨q0,q1,q2,q3,q4,q5,qf⟩:=R7 k4;have aqd:=ax k4;have hgy:¬w.heap.size=y:=fun e=>k5 (.inl e.symm);have hcs:=bF;have G6:C.1.vars=(C.2.vars.length:Int):=hch.2;have HVN:=Y G6;clear hC hch hcl hcn afR k1 k2 k3 k4 k5 k6 k7 R9 kZ HI4 iA uM G5 HR4 HI3 eY HR3 ED R5 hal hyl G6;have aqe:=Y (show(wc.setCell ⟨y,5,none⟩ (.int .i64 (C.2.vars.length:Int))).heap[y]?=some (.cells #[.int .i64 X.1.kind,.int .i64 X.1.n,.string X.1.s,.slice ua X.1.args.length uc,.slice la C.1.body.length lc,.int .i64 (C.2.vars.length:Int)] 65 (0,0))from aX Yn.o 5 _);have aqf:=Y (HI9.o.other (b:=y) (o:=5) (u:= .int .i64 (C.2.vars.length:Int)) HN9.o (by omega));have Sd:=Y (And.intro (HC9.o.1.setCell (p:=⟨y,5,none⟩) (.inr (by simp only;omega)) (.int .i64 (C.2.vars.length:Int))) HC9.o.2);have hks:J (fun b=>(wr.heap.size<=b/\b≠y)/\¬aQ w.heap.size (.slice va C.2.vars.length vc) b) wc (wc.setCell ⟨y,5,none⟩ (.int .i64 (C.2.vars.length:Int))):=J.setCell _ _ _ _ (fun e=>e.1.2 rfl);have G7:=Y (show Cl.rep (fun b=>(wr.heap.size<=b/\b≠y)/\¬aQ w.heap.size (.slice va C.2.vars.length vc) b) (wc.setCell ⟨y,5,none⟩ (.int .i64 (C.2.vars.length:Int))) C.1 [.int .i64 X.1.kind,.int .i64 X.1.n,.string X.1.s,.slice ua X.1.args.length uc,.slice la C.1.body.length lc,.int .i64 (C.2.vars.length:Int)]from⟨ua,uc,la,lc,by rw[HH.o.1,HVN.o],by rw[HH.o.1];exact Tm.ae.1 _ _ _ _ _ EG.o hks,ag.keeps Tm.ae lX.o hks,by rw[HVN.o];unfold ah;omega⟩);clear hks;cases hbd:C.2.bad with
       |true=>have HB:=Y (show K=none by rw[rP.o];exact afO R8.o Nz.o (.inl (by rw[<-HC.o];exact hbd)));have HR:=Y (show gF s=([],1)by rw[HQ.o,HB.o];rfl);have fM:=Y (fw.o.rd.Ny fw.o.gn fw.o.lW Sd.o.1);rw[hbd]at b2;clear hbd;go_wp2_with fail;go_ret2;rw[HR.o];exact⟨_,rfl,fM.o,ag.nil ..⟩
       |false=>
        have nU:=Y hbd;rw[hbd]at b2;clear hbd;go_wp2_with fail;refine(Xd C.1 qm.o _ _ _ G7.o).mono ?_;rintro e CV⟨v,rfl,oh,t,rfl,hgt⟩;have aqg:=Y (aqf.o.below oh);have ND:=Y (And.intro (Sd.o.1.tb oh) Sd.o.2);have Sg:=Y (aA aqe.o oh);have xC:=Y hgt;have Si:=Y (aqa.o.2 nU.o);have G8:=Y (fw.o.move aqg.o ND.o.1 ND.o.2 (by have :=Si.o;have :=lV.o;omega));have hol:=fw.o.own.lt;have aqh:=Y (show Cl.rep (fun b=>(w.heap.size<=b/\¬aQ w.heap.size (.slice va C.2.vars.length vc) b)/\ownB (.slice pa l.length pc)≠some b) CV C.1 [.int .i64 X.1.kind,.int .i64 X.1.n,.string X.1.s,.slice ua X.1.args.length uc,.slice la C.1.body.length lc,.int .i64 (C.2.vars.length:Int)]from Cl.ae.2.1 _ _ _ _ _ (Cl.ae.1 _ _ _ _ _ G7.o (J.ob oh)) fun b _ hb=>⟨⟨by have :=hb.1.1;omega,hb.2⟩,fun e=>by have :=(hol b e).2;have :=hb.1.1;omega⟩);have qp:=Y (show l.length<4194304/\w.heap.size<=CV.heap.size from⟨by have :=lV.o;omega,G8.o.lW.size⟩);clear oh hgt b0 b1 b2 bf afT q0 q1 q2 q3 q4 q5 qf aqd;obtain⟨q0,q1,q2,q3,q4,q5,qf⟩:=R7 Sg.o;have aAR:=ax Sg.o;cases t with
         |false=>have HB:=Y (show K=none by rw[rP.o];exact afO R8.o Nz.o (.inr (by rw[<-HC.o];exact fun h=>by have :=xC.o.2 h;cases this)));have HR:=Y (show gF s=([],1)by rw[HQ.o,HB.o];rfl);go_wp2_with fail;go_ret2;rw[HR.o];exact⟨_,rfl,G8.o.lW,ag.nil ..⟩
         |true=>
          have HB:=Y (show K=lL k (l++[C.1]) C.2 by rw[rP.o,ap1 R8.o Nz.o (by rw[<-HC.o];exact fun h=>h.elim (fun h=>by rw[nU.o]at h;cases h) (fun h=>h (xC.o.1 rfl))),<-HC.o]);go_wp2_with(at_builtin;go_must(refine ja rfl (.tmp 54) (.tmp 56) 22 rfl w.heap.size 65 6 88 apZ Cl.ae (A:=fun b=>w.heap.size<=b/\¬aQ w.heap.size (.slice va C.2.vars.length vc) b) (.slice pa l.length pc) l rfl G8.o.own C.1 [_,_,_,_,_,_] (by rfl) rfl aqh.o qp.o ?_);go_must(intro v2' w12 hown hg;obtain⟨Yf,Yg,hv2, -⟩:=az.kG hown;rw[show(l++[C.1]).length=l.length+1 by simp]at hv2;subst hv2;have Yo:=Y (G8.o.push hB hown hg (by have :=Si.o;have :=lV.o;omega));clear hown hg));have dN:=Y (uL Yo.o.rd);refine dN.o.mono ?_;rintro e G9⟨rfl,v13,k1,k2,k3⟩;have hsl:C.2.space.s.length<=C.2.s.length:=Ar _;have afW:=Y hsl;have afX:=Y (Yo.o.move k1 k2 k3 (by have :=Yo.o.ll;omega));clear k1 k2 k3 hsl dN;go_wp2_with fail;go_roundw;case rel=>have h1:=Si.o;have h2:=afW.o;have h3:=Nt.o;have h4:=lV.o;exact⟨k - 1,l++[C.1],C.2.space,v13,afX.o,Yk _,by rw[HB.o,afN,show k - 1+1=k by omega],by omega,by simp only[bB,dZ];omega⟩
          case measure=>have h1:=Si.o;have h2:=afW.o;rw[uH afX.o.rd,uH fw.o.rd];omega
