import Derived.Test.YtlpmfkpefoegeacDoorQPs5
namespace Go.Proofs.YtlpmfkpefoegeacDoor
set_option maxRecDepth 100000
set_option maxHeartbeats 16000000
set_option linter.all false
open Go.RowKit
structure ALoop (base g x y : Nat) (vv : Value) (W : Str) (l : List Tm) (pp : Ps) (lr vr va : Value) (w0 wr : World) : Prop where
  ps : PsI base g lr vr pp wr
  ch : Ch (RdM g vv) w0 wr
  vg : VG w0 vv vr
  bx : wr.heap[x]? = some (.cells #[.int .i64 0, .int .i64 0, .string ⟨#[]⟩, .slice none 0 0] 27 (0, 0))
  by_ : wr.heap[y]? = some (.cells #[.int .i64 3, .int .i64 0, .string (bs W), va] 27 (0, 0))
  nx : ¬ RdM g vr x
  ny : ¬ RdM g vr y
  own : OwnR wr (y + 1) 27 4 Tm.rep (fun b => y + 1 ≤ b ∧ ¬ RdM g vr b) l va
  na : ∀ b, Zaw va = some b → ¬ RdM g vr b
  xy : x = w0.heap.size ∧ x < y ∧ y < wr.heap.size
  ll : l.length + pp.l.length ≤ 2001
section
variable {base g : Nat} {lv vv v1 : Value} {p p1 p2 : Ps} {w w1 w2 : World}
theorem Zf4{x y:Nat}{o o':Obj}(hs:PsStep base g v1 p2 w1 w2)(hx:w1.heap[x]?=some o)(hn:¬RdM g v1 x)(hy:w1.heap[y]?=some o')(hm:¬RdM g v1 y):∃l2 v2,PsI base g l2 v2 p2 w2/\Ch (RdM g v1) w1 w2/\VG w1 v1 v2/\w2.heap[x]?=some o/\¬RdM g v2 x/\w2.heap[y]?=some o'/\¬RdM g v2 y:=by
 obtain⟨l2,v2,h1,h2,h3⟩:=hs;have hl:=Zag hx;have hl':=Zag hy;refine⟨l2,v2,h1,h2,h3,(h2.block x hl hn).trans hx,fun e=>?_,(h2.block y hl' hm).trans hy,fun e=>?_⟩
 ·rcases VG.rm h3 x e with e|e;·exact hn e
  ·omega
 ·rcases VG.rm h3 y e with e|e;·exact hm e
  ·omega
section
variable {x y : Nat} {Wd : Str} {l : List Tm} {pp pp2 : Ps} {lr lr2 vr vr2 va : Value} {w0 wr w5 : World}
theorem ALoop.move(h:ALoop base g x y vv Wd l pp lr vr va w0 wr)(k1:PsI base g lr2 vr2 pp2 w5)(k2:Ch (RdM g vr) wr w5)(k3:VG wr vr vr2)(hll:l.length+pp2.l.length<=2001):ALoop base g x y vv Wd l pp2 lr2 vr2 va w0 w5:=by have hn2:∀b,b<wr.heap.size->¬RdM g vr b->¬RdM g vr2 b:=fun b hb hn e=>(VG.rm k3 b e).elim hn (fun e=>by omega);refine⟨k1,h.ch.trans k2 (VG.rm h.vg),h.vg.trans k3 h.ch.size,(k2.block x (Zag h.bx) h.nx).trans h.bx,(k2.block y (Zag h.by_) h.ny).trans h.by_,hn2 _ (Zag h.bx) h.nx,hn2 _ (Zag h.by_) h.ny,((h.own.mono (A':=fun b=>(y+1<=b/\¬RdM g vr2 b)/\¬RdM g vr b) Tm.rep_lasts (fun b hb hA=>⟨⟨hA.1,hn2 b hb hA.2⟩,hA.2⟩)).keeps (B:=fun b=>¬RdM g vr b) Tm.rep_lasts (k2.keeps fun _ _ h=>h) (fun _ h=>h.2) h.na).mono Tm.rep_lasts (fun b _ hb=>hb.1),fun b hb=>hn2 b (h.own.lt b hb).2 (h.na b hb),⟨h.xy.1,h.xy.2.1,Nat.lt_of_lt_of_le h.xy.2.2 k2.size⟩,hll⟩
theorem ALoop.drew(h:ALoop base g x y vv Wd l pp lr vr va w0 wr):ALoop base g x y vv Wd l pp lr vr va w0 wr.drew:=h.move (h.ps.below (zB _ _).drew) ((Ch.refl _ _).drew) (VG.refl _ _) h.ll
theorem ALoop.push{t:Tm}{v2:Value}{w6:World}{cells:Array Value}(h:ALoop base g x y vv Wd l pp lr vr va w0 wr)(hB:g<=x)(hown:OwnR w6 (y+1) 27 4 Tm.rep (fun b=>y+1<=b/\¬RdM g vr b) (l++[t]) v2)(hg:Grew (wr.alloc (.cells cells 27)) w6 va v2)(hll:l.length+1+pp.l.length<=2001):ALoop base g x y vv Wd (l++[t]) pp lr vr v2 w0 (w6.setCell ⟨y,3,none⟩ v2):=by
 have hz:=hg.size;simp only[World.size_alloc]at hz;have hxy:=h.xy;have hown2:∀b,Zaw va=some b->y+1<=b/\b<wr.heap.size:=h.own.lt;have hk:Keeps (fun b=>Zaw va≠some b) wr w6:=(Keeps.alloc _ _ _).trans (hg.keeps fun b hb=>hb);have hk2:Keeps (fun b=>Zaw va≠some b/\b≠y) wr (w6.setCell ⟨y,3,none⟩ v2):=(hk.mono fun b _ hb=>hb.1).trans (Keeps.setCell _ _ _ _ (fun e=>e.2 rfl));have hny:Zaw va≠some y:=fun e=>by have :=(hown2 y e).1;omega
 have hnx:Zaw va≠some x:=fun e=>by have :=(hown2 x e).1;omega
 refine⟨h.ps.keeps (hk2.mono fun b hb hA=>⟨fun e=>?_,fun e=>?_⟩),?_,h.vg,ZaG h.bx hk2 ⟨hnx,by omega⟩,ZaN (ZaG h.by_ hk hny) 3 v2,h.nx,h.ny,hown.keeps (B:=fun b=>b≠y) Tm.rep_lasts (Keeps.setCell _ _ _ _ (fun e=>e rfl)) (fun b hb=>by omega) (fun b hb e=>?_),fun b hb=>?_,⟨hxy.1,hxy.2.1,by simp only[World.size_setCell];omega⟩,?_⟩
 ·rcases hA with hA|hA;·have :=(hown2 b e).1;omega
  ·exact h.na b e hA
 ·subst e;rcases hA with hA|hA;·omega
  ·exact h.ny hA
 ·exact(hg.ch (h.ch.alloc _) (fun b hb=> .inr (by have :=(hown2 b hb).1;omega))).setCell (p:=⟨y,3,none⟩) (.inr (by simp only;omega)) _
 ·subst e;rcases hg.block with e|e;·exact hny (e▸hb)
  ·have :=e b hb;simp only[World.size_alloc]at this;omega
 ·rcases hg.block with e|e;·exact h.na b (e▸hb)
  ·have h1:=e b hb;simp only[World.size_alloc]at h1;exact fun hm=>by have :=h.ps.rm_lt b hm;omega
 ·simp only[List.length_append,List.length_singleton];omega
end
theorem Zdo{f:Ps->Tm×Ps}{k:Nat}{l:List Tm}{p:Ps}(h:p.bad=true):Zax f (k+1) l p=(l,p):=by rw[Zax,if_pos h]
theorem Zea{f:Ps->Tm×Ps}{k:Nat}{l:List Tm}{p:Ps}(h:p.bad=false)(ha:(p.take [44]).1=false):Zax f (k+1) l p=(l,p):=by rw[Zax,if_neg (by rw[h];simp),if_pos ha]
theorem Zeb{f:Ps->Tm×Ps}{k:Nat}{l:List Tm}{p:Ps}(h:p.bad=false)(ha:(p.take [44]).1=true):Zax f (k+1) l p=Zax f k (l++[(f (p.take [44]).2).1]) (f (p.take [44]).2).2:=by rw[Zax,if_neg (by rw[h];simp),if_neg (by rw[ha];simp)]
theorem ZcD{sg:Str}{p:Ps}:(p.take sg).2.bad=p.bad:=by
 unfold Ps.take;split;·rfl
 ·split<;>rfl
theorem ZeA(n:Nat)(d:Int)(hd:I64 d/\d≠0)(IH:∀(lv vv:Value)(p:Ps)(w:World),PsI base g lv vv p w->Calls Tryd.prog 30 #[.pointer (some ⟨g,0,none⟩),.int .i64 (d - 1)] w (PTm base g vv (Zah n p) w))(hdm: -9223372036854775808<=d - 1)(c:UInt8)(q:Str)(r:List Str)(hl:p.l=(c::q)::r)(hc:Zba c=true)(h:PsI base g lv vv p w):Calls Tryd.prog 30 #[.pointer (some ⟨g,0,none⟩),.int .i64 d] w (PTm base g vv (ZcH (Zah n) (c::q) {p with l:=r}) w):=by
 have HU:=zh h;have HSP:=zh (Za7 (h.below ((zB _ _).alloc (zL _) zcells)));have hBx:g<=w.heap.size:=by have :=h.lt;omega
 have hcs:=Zay;have hd0:((d:Int)==0)=false:=by rw[beq_eq_false_iff_ne];exact hd.2
 have hdz:¬d=0:=hd.2;have HL:=zh hl;have HTK:=zh (h.tok (c::q) (by rw[hl];simp));obtain⟨S,hS⟩:∃S,S=bs (c::q):=⟨_,rfl⟩;have HSS:=zh hS;have t1:S.toList.isEmpty=false:=by rw[hS,Zaa];rfl
 have t2:¬S.toList=[]:=by rw[hS,Zaa];simp
 have t3:(S.toList==[])=false:=by rw[hS,Zaa];rfl
 have t4:0<S.size:=by rw[hS,Zab];simp
 have hg0:S[0]=c:=by subst hS;exact ZaQ c q t4
 have HG:=zh hg0;have hc0:0<=(S[0].toNat:Int):=by omega
 have hcn:97<=(c.toNat:Int)/\(c.toNat:Int)<=122:=low_iff.1 hc;have HCN:=zh hcn;have HIH:=zh IH;have HDM:=zh hdm;have HDI:=zh (show d<=9223372036854775807 from hd.1.2);have f9:(S.toList==[33])=false:=by rw[hS,Zaa,beq_eq_false_iff_ne];intro e;simp only[List.cons.injEq]at e;rw[e.1]at hcn;exact absurd hcn (by decide)
 have f9':¬S.toList=[33]:=by rw[hS,Zaa];intro e;simp only[List.cons.injEq]at e;rw[e.1]at hcn;exact absurd hcn (by decide)
 clear hc hcn IH hdm;have HF:=zh (show p.l.headD []=c::q by rw[hl];rfl);clear hd hl hS hg0;clear h;go_enter Tryd.func30,Tryd.ntmps30;go_wp2_with fail;refine HSP.o.mono ?_;rintro e w1⟨rfl,hst⟩;obtain⟨h1,c1,x1,hz1,n1⟩:=ZaK HU.o hst;have HI:=zh h1;have HCH:=zh c1;have HX:=zh x1;have HN:=zh n1;obtain⟨b0,b1,b2,bf⟩:=h1.cells;have hgl:=h1.lt.1;have hgx:¬g=w.heap.size:=fun e=>n1 (.inl e.symm);obtain⟨x0,x1,x2,x3,xf⟩:=Za8 x1;clear hst h1 c1 n1;rw[HF.o,<-HSS.o];go_upto_region 9 with fail;go_cut[38](fun o wx=>o= .bool false/\wx=w1);case first=>
  by_cases h65:(65:Int)<=(c.toNat:Int)
  ·have f2:decide ((65:Int)<=(S[0].toNat:Int))=true:=by rw[HG.o];exact decide_eq_true (by first|omega|(have :=HCN.o;omega))
   have f3:decide ((S[0].toNat:Int)<=(90:Int))=false:=by rw[HG.o];exact decide_eq_false (by first|omega|(have :=HCN.o;omega))
   clear h65;go_wp2_with fail;go_meet;case rel=>exact⟨rfl,rfl⟩
  ·have f2:decide ((65:Int)<=(S[0].toNat:Int))=false:=by rw[HG.o];exact decide_eq_false (by first|omega|(have :=HCN.o;omega))
   clear h65;go_wp2_with fail;go_meet;case rel=>exact⟨rfl,rfl⟩
 case rest=>
  obtain⟨rfl,hw1c⟩:=hcut;subst hw1c;go_upto_region 19 with fail;go_cut[86](fun o wx=>o= .bool false/\wx=wc);case first=>
   have f5:((S[0].toNat:Int)==(45:Int))=false:=by rw[HG.o];rw[beq_eq_false_iff_ne];first|omega|(have :=HCN.o;omega)
   by_cases h48:(48:Int)<=(c.toNat:Int)
   ·have f6:decide ((48:Int)<=(S[0].toNat:Int))=true:=by rw[HG.o];exact decide_eq_true (by first|omega|(have :=HCN.o;omega))
    have f7:decide ((S[0].toNat:Int)<=(57:Int))=false:=by rw[HG.o];exact decide_eq_false (by first|omega|(have :=HCN.o;omega))
    clear h48;go_wp2_with fail;go_meet;case rel=>exact⟨rfl,rfl⟩
   ·have f6:decide ((48:Int)<=(S[0].toNat:Int))=false:=by rw[HG.o];exact decide_eq_false (by first|omega|(have :=HCN.o;omega))
    clear h48;go_wp2_with fail;go_meet;case rel=>exact⟨rfl,rfl⟩
  case rest=>
   obtain⟨rfl,hw2c⟩:=hcut;subst hw2c;go_upto_region 24 with fail;go_cut[123](fun o wx=>o= .bool false/\wx=wc);case first=>
    by_cases h97:(c.toNat:Int)<(97:Int)
    ·have f2:decide ((S[0].toNat:Int)<(97:Int))=true:=by rw[HG.o];exact decide_eq_true (by first|omega|(have :=HCN.o;omega))
     exact absurd h97 (by have :=HCN.o;omega)
    ·have f2:decide ((S[0].toNat:Int)<(97:Int))=false:=by rw[HG.o];exact decide_eq_false (by first|omega|(have :=HCN.o;omega))
     have f3:decide ((122:Int)<(S[0].toNat:Int))=false:=by rw[HG.o];exact decide_eq_false (by first|omega|(have :=HCN.o;omega))
     clear h97;go_wp2_with fail;go_meet;case rel=>exact⟨rfl,rfl⟩
   case rest=>
    obtain⟨rfl,hw3c⟩:=hcut;subst hw3c;have hw:=HI.o.wd;rw[HL.o]at hw;obtain⟨wb,wo,cap,hlv,hlc,hcm, -,hbl,hwc,hrest⟩:=ZbS hw;subst hlv;have HPOP:=zh (fun(a':Option Addr)(ha:cap≠1->a'=some ⟨wb,wo+1,none⟩)=>Zfd HI.o HL.o (hrest a' ha) HX.o HN.o);unfold maxLen at hcm;have hle:(1:Int)<=((r.length:Int)+1):=by omega
    clear hw hrest;go_upto_region 27 with fail;go_cut[](fun wx=>∃lv2,PsI base g lv2 vv {p with l:=r} wx/\Ch (RdM g vv) wc wx/\wx.heap[w.heap.size]?=some (.cells #[.int .i64 0,.int .i64 0,.string ⟨#[]⟩,.slice none 0 0] 27 (0,0)));case first=>
     go_wp2_with fail;all_goals
      go_meet;first
       |exact⟨_,HPOP.o (some ⟨wb,wo+1,none⟩) (fun _=>rfl)⟩
       |
        (
         obtain rfl:cap=1:=by assumption
         exact⟨_,HPOP.o (some ⟨wb,wo,none⟩) (fun h=>absurd rfl h)⟩)
    case rest=>
     obtain⟨lv2,k1,k2,k3⟩:=hcut;have HI2:=zh k1;have HC2:=zh (HCH.o.trans k2 (fun b hb=> .inl hb));have HX2:=zh k3;clear b0 b1 b2 bf x0 x1 x2 x3 xf hgl HPOP;obtain⟨b0,b1,b2,bf⟩:=k1.cells;have hgl:=k1.lt.1;obtain⟨x0,x1,x2,x3,xf⟩:=Za8 k3;have hxl:=Zag k3;clear k1 k2 k3;obtain⟨Wd,hWd⟩:∃Wd,Wd=c::q:=⟨_,rfl⟩;have HWD:=zh hWd;have hSW:S=bs Wd:=by rw[hWd];exact HSS.o
     have hwl:(bs Wd).size<=2000:=by rw[Zab,hWd];exact HTK.o.1
     have HWL:=zh hwl;obtain⟨p3,hp3⟩:∃p3:Ps,p3={p with l:=r}:=⟨_,rfl⟩;rw[<-hp3]at HI2;have HP3:=zh hp3;have HR:=zh (show p3.l.length+1<=2000 by rw[hp3];have :=HI.o.len;rw[HL.o]at this;simp only[List.length_cons]at this;show r.length+1<=2000;omega);have HZ2:=zh hxl;subst hSW;clear hWd hwl hp3 hxl b0 b1 b2 bf x0 x1 x2 x3 xf HTK HF;go_upto_region 29 with fail;obtain⟨y,hy⟩:∃y,y=wc.heap.size:=⟨_,rfl⟩;obtain⟨W3,hW3⟩:∃W3,W3=wc.alloc (.cells #[.int .i64 1,.int .i64 0,.string (bs Wd),.slice none 0 0] 27):=⟨_,rfl⟩;have HB3:=zh (show Below wc.heap.size wc W3 by rw[hW3];exact(zB _ _).alloc (zL _) _);have HY3:=zh (show W3.heap[y]?=some (.cells #[.int .i64 1,.int .i64 0,.string (bs Wd),.slice none 0 0] 27 (0,0))by rw[hW3,hy];exact ZaC _ _);have HNY:=zh (show ¬RdM g vv y by rw[hy];exact fun e=>by have :=HI2.o.rm_lt _ e;omega);have hxy:w.heap.size<y:=by have :=HZ2.o;omega
     have HX3:=zh (Zan HX2.o HB3.o);have HI3:=zh (HI2.o.below HB3.o);have HC3:=zh (HC2.o.tb HB3.o);rw[<-hW3,<-hy];have HYZ:=zh hy;clear hW3 hy;have HAT:Hd (Calls Tryd.prog 31 #[.pointer (some ⟨g,0,none⟩),.string ⟨#[40]⟩] W3 _):=zh (Zby [40] HI3.o);go_wp2_with fail;refine HAT.o.mono ?_;rintro e w3⟨rfl,hst3⟩;obtain⟨l3,v3,k1,k2,k3,k4,k5,k6,k7⟩:=Zf4 hst3 HX3.o HN.o HY3.o HNY.o;have HI4:=zh k1;have HC4:=zh (HC3.o.trans k2 (fun b hb=> .inl hb));have HV4:=zh (show VG w vv v3 from fun b hb=>(k3 b hb).imp id (fun e=>by have :=HB3.o.size;have :=HZ2.o;omega));obtain⟨x0,x1,x2,x3,xf⟩:=Za8 k4;obtain⟨y0,y1,y2,y3,yf⟩:=Za8 k6;have hyl:=Zag k6;have hxl:w.heap.size<w3.heap.size:=Zag k4;have HX4:=zh k4;have HY4:=zh k6;have HN4:=zh k5;have HM4:=zh k7;have hyx:¬w.heap.size=y:=by omega
     have hyx':¬y=w.heap.size:=by omega
     have htk:=(ZaD (sg:=[40]) p3).2;clear hst3 k1 k2 k3 k4 k5 k6 k7 HAT;have HTAIL:=zh (show ZcH (Zah n) (c::q) {p with l:=r}=if(p3.take [40]).1=false then(.mk 1 0 (bs Wd) [],p3)else(.mk 3 0 (bs Wd) (Zax (Zah n) ((Zah n (p3.take [40]).2).2.l.length+1) [(Zah n (p3.take [40]).2).1] (Zah n (p3.take [40]).2).2).1,(Zax (Zah n) ((Zah n (p3.take [40]).2).2.l.length+1) [(Zah n (p3.take [40]).2).1] (Zah n (p3.take [40]).2).2).2.must [41])by rw[<-HWD.o,<-HP3.o];rfl);cases hat:(p3.take [40]).1 with
      |false=>have HT:=zh (HTAIL.o.trans (if_pos hat));have HTS:=zh (ZaO hat);clear hat htk;go_wp2_with fail;rw[HT.o,<-HTS.o];refine bodyPost_ret (v:= .agg #[.int .i64 1,.int .i64 0,.string (bs Wd),.slice none 0 0]) (by simp[results,Tryd.results30,go_sem,hcs,x0,x1,x2,x3,hgx];try rfl) rfl ?_;exact Zbl HI4.o HC4.o HV4.o HN4.o hBx (ZaA ZfV Za6 (by have :=HWL.o;omega))
      |true=>
       have HT:=zh (HTAIL.o.trans (if_neg (by rw[hat];simp)));have HR1L:=zh (show(p3.take [40]).2.l.length+2<=2000 by have :=htk hat;have :=HR.o;omega);clear hat htk;obtain⟨p4,hp4⟩:∃p4,p4=(p3.take [40]).2:=⟨_,rfl⟩;rw[<-hp4]at HI4 HT HR1L;clear hp4 HTAIL;go_upto_region 31 with fail;rw[HT.o];have HL0:Hd (ALoop base g w.heap.size y vv Wd [] p4 l3 v3 (.slice none 0 0) w (w3.setCell ⟨y,0,none⟩ (.int .i64 3))):=zh ⟨HI4.o.other HM4.o (by omega),HC4.o.setCell (p:=⟨y,0,none⟩) (.inr (by simp only;omega)) _,HV4.o,ZaG (A:=fun b=>b≠y) HX4.o (Keeps.setCell _ _ _ _ (fun e=>e rfl)) hyx,ZaN HY4.o 0 _,HN4.o,HM4.o,OwnR.nil ..,fun b hb=>by simp[Zaw]at hb,⟨rfl,hxy,by simp only[World.size_setCell];exact hyl⟩,by have :=HR1L.o;simp only[List.length_nil];omega⟩;generalize w3.setCell ⟨y,0,none⟩ (.int .i64 3)=W4 at*;clear x0 x1 x2 x3 xf y0 y1 y2 y3 yf hyl hxl;obtain⟨X0,hX0⟩:∃X0,X0=Zah n p4:=⟨_,rfl⟩;rw[<-hX0]at HT ⊢;have HXL0:=zh (show X0.2.l.length<=p4.l.length by rw[hX0];exact ZaJ n p4);go_cut[](fun wx=>∃lx vx va,ALoop base g w.heap.size y vv Wd [X0.1] X0.2 lx vx va w wx);case first=>
        have hlt:=HL0.o.xy.2.2;have hcall:=HIH.o l3 v3 p4 W4.drew HL0.o.drew.ps;rw[<-hX0]at hcall;have HCALL:=zh hcall;obtain⟨l,hl⟩:∃l:List Tm,l=[]:=⟨_,rfl⟩;obtain⟨pa,pc,hpv⟩:∃(pa:Option Addr)(pc:Nat),Value.slice none 0 0=Value.slice pa l.length pc:=⟨none,0,by rw[hl];rfl⟩;have HTL:=HL0;rw[hpv,<-hl]at HTL;have hq3:W4.drew.cell? ⟨y,3,none⟩=some (.slice pa l.length pc):=(Zaj HTL.o.drew.by_ 3).trans rfl;have HXL:=HXL0;have HLL:=zh (show l.length+p4.l.length<=2000 by rw[hl];have :=HR1L.o;simp only[List.length_nil];omega);have HLN:=zh hl;clear hcall hX0 hpv hl HL0;go_wp2_with fail;have hdm:=HDM.o;have hdi:=HDI.o;refine Zbx (F:=fun k w'=>k=1->w'.cell? ⟨y,3,none⟩=some (.slice pa l.length pc)) (by kernel_rfl) ?_;refine Zcf (i:=0) (v:=?_) rfl (Or.inl ⟨by rfl,?_⟩) (fun _=>hq3) ?_;rotate_left;·(intro w' hw;clear hw;go_simp<;>with_reducible rfl)
        try simp only[zP]
        refine Zcf (i:=1) (v:=?_) rfl (Or.inl ⟨by rfl,?_⟩) (fun _=>hq3) ?_;rotate_left;·(intro w' hw;obtain q3:=hw (by omega);go_simp<;>with_reducible rfl)
        try simp only[zP]
        refine Zcf (i:=2) (v:=?_) rfl (Or.inl ⟨by rfl,?_⟩) (fun _=>hq3) ?_;rotate_left;·(intro w' hw;clear hw;go_simp<;>with_reducible rfl)
        try simp only[zP]
        refine Zcf (i:=3) (v:=?_) rfl (Or.inl ⟨by rfl,?_⟩) (fun _=>hq3) ?_;rotate_left;·(intro w' hw;clear hw;go_simp<;>with_reducible rfl)
        try simp only[zP]
        refine Zcf (i:=4) (v:= .int .i64 (d - 1)) rfl (Or.inl ⟨by rfl,?_⟩) (fun _=>hq3) ?_;·(intro w' hw;clear hw;go_simp;rw[IntKind.wrap_i64]<;>omega)
        try simp only[zP]
        refine Zav (i:=5) (by kernel_rfl) (ZaF rfl (by rfl) ?_);go_simp;refine HCALL.o.mono ?_;rintro e w5⟨us,lr2,vr2,rfl,k1,k2,k3,k4⟩;obtain⟨ua,uc,rfl, -⟩:=Tm.rep4 k4;have hol:=HTL.o.own.lt;have HT5:=zh (HTL.o.drew.move k1 k2 k3 (by have :=HXL.o;have :=HLL.o;omega));have HN5:=zh (show Tm.rep (fun b=>(y+1<=b/\¬RdM g vr2 b)/\Zaw (.slice pa l.length pc)≠some b) w5 X0.1 _ from Tm.rep_lasts.2.1 _ _ _ _ _ k4 fun b _ hb=>⟨⟨by have :=hb.1;simp only[World.size_drew]at this;omega,hb.2⟩,fun e=>by have :=(hol b e).2;have :=hb.1;simp only[World.size_drew]at this;omega⟩);have HQ5:=zh (show w5.cell? ⟨y,3,none⟩=some (.slice pa l.length pc)from(Zaj HT5.o.by_ 3).trans rfl);have HLE:=zh (show l.length<4194304/\y+1<=w5.heap.size from⟨by have :=HLL.o;omega,HT5.o.xy.2.2⟩);clear k1 k2 k3 k4 hq3;refine⟨fun _ _ _ _=>HQ5.o,?_⟩;refine Zav (i:=6) (by kernel_rfl) (ZaF rfl (by rfl) ?_);go_simp;refine⟨fun _ _ _ _=>(Keeps.alloc (fun _=>True) w5 _).cell trivial HQ5.o,?_⟩;refine Zav (i:=7) (by kernel_rfl) (ZaF rfl (by rfl) ?_);refine ZcQ (.tmp 148) (.tmp 153) 22 rfl (y+1) 27 4 56 tyTerm Tm.rep_lasts _ _ rfl HT5.o.own X0.1 [_,_,_,_] rfl rfl HN5.o HLE.o ?_;intro v2 w6 hown hg;have hny:Zaw (.slice pa l.length pc)≠some y:=fun e=>by have :=(hol y e).1;omega
        have hk6:Keeps (fun b=>Zaw (.slice pa l.length pc)≠some b) w5 w6:=(Keeps.alloc _ _ _).trans (hg.keeps fun b hb=>hb);refine⟨fun _ _ _ _=>hk6.cell hny HQ5.o,?_⟩;obtain⟨pa2,pc2,hv2, -⟩:=OwnR.val' hown;rw[show(l++[X0.1]).length=l.length+1 by simp]at hv2;subst hv2;have HT7:=zh (HT5.o.push hBx hown hg (by have :=HXL.o;have :=HLL.o;omega));have hq6:=Za8 (ZaG HT5.o.by_ hk6 hny);obtain⟨q0,q1,q2,q3,qf⟩:=hq6;clear hown hg hk6;simp only[zP];refine Zcf (i:=8) (v:=?_) rfl (Or.inl ⟨by rfl,?_⟩) (fun h=>by omega) ?_;rotate_left;·(intro w' hw;clear hw;go_simp<;>with_reducible rfl)
        try simp only[zP]
        refine Zav (i:=9) (by kernel_rfl) (ZaF rfl (by rfl) ?_);go_simp;refine⟨fun k0 hk0 _ h12=>?_,Zbw (by kernel_rfl) ?_ _⟩;·subst h12;exact absurd (show waits _ 9 1=true by kernel_rfl) (by rw[hk0];decide)
        generalize w6.setCell ⟨y,3,none⟩ _=W7 at*;clear q0 q1 q2 q3 qf;go_step;go_step;go_meet;case rel=>have h7:=HT7.o;rw[HLN.o]at h7;exact⟨_,_,_,h7⟩
       case rest=>
        obtain⟨lx,vx,va0,hT⟩:=hcut;have HT1:=zh hT;clear hT HL0 hX0;go_upto_block 3 with fail;go_cut[](fun wx=>∃lx vx va,ALoop base g w.heap.size y vv Wd (Zax (Zah n) (X0.2.l.length+1) [X0.1] X0.2).1 (Zax (Zah n) (X0.2.l.length+1) [X0.1] X0.2).2 lx vx va w wx);case first=>
         go_wp2_with fail;go_loopw[](fun wr=>∃(k:Nat)(l:List Tm)(pp:Ps)(lr vr va:Value),ALoop base g w.heap.size y vv Wd l pp lr vr va w wr/\Zax (Zah n) (X0.2.l.length+1) [X0.1] X0.2=Zax (Zah n) (k+1) l pp/\pp.l.length<=k/\l.length+pp.l.length<=2000)(fun wr=>ZgV g wr);case atStart=>exact⟨X0.2.l.length,[X0.1],X0.2,lx,vx,va0,HT1.o,rfl,zL _,by have :=HXL0.o;have :=HR1L.o;simp only[List.length_singleton];omega⟩
         case round=>
          obtain⟨k,l,pp,lr,vr,va,hT,hargs,hk,hll⟩:=hrel;have HTL0:=zh hT;have HAR:=zh hargs;have HKL:=zh hk;have HLL0:=zh hll;obtain⟨b0,b1,b2,bf⟩:=hT.ps.cells;have hgl:=hT.ps.lt.1;clear hT hargs hk hll HT1;cases hbd:pp.bad with
           |true=>have HBD:=zh (HAR.o.trans (Zdo hbd));rw[hbd]at b2;clear hbd;go_wp2_with fail;go_meet;case rel=>rw[HBD.o];exact⟨_,_,_,HTL0.o⟩
           |false=>
            have HBD:=zh hbd;rw[hbd]at b2;clear hbd;have HAT:Hd (Calls Tryd.prog 31 #[.pointer (some ⟨g,0,none⟩),.string ⟨#[44]⟩] wr _):=zh (Zby [44] HTL0.o.ps);go_wp2_with fail;refine HAT.o.mono ?_;rintro e w8⟨rfl,l8,v8,k1,k2,k3⟩;have htk:=ZaD (sg:=[44]) pp;have HT8:=zh (HTL0.o.move k1 k2 k3 (by have :=HLL0.o;have :=htk.1;omega));have HTK8:=zh htk;clear k1 k2 k3 htk b0 b1 b2 bf hgl HAT;cases hat:(pp.take [44]).1 with
             |false=>have HAT2:=zh (HAR.o.trans (Zea HBD.o hat));have HTS:=zh (ZaO hat);clear hat;go_wp2_with fail;go_meet;case rel=>rw[HAT2.o];have h8:=HT8.o;rw[HTS.o]at h8;exact⟨_,_,_,h8⟩
             |true=>
              have HAT2:=zh (HAR.o.trans (Zeb HBD.o hat));have HAL2:=zh (HTK8.o.2 hat);clear hat;obtain⟨p8,hp8⟩:∃p8,p8=(pp.take [44]).2:=⟨_,rfl⟩;rw[<-hp8]at HT8 HAT2 HAL2;obtain⟨X,hX⟩:∃X,X=Zah n p8:=⟨_,rfl⟩;rw[<-hX]at HAT2;have HTL:=HT8;obtain⟨pa,pc,rfl,hpl,hpm⟩:=OwnR.val' HTL.o.own;have hlt:=HTL.o.xy.2.2;have hcall:=HIH.o l8 v8 p8 w8.drew HTL.o.drew.ps;rw[<-hX]at hcall;have HCALL:=zh hcall;have hq3:w8.drew.cell? ⟨y,3,none⟩=some (.slice pa l.length pc):=(Zaj HTL.o.drew.by_ 3).trans rfl;have HXL:=zh (show X.2.l.length<=p8.l.length by rw[hX];exact ZaJ n p8);have HLL:=zh (show l.length+p8.l.length<=2000 by have :=HLL0.o;have :=HAL2.o;omega);clear hcall hX hp8 HT8;go_wp2_with fail;have hdm:=HDM.o;have hdi:=HDI.o;refine Zbx (F:=fun k w'=>k=1->w'.cell? ⟨y,3,none⟩=some (.slice pa l.length pc)) (by kernel_rfl) ?_;refine Zcf (i:=0) (v:=?_) rfl (Or.inl ⟨by rfl,?_⟩) (fun _=>hq3) ?_;rotate_left;·(intro w' hw;clear hw;go_simp<;>with_reducible rfl)
              try simp only[zP]
              refine Zcf (i:=1) (v:=?_) rfl (Or.inl ⟨by rfl,?_⟩) (fun _=>hq3) ?_;rotate_left;·(intro w' hw;obtain q3:=hw (by omega);go_simp<;>with_reducible rfl)
              try simp only[zP]
              refine Zcf (i:=2) (v:=?_) rfl (Or.inl ⟨by rfl,?_⟩) (fun _=>hq3) ?_;rotate_left;·(intro w' hw;clear hw;go_simp<;>with_reducible rfl)
              try simp only[zP]
              refine Zcf (i:=3) (v:=?_) rfl (Or.inl ⟨by rfl,?_⟩) (fun _=>hq3) ?_;rotate_left;·(intro w' hw;clear hw;go_simp<;>with_reducible rfl)
              try simp only[zP]
              refine Zcf (i:=4) (v:= .int .i64 (d - 1)) rfl (Or.inl ⟨by rfl,?_⟩) (fun _=>hq3) ?_;·(intro w' hw;clear hw;go_simp;rw[IntKind.wrap_i64]<;>omega)
              try simp only[zP]
              refine Zav (i:=5) (by kernel_rfl) (ZaF rfl (by rfl) ?_);go_simp;refine HCALL.o.mono ?_;rintro e w5⟨us,lr2,vr2,rfl,k1,k2,k3,k4⟩;obtain⟨ua,uc,rfl, -⟩:=Tm.rep4 k4;have hol:=HTL.o.own.lt;have HT5:=zh (HTL.o.drew.move k1 k2 k3 (by have :=HXL.o;have :=HLL.o;omega));have HN5:=zh (show Tm.rep (fun b=>(y+1<=b/\¬RdM g vr2 b)/\Zaw (.slice pa l.length pc)≠some b) w5 X.1 _ from Tm.rep_lasts.2.1 _ _ _ _ _ k4 fun b _ hb=>⟨⟨by have :=hb.1;simp only[World.size_drew]at this;omega,hb.2⟩,fun e=>by have :=(hol b e).2;have :=hb.1;simp only[World.size_drew]at this;omega⟩);have HQ5:=zh (show w5.cell? ⟨y,3,none⟩=some (.slice pa l.length pc)from(Zaj HT5.o.by_ 3).trans rfl);have HLE:=zh (show l.length<4194304/\y+1<=w5.heap.size from⟨by have :=HLL.o;omega,HT5.o.xy.2.2⟩);clear k1 k2 k3 k4 hq3;refine⟨fun _ _ _ _=>HQ5.o,?_⟩;refine Zav (i:=6) (by kernel_rfl) (ZaF rfl (by rfl) ?_);go_simp;refine⟨fun _ _ _ _=>(Keeps.alloc (fun _=>True) w5 _).cell trivial HQ5.o,?_⟩;refine Zav (i:=7) (by kernel_rfl) (ZaF rfl (by rfl) ?_);refine ZcQ (.tmp 166) (.tmp 171) 22 rfl (y+1) 27 4 56 tyTerm Tm.rep_lasts _ _ rfl HT5.o.own X.1 [_,_,_,_] rfl rfl HN5.o HLE.o ?_;intro v2 w6 hown hg;have hny:Zaw (.slice pa l.length pc)≠some y:=fun e=>by have :=(hol y e).1;omega
              have hk6:Keeps (fun b=>Zaw (.slice pa l.length pc)≠some b) w5 w6:=(Keeps.alloc _ _ _).trans (hg.keeps fun b hb=>hb);refine⟨fun _ _ _ _=>hk6.cell hny HQ5.o,?_⟩;obtain⟨pa2,pc2,hv2, -⟩:=OwnR.val' hown;rw[show(l++[X.1]).length=l.length+1 by simp]at hv2;subst hv2;have HT7:=zh (HT5.o.push hBx hown hg (by have :=HXL.o;have :=HLL.o;omega));have hq6:=Za8 (ZaG HT5.o.by_ hk6 hny);obtain⟨q0,q1,q2,q3,qf⟩:=hq6;clear hown hg hk6;simp only[zP];refine Zcf (i:=8) (v:=?_) rfl (Or.inl ⟨by rfl,?_⟩) (fun h=>by omega) ?_;rotate_left;·(intro w' hw;clear hw;go_simp<;>with_reducible rfl)
              try simp only[zP]
              refine Zav (i:=9) (by kernel_rfl) (ZaF rfl (by rfl) ?_);go_simp;refine⟨fun k0 hk0 _ h12=>?_,Zbw (by kernel_rfl) ?_ _⟩;·subst h12;exact absurd (show waits _ 9 1=true by kernel_rfl) (by rw[hk0];decide)
              generalize w6.setCell ⟨y,3,none⟩ _=W7 at*;clear q0 q1 q2 q3 qf;go_wp2_with fail;go_roundw;case rel=>have h1:=HAL2.o;have h2:=HXL.o;have h3:=HKL.o;have h4:=HLL0.o;exact⟨k - 1,l++[X.1],X.2,_,_,_,HT7.o,by rw[HAT2.o,show k - 1+1=k by omega],by omega,by simp only[List.length_append,List.length_singleton];omega⟩
              case measure=>have h1:=HAL2.o;have h2:=HXL.o;rw[Zb7 HT7.o.ps,Zb7 HTL0.o.ps];omega
        case rest=>
         obtain⟨lx2,vx2,va,hT⟩:=hcut;obtain⟨A,hA⟩:∃A,A=Zax (Zah n) (X0.2.l.length+1) [X0.1] X0.2:=⟨_,rfl⟩;rw[<-hA]at hT;have HA:=zh hA;have HTL:=zh hT;obtain⟨pa,pc,rfl,hpl,hpm⟩:=OwnR.val' hT.own;obtain⟨b0,b1,b2,bf⟩:=hT.ps.cells;have hgl:=hT.ps.lt.1;clear hT hA HT1;have hgy:¬g=y:=fun e=>HTL.o.ny (.inl e.symm);go_upto_region 34 with fail;go_cut[](fun wx=>∃lx vx,ALoop base g w.heap.size y vv Wd A.1 (A.2.must [41]) lx vx (.slice pa A.1.length pc) w wx);case first=>
          cases hbd:A.2.bad with
           |true=>have HM:=zh (show A.2.must [41]={A.2 with bad:=true}by unfold Ps.must;rw[if_pos hbd,<-hbd]);rw[hbd]at b2;clear hbd;obtain⟨k1,k2⟩:=HTL.o.ps.setBad true;have HT9:=zh (HTL.o.move k1 k2 (VG.refl _ _) HTL.o.ll);clear k1 k2;go_wp2_with fail;go_meet;case rel=>rw[HM.o];exact⟨_,_,HT9.o⟩
           |false=>
            have HBD:=zh hbd;rw[hbd]at b2;clear hbd;have HAT:Hd (Calls Tryd.prog 31 #[.pointer (some ⟨g,0,none⟩),.string ⟨#[41]⟩] wc _):=zh (Zby [41] HTL.o.ps);go_wp2_with fail;refine HAT.o.mono ?_;rintro e w8⟨rfl,l8,v8,k1,k2,k3⟩;have htk:=ZaD (sg:=[41]) A.2;have HT8:=zh (HTL.o.move k1 k2 k3 (by have :=HTL.o.ll;have :=htk.1;omega));clear k1 k2 k3 htk b0 b1 b2 bf hgl HAT;obtain⟨b0,b1,b2,bf⟩:=HT8.o.ps.cells;have hgl:=HT8.o.ps.lt.1;cases hat:(A.2.take [41]).1 with
             |true=>
              have HM:=zh (show A.2.must [41]={(A.2.take [41]).2 with bad:=false}by
               unfold Ps.must;rw[if_neg (by rw[HBD.o];simp),if_pos hat];have e:(A.2.take [41]).2.bad=false:=by rw[ZcD];exact HBD.o
               rw[<-e]);clear hat;obtain⟨k1,k2⟩:=HT8.o.ps.setBad false;have HT9:=zh (HT8.o.move k1 k2 (VG.refl _ _) HT8.o.ll);clear k1 k2;go_wp2_with fail;go_meet;case rel=>rw[HM.o];exact⟨_,_,HT9.o⟩
             |false=>have HM:=zh (show A.2.must [41]={(A.2.take [41]).2 with bad:=true}by unfold Ps.must;rw[if_neg (by rw[HBD.o];simp),if_neg (by rw[hat];simp),ZaO hat];rfl);clear hat;obtain⟨k1,k2⟩:=HT8.o.ps.setBad true;have HT9:=zh (HT8.o.move k1 k2 (VG.refl _ _) HT8.o.ll);clear k1 k2;go_wp2_with fail;go_meet;case rel=>rw[HM.o];exact⟨_,_,HT9.o⟩
         case rest=>obtain⟨lx9,vx9,hT⟩:=hcut;have HT9:=zh hT;obtain⟨q0,q1,q2,q3,qf⟩:=Za8 HT9.o.by_;obtain⟨x0,x1,x2,x3,xf⟩:=Za8 HT9.o.bx;have hyl:=HT9.o.xy.2.2;have hxl9:=Zag HT9.o.bx;clear hT b0 b1 b2 bf hgl;go_wp2_with fail;rw[HT.o,<-HA.o];refine bodyPost_ret (v:= .agg #[.int .i64 3,.int .i64 0,.string (bs Wd),.slice pa A.1.length pc]) (by simp[results,Tryd.results30,go_sem,hcs,x0,x1,x2,x3,q0,q1,q2,q3,hyx,hgx,hgy];try rfl) rfl ?_;refine Zbl HT9.o.ps HT9.o.ch HT9.o.vg HT9.o.nx hBx ?_;have hol:=HT9.o.own.lt;refine Tm.rep_iff.2 ⟨ZgF,Za6,by have :=HWL.o;omega,_,rfl,OwnR.sl' Tm.rep_lasts (HT9.o.own.mono Tm.rep_lasts fun b hb hA=>⟨⟨by omega,hA.2⟩,by omega⟩) (by have :=HT9.o.ll;omega) fun b hb=>?_⟩;have h1:=(hol b hb).1;exact⟨⟨by omega,HT9.o.na b hb⟩,by omega⟩
end
end Go.Proofs.YtlpmfkpefoegeacDoor
