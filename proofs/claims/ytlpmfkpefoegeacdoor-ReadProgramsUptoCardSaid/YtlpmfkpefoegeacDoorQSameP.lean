import Derived.Test.YtlpmfkpefoegeacDoorQSameL
import Derived.Test.YtlpmfkpefoegeacDoorQRd10
namespace Go.Proofs.YtlpmfkpefoegeacDoor
set_option maxRecDepth 100000
set_option maxHeartbeats 16000000
set_option linter.all false
open Go.RowKit
theorem ZcG(cl:List Cl)(A A':Nat->Prop)(w:World)(u v:Value)(hu:ZgK A w cl u)(hv:ZgK A' w cl v):Calls Tryd.prog 15 #[u,v] w (Pure w (fun r _=>r= .bool true)):=by
 obtain⟨a,cap,b,off,rfl,hlc,hcm,hlb,ha,he⟩:=SlR.at hu;obtain⟨a',cap',b',off',rfl,hlc',hcm',hlb',ha',he'⟩:=SlR.at hv;have HE:=zh he;have HA:=zh ha;have HE':=zh he';have HA':=zh ha';clear hu hv he ha he' ha';go_enter Tryd.func15,Tryd.ntmps15;go_wp2_with fail;go_loopw[13](fun i wr=>∃k:Nat,k<=cl.length/\i= .int .i64 (k:Int)/\Below w.heap.size w wr)(fun i _=>cl.length - (intOf i).toNat);case atStart=>exact⟨0,Nat.zero_le _,rfl,zB _ _⟩
 case round=>
  obtain⟨k,hk,rfl,hb⟩:=hrel;have HBr:=zh hb;clear hb;have hk0:(0:Int)<=(k:Int):=zN _;by_cases hlt:k<cl.length
  ·obtain⟨rfl,hAb⟩:=HA.o (by omega);obtain⟨rfl,hAb'⟩:=HA'.o (by omega);obtain⟨sa,sc,ba,bc,c0,c1,c2,c3,c4,c5,hr⟩:=Zcg HE.o hAb (Keeps.ob HBr.o) hlt;obtain⟨sa',sc',ba',bc',d0,d1,d2,d3,d4,d5,hr'⟩:=Zcg HE'.o hAb' (Keeps.ob HBr.o) hlt;obtain⟨x0,x1,x2,x3,ex,hh,hbd, -⟩:=hr;obtain⟨y0,y1,y2,y3,ey,hh',hbd', -⟩:=hr';simp only[List.cons.injEq,Value.slice.injEq,true_and,and_true]at ex ey;obtain⟨⟨rfl,rfl⟩,rfl,rfl⟩:=ex;obtain⟨⟨rfl,rfl⟩,rfl,rfl⟩:=ey;have lb:=World.block_lt_of_cell? wr _ c0;have lb':=World.block_lt_of_cell? wr _ d0;simp only at lb lb';have hk1:(k:Int)<(cl.length:Int):=by omega
   obtain⟨c,hc⟩:∃c,c=cl[k]:=⟨_,rfl⟩;rw[<-hc]at c0 c1 c2 c3 c4 c5 d0 d1 d2 d3 d4 d5 hh hh' hbd hbd';clear hc;have HSA1:=zh (fun(W:World)(hb:Below wr.heap.size wr W)=>ZcF c.head c.head (fun _=>True) W _ _ (Tm.rep_lasts.1 _ _ _ _ _ (Tm.rep_lasts.2.1 _ _ _ _ _ hh fun _ _ _=>trivial) (Keeps.ob hb)) (Tm.rep_lasts.1 _ _ _ _ _ (Tm.rep_lasts.2.1 _ _ _ _ _ hh' fun _ _ _=>trivial) (Keeps.ob hb)));have HSA2:=zh (fun(W:World)(hb:Below wr.heap.size wr W)=>Zdz c.body c.body (fun _=>True) W _ _ (SlR.keeps Tm.rep_lasts (SlR.mono Tm.rep_lasts (by omega) hbd fun _ _ _=>trivial) (Keeps.ob hb)) (SlR.keeps Tm.rep_lasts (SlR.mono Tm.rep_lasts (by omega) hbd' fun _ _ _=>trivial) (Keeps.ob hb)));have HCC:=zh (fun(W:World)(hb:Below wr.heap.size wr W)=>And.intro ((hb.cell (p:=⟨b,off+k*6,none⟩) lb).trans c0) (And.intro ((hb.cell (p:=⟨b,off+k*6+1,none⟩) lb).trans c1) (And.intro ((hb.cell (p:=⟨b,off+k*6+2,none⟩) lb).trans c2) (And.intro ((hb.cell (p:=⟨b,off+k*6+3,none⟩) lb).trans c3) (And.intro ((hb.cell (p:=⟨b,off+k*6+4,none⟩) lb).trans c4) ((hb.cell (p:=⟨b,off+k*6+5,none⟩) lb).trans c5))))));have HDD:=zh (fun(W:World)(hb:Below wr.heap.size wr W)=>And.intro ((hb.cell (p:=⟨b',off'+k*6,none⟩) lb').trans d0) (And.intro ((hb.cell (p:=⟨b',off'+k*6+1,none⟩) lb').trans d1) (And.intro ((hb.cell (p:=⟨b',off'+k*6+2,none⟩) lb').trans d2) (And.intro ((hb.cell (p:=⟨b',off'+k*6+3,none⟩) lb').trans d3) (And.intro ((hb.cell (p:=⟨b',off'+k*6+4,none⟩) lb').trans d4) ((hb.cell (p:=⟨b',off'+k*6+5,none⟩) lb').trans d5))))));clear c0 c1 c2 c3 c4 c5 d0 d1 d2 d3 d4 d5 hh hh' hbd hbd' hlt;unfold maxLen at hcm hcm';go_wp2_with fail;have hF0:Below wr.heap.size wr wr.drew:=(zB _ _).drew;have hvv:(c.vars != c.vars)=false:=by simp
   refine Zbx (F:=fun _ w'=>Below wr.heap.size wr w') (by kernel_rfl) ?_;have HF:=hF0;refine zT 0 HF ?_;try simp only[zP]
   refine zT 1 HF ?_;try simp only[zP]
   refine zT 2 HF ?_;try simp only[zP]
   refine zT 3 HF ?_;try simp only[zP]
   refine Zcf (i:=4) (v:= .int .i64 c.vars) rfl (Or.inl ⟨by rfl,?_⟩) HF ?_;·(intro w' hw;obtain⟨f0,f1,f2,f3,f4,f5⟩:=HCC.o w' hw;clear hw;go_simp)
   try simp only[zP]
   refine zT 5 HF ?_;try simp only[zP]
   refine zT 6 HF ?_;try simp only[zP]
   refine zT 7 HF ?_;try simp only[zP]
   refine zT 8 HF ?_;try simp only[zP]
   refine Zcf (i:=9) (v:= .int .i64 c.vars) rfl (Or.inl ⟨by rfl,?_⟩) HF ?_;·(intro w' hw;obtain⟨g0,g1,g2,g3,g4,g5⟩:=HDD.o w' hw;clear hw;go_simp)
   try simp only[zP]
   refine Zcf (i:=10) (v:= .bool false) rfl (Or.inl ⟨by rfl,?_⟩) HF ?_;·(intro w' hw;clear hw;go_simp)
   try simp only[zP]
   refine zT 11 HF ?_;try simp only[zP]
   refine zT 12 HF ?_;try simp only[zP]
   refine zT 13 HF ?_;try simp only[zP]
   refine zT 14 HF ?_;try simp only[zP]
   refine zT 15 HF ?_;try simp only[zP]
   refine Zcf (i:=16) (v:= .agg #[.int .i64 c.head.kind,.int .i64 c.head.n,.string c.head.s,.slice sa c.head.args.length sc]) rfl (Or.inl ⟨by rfl,?_⟩) HF ?_;·(intro w' hw;obtain⟨f0,f1,f2,f3,f4,f5⟩:=HCC.o w' hw;clear hw;go_simp)
   try simp only[zP]
   refine zT 17 HF ?_;try simp only[zP]
   refine zT 18 HF ?_;try simp only[zP]
   refine zT 19 HF ?_;try simp only[zP]
   refine zT 20 HF ?_;try simp only[zP]
   refine Zcf (i:=21) (v:= .agg #[.int .i64 c.head.kind,.int .i64 c.head.n,.string c.head.s,.slice sa' c.head.args.length sc']) rfl (Or.inl ⟨by rfl,?_⟩) HF ?_;·(intro w' hw;obtain⟨g0,g1,g2,g3,g4,g5⟩:=HDD.o w' hw;clear hw;go_simp)
   try simp only[zP]
   refine Zav (i:=22) (by kernel_rfl) (ZaF rfl (by rfl) ?_);go_simp;refine(HSA1.o _ HF).mono ?_;rintro e w4⟨v,rfl,hb4,r,rfl,hr⟩;obtain rfl:r=true:=hr.2 (by first|rfl|trivial);have HF4:Below wr.heap.size wr w4:=HF.trans (hb4.mono HF.size);clear hb4 hr;refine⟨fun _ _ _=>HF4,?_⟩;refine zT 23 HF4 ?_;try simp only[zP]
   refine zT 24 HF4 ?_;try simp only[zP]
   refine zT 25 HF4 ?_;try simp only[zP]
   refine zT 26 HF4 ?_;try simp only[zP]
   refine zT 27 HF4 ?_;try simp only[zP]
   refine zT 28 HF4 ?_;try simp only[zP]
   refine zT 29 HF4 ?_;try simp only[zP]
   refine Zcf (i:=30) (v:= .slice ba c.body.length bc) rfl (Or.inl ⟨by rfl,?_⟩) HF4 ?_;·(intro w' hw;obtain⟨f0,f1,f2,f3,f4,f5⟩:=HCC.o w' hw;clear hw;go_simp)
   try simp only[zP]
   refine zT 31 HF4 ?_;try simp only[zP]
   refine zT 32 HF4 ?_;try simp only[zP]
   refine zT 33 HF4 ?_;try simp only[zP]
   refine zT 34 HF4 ?_;try simp only[zP]
   refine Zcf (i:=35) (v:= .slice ba' c.body.length bc') rfl (Or.inl ⟨by rfl,?_⟩) HF4 ?_;·(intro w' hw;obtain⟨g0,g1,g2,g3,g4,g5⟩:=HDD.o w' hw;clear hw;go_simp)
   try simp only[zP]
   refine Zav (i:=36) (by kernel_rfl) (ZaF rfl (by rfl) ?_);go_simp;refine(HSA2.o _ HF4).mono ?_;rintro e w5⟨v,rfl,hb5,r,rfl,hr⟩;obtain rfl:r=true:=hr.2 (by first|rfl|trivial);have HF5:Below wr.heap.size wr w5:=HF4.trans (hb5.mono HF4.size);clear hb5 hr;refine⟨fun _ _ _=>HF5,?_⟩;refine zT 37 HF5 ?_;try simp only[zP]
   refine Zav (i:=38) (by kernel_rfl) (ZaF rfl (by rfl) ?_);go_simp;refine⟨fun _ _ h=>h,Zbw (by kernel_rfl) ?_ _⟩;have HBf:=zh (HBr.o.trans (HF5.mono HBr.o.size));clear HF HF4 hF0 HF5;go_wp2_with fail;exact⟨⟨k+1,by omega,by go_num,HBf.o⟩,by simp[intOf];omega⟩
  ·have hke:k=cl.length:=by omega
   subst hke;go_wp2_with fail;go_ret;exact⟨_,rfl,HBr.o,rfl⟩
end Go.Proofs.YtlpmfkpefoegeacDoor
