import Derived.Test.YtlpmfkpefoegeacDoorQRd5
namespace Go.Proofs.YtlpmfkpefoegeacDoor
set_option maxRecDepth 100000
set_option maxHeartbeats 16000000
set_option linter.all false
open Go.RowKit
abbrev zcells:Obj:= .cells #[.int .i64 0,.int .i64 0,.string ⟨#[]⟩,.slice none 0 0] 27
section
variable {B base g : Nat} {vv v1 : Value} {r r1 r2 : Rd} {w w1 w2 : World}
theorem ZaV(h:RdI B base g vv r w)(hs:RdStep B base g vv r1 (w.alloc zcells) w1):∃v1,RdI B base g v1 r1 w1/\Ch (RdM g vv) w w1/\VG w vv v1/\w1.heap[w.heap.size]?=some (.cells #[.int .i64 0,.int .i64 0,.string ⟨#[]⟩,.slice none 0 0] 27 (0,0))/\w.heap.size<w1.heap.size/\¬RdM g v1 w.heap.size:=by
 obtain⟨v1,h1,h2,h3⟩:=hs;have hn:¬RdM g vv w.heap.size:=fun e=>by have :=h.rm_lt _ e;omega
 refine⟨v1,h1,((Ch.refl _ _).alloc _).trans h2 (fun b hb=> .inl hb),fun b hb=>(h3 b hb).imp id (fun e=>by simp only[World.size_alloc]at e;omega),(h2.block _ (by simp) hn).trans (ZaC _ _),by have :=h2.size;simp only[World.size_alloc]at this;omega,fun e=>?_⟩;rcases e with e|e;·have :=h.lt.1;omega
 ·rcases h3 _ e with e|e;·have :=(h.vars.lt _ e).2;omega
  ·simp only[World.size_alloc]at e;omega
theorem Za5{x:Nat}{o:Obj}(hs:RdStep B base g v1 r2 w1 w2)(hx:w1.heap[x]?=some o)(hn:¬RdM g v1 x):∃v2,RdI B base g v2 r2 w2/\Ch (RdM g v1) w1 w2/\VG w1 v1 v2/\w2.heap[x]?=some o/\¬RdM g v2 x:=by
 obtain⟨v2,h1,h2,h3⟩:=hs;have hl:=Zag hx;refine⟨v2,h1,h2,h3,(h2.block x hl hn).trans hx,fun e=>?_⟩;rcases VG.rm h3 x e with e|e;·exact hn e
 ·omega
theorem Zae{v2:Value}(hc1:Ch (RdM g vv) w w1)(hv1:VG w vv v1)(hc2:Ch (RdM g v1) w1 w2)(hv2:VG w1 v1 v2):Ch (RdM g vv) w w2/\VG w vv v2:=⟨hc1.trans hc2 (VG.rm hv1),hv1.trans hv2 hc1.size⟩
theorem Za9{t:Tm}{a0 a1 a2 a3:Value}{v2:Value}(h:RdI B base g v2 r2 w2)(hch:Ch (RdM g vv) w w2)(hvg:VG w vv v2)(hn:¬RdM g v2 w.heap.size)(hB:B<=w.heap.size)(hrep:Tm.rep (fun b=>(w.heap.size<=b/\¬RdM g v2 b)/\b≠w.heap.size) w2 t [a0,a1,a2,a3]):RTm B base g vv (t,r2) w (.returned (.agg #[a0,a1,a2,a3])) ((((w2.setCell ⟨w.heap.size,0,none⟩ a0).setCell ⟨w.heap.size,1,none⟩ a1).setCell ⟨w.heap.size,2,none⟩ a2).setCell ⟨w.heap.size,3,none⟩ a3):=by have hk:Keeps (fun b=>(w.heap.size<=b/\¬RdM g v2 b)/\b≠w.heap.size) w2 ((((w2.setCell ⟨w.heap.size,0,none⟩ a0).setCell ⟨w.heap.size,1,none⟩ a1).setCell ⟨w.heap.size,2,none⟩ a2).setCell ⟨w.heap.size,3,none⟩ a3):=(((Keeps.setCell _ _ _ _ (by simp)).trans (Keeps.setCell _ _ _ _ (by simp))).trans (Keeps.setCell _ _ _ _ (by simp))).trans (Keeps.setCell _ _ _ _ (by simp));exact⟨[a0,a1,a2,a3],v2,rfl,(((h.other hn hB).other hn hB).other hn hB).other hn hB,(((hch.setCell (p:=⟨w.heap.size,0,none⟩) (.inr (zL _)) _).setCell (p:=⟨w.heap.size,1,none⟩) (.inr (zL _)) _).setCell (p:=⟨w.heap.size,2,none⟩) (.inr (zL _)) _).setCell (p:=⟨w.heap.size,3,none⟩) (.inr (zL _)) _,hvg,Tm.rep_lasts.2.1 _ _ _ _ _ (Tm.rep_lasts.1 _ _ _ _ _ hrep hk) fun b _ hb=>hb.1⟩
theorem ZaA{A:Nat->Prop}{w:World}{k n:Int}{s:ByteArray}(hk:I64 k)(hn:I64 n)(hs:s.size<=1048576):Tm.rep A w (.mk k n s []) [.int .i64 k,.int .i64 n,.string s,.slice none 0 0]:=Tm.rep_iff.2 ⟨hk,hn,hs,_,rfl,SlR.nil ..⟩
theorem Za6:I64 0:=by unfold I64;omega
theorem ZfV:I64 1:=by unfold I64;omega
theorem Zet:I64 2:=by unfold I64;omega
theorem ZgF:I64 3:=by unfold I64;omega
theorem ZdI(d:Int)(hd:24<d)(h:RdI B base g vv r w):Calls Tryd.prog 26 #[.pointer (some ⟨g,0,none⟩),.int .i64 d] w (RTm B base g vv (tmz,r.space.kill) w):=by
 have HU:=zh h;have HSP:=zh (ZaE (h.below ((zB _ _).alloc (zL _) zcells)));have hBx:B<=w.heap.size:=by have :=h.bg;omega
 have hcs:=Zay;have f1:decide (24<d)=true:=by simpa using hd
 clear hd;clear h;go_enter Tryd.func26,Tryd.ntmps26;go_wp2_with fail;refine HSP.o.mono ?_;rintro e w1⟨rfl,hst⟩;obtain⟨v1,h1,c1,g1,x1,hz1,n1⟩:=ZaV HU.o hst;have HI:=zh h1;have HCH:=zh c1;have HV:=zh g1;have HX:=zh x1;have HN:=zh n1;obtain⟨b0,b1,b2,bf⟩:=h1.cells;have hgl:=h1.lt.1;have hgx:¬g=w.heap.size:=fun e=>n1 (.inl e.symm);obtain⟨x0,x1,x2,x3,xf⟩:=Za8 x1;have e0:r.space.s=Zad r.s:=rfl;have e2:r.space.bad=r.bad:=rfl;rw[e0]at b0;rw[e2]at b2;clear hst h1 c1 g1 n1 e0 e2;go_wp2_with fail;refine bodyPost_ret (v:= .agg #[.int .i64 0,.int .i64 0,.string ⟨#[]⟩,.slice none 0 0]) (by simp[results,Tryd.results26,go_sem,hcs,x0,x1,x2,x3,hgx];try rfl) rfl ?_;obtain⟨v2,k1,k2,k3,k4,k5⟩:=Za5 (HI.o.setBad true) HX.o HN.o;obtain⟨k6,k7⟩:=Zae HCH.o HV.o k2 k3;exact Za9 k1 k6 k7 k5 hBx (ZaA Za6 Za6 (by simp[ByteArray.size]))
theorem ZdJ(d:Int)(hd:d<=24)(hb:r.bad=true)(h:RdI B base g vv r w):Calls Tryd.prog 26 #[.pointer (some ⟨g,0,none⟩),.int .i64 d] w (RTm B base g vv (tmz,r.space.kill) w):=by
 have HU:=zh h;have HSP:=zh (ZaE (h.below ((zB _ _).alloc (zL _) zcells)));have hBx:B<=w.heap.size:=by have :=h.bg;omega
 have hcs:=Zay;have f1:decide (24<d)=false:=by simp;omega
 have HB:=zh hb;clear hd hb;clear h;go_enter Tryd.func26,Tryd.ntmps26;go_wp2_with fail;refine HSP.o.mono ?_;rintro e w1⟨rfl,hst⟩;obtain⟨v1,h1,c1,g1,x1,hz1,n1⟩:=ZaV HU.o hst;have HI:=zh h1;have HCH:=zh c1;have HV:=zh g1;have HX:=zh x1;have HN:=zh n1;obtain⟨b0,b1,b2,bf⟩:=h1.cells;have hgl:=h1.lt.1;have hgx:¬g=w.heap.size:=fun e=>n1 (.inl e.symm);obtain⟨x0,x1,x2,x3,xf⟩:=Za8 x1;have e0:r.space.s=Zad r.s:=rfl;have e2:r.space.bad=r.bad:=rfl;rw[e0]at b0;rw[e2]at b2;clear hst h1 c1 g1 n1 e0 e2;rw[HB.o]at b2;go_wp2_with fail;refine bodyPost_ret (v:= .agg #[.int .i64 0,.int .i64 0,.string ⟨#[]⟩,.slice none 0 0]) (by simp[results,Tryd.results26,go_sem,hcs,x0,x1,x2,x3,hgx];try rfl) rfl ?_;obtain⟨v2,k1,k2,k3,k4,k5⟩:=Za5 (HI.o.setBad true) HX.o HN.o;obtain⟨k6,k7⟩:=Zae HCH.o HV.o k2 k3;exact Za9 k1 k6 k7 k5 hBx (ZaA Za6 Za6 (by simp[ByteArray.size]))
theorem ZdK(d:Int)(hd:d<=24)(hb:r.bad=false)(hs:Zad r.s=[])(h:RdI B base g vv r w):Calls Tryd.prog 26 #[.pointer (some ⟨g,0,none⟩),.int .i64 d] w (RTm B base g vv (tmz,r.space.kill) w):=by
 have HU:=zh h;have HSP:=zh (ZaE (h.below ((zB _ _).alloc (zL _) zcells)));have hBx:B<=w.heap.size:=by have :=h.bg;omega
 have hcs:=Zay;have f1:decide (24<d)=false:=by simp;omega
 have HB:=zh hb;have HS:=zh hs;obtain⟨t1,t2⟩:=Zci;clear hd hb hs;clear h;go_enter Tryd.func26,Tryd.ntmps26;go_wp2_with fail;refine HSP.o.mono ?_;rintro e w1⟨rfl,hst⟩;obtain⟨v1,h1,c1,g1,x1,hz1,n1⟩:=ZaV HU.o hst;have HI:=zh h1;have HCH:=zh c1;have HV:=zh g1;have HX:=zh x1;have HN:=zh n1;obtain⟨b0,b1,b2,bf⟩:=h1.cells;have hgl:=h1.lt.1;have hgx:¬g=w.heap.size:=fun e=>n1 (.inl e.symm);obtain⟨x0,x1,x2,x3,xf⟩:=Za8 x1;have e0:r.space.s=Zad r.s:=rfl;have e2:r.space.bad=r.bad:=rfl;rw[e0]at b0;rw[e2]at b2;clear hst h1 c1 g1 n1 e0 e2;rw[HB.o]at b2;rw[HS.o]at b0;go_wp2_with fail;refine bodyPost_ret (v:= .agg #[.int .i64 0,.int .i64 0,.string ⟨#[]⟩,.slice none 0 0]) (by simp[results,Tryd.results26,go_sem,hcs,x0,x1,x2,x3,hgx];try rfl) rfl ?_;obtain⟨v2,k1,k2,k3,k4,k5⟩:=Za5 (HI.o.setBad true) HX.o HN.o;obtain⟨k6,k7⟩:=Zae HCH.o HV.o k2 k3;exact Za9 k1 k6 k7 k5 hBx (ZaA Za6 Za6 (by simp[ByteArray.size]))
theorem ZfW(d:Int)(hd:d<=24)(c:UInt8)(rest:Str)(hb:r.bad=false)(hs:Zad r.s=c::rest)(hc:65<=(c.toNat:Int)/\(c.toNat:Int)<=90)(h:RdI B base g vv r w):Calls Tryd.prog 26 #[.pointer (some ⟨g,0,none⟩),.int .i64 d] w (RTm B base g vv (ZgD {r with s:=(c::rest).drop (Zac (c::rest))} ((c::rest).take (Zac (c::rest)))) w):=by
 have HU:=zh h;have HSP:=zh (ZaE (h.below ((zB _ _).alloc (zL _) zcells)));have hBx:B<=w.heap.size:=by have :=h.bg;omega
 have hcs:=Zay;have f1:decide (24<d)=false:=by simp;omega
 have HB:=zh hb;have HS:=zh hs;obtain⟨S,hS⟩:∃S,S=bs (c::rest):=⟨_,rfl⟩;have HSS:=zh hS;have t1:S.toList.isEmpty=false:=by rw[hS,Zaa];rfl
 have t2:¬S.toList=[]:=by rw[hS,Zaa];simp
 have t3:0<S.size:=by rw[hS,Zab];simp
 have hg0:S[0]=c:=by subst hS;exact ZaQ c rest t3
 have HG:=zh hg0;have hc0:0<=(S[0].toNat:Int):=by omega
 obtain⟨hc1,hc2⟩:=hc;have f2:decide ((65:Int)<=(S[0].toNat:Int))=true:=by rw[hg0];exact decide_eq_true (by omega)
 have f3:decide ((S[0].toNat:Int)<=(90:Int))=true:=by rw[hg0];exact decide_eq_true (by omega)
 have hwp:1<=Zac (c::rest):=by rw[ZaT,if_pos (by simp[up_iff.2 ⟨hc1,hc2⟩])];omega
 have HWP:=zh hwp;clear hc1 hc2 hwp;clear hd hb hs hS hg0;clear h;go_enter Tryd.func26,Tryd.ntmps26;go_wp2_with fail;refine HSP.o.mono ?_;rintro e w1⟨rfl,hst⟩;obtain⟨v1,h1,c1,g1,x1,hz1,n1⟩:=ZaV HU.o hst;have HI:=zh h1;have HCH:=zh c1;have HV:=zh g1;have HX:=zh x1;have HN:=zh n1;obtain⟨b0,b1,b2,bf⟩:=h1.cells;have hgl:=h1.lt.1;have hgx:¬g=w.heap.size:=fun e=>n1 (.inl e.symm);obtain⟨x0,x1,x2,x3,xf⟩:=Za8 x1;have e0:r.space.s=Zad r.s:=rfl;have e2:r.space.bad=r.bad:=rfl;rw[e0]at b0;rw[e2]at b2;clear hst h1 c1 g1 n1 e0 e2;rw[HB.o]at b2;rw[HS.o,<-HSS.o]at b0;go_wp2_with fail;have HW:=zh (Zd8 (c::rest) (by rw[<-HS.o];exact Zbe r.s) HI.o);refine HW.o.mono ?_;rintro e w2⟨rfl,hst2⟩;obtain⟨v2,k1,k2,k3,k4,k5⟩:=Za5 hst2 HX.o HN.o;have HI2:=zh k1;have HC2:=zh (Zae HCH.o HV.o k2 k3);have HX2:=zh k4;have HN2:=zh k5;have hl:=HI.o.len;have e0:r.space.s=c::rest:=HS.o;rw[e0]at hl;have hwl:=Za4 (Nat.le_refl (Zac (c::rest)));have HL:=zh hl;have HWL:=zh hwl;clear hst2 k1 k2 k3 k4 k5 hl hwl e0 b0 b1 b2 bf x0 x1 x2 x3 xf HW;go_wp2_with fail;refine(ZgE ((c::rest).take (Zac (c::rest))) (by have :=HL.o;rw[List.length_take];omega) HI2.o (by have :=HL.o;have :=HWP.o;have :=HWL.o;show((c::rest).drop (Zac (c::rest))).length+r.vars.length+1<=2000;rw[List.length_drop];have e:r.space.vars.length=r.vars.length:=rfl;omega)).mono ?_;rintro e w3⟨us,v3,rfl,k1,k2,k3,k4⟩;obtain⟨-, -, -,va,rfl,hsl⟩:=Tm.rep_iff.1 k4;obtain⟨ua,uc, -, -,rfl, -⟩:=hsl.at;clear hsl;have HI3:=zh k1;have HC3:=zh (Zae HC2.o.1 HC2.o.2 k2 k3);have HR3:=zh k4;have hzz:w.heap.size<w2.heap.size:=Zag HX2.o;have hx3:=(k2.block _ hzz HN2.o).trans HX2.o;have HX3:=zh hx3;have hn3:¬RdM g v3 w.heap.size:=fun e=>(VG.rm k3 _ e).elim HN2.o (fun e=>by omega);have HN3:=zh hn3;have hgl3:=k1.lt.1;obtain⟨x0,x1,x2,x3,xf⟩:=Za8 hx3;clear k1 k2 k3 k4 hx3 hn3;go_wp2_with fail;refine bodyPost_ret (v:= .agg #[.int .i64 0,.int .i64 (Zel r.space.vars ((c::rest).take (Zac (c::rest)))).1,.string ⟨#[]⟩,.slice ua 0 uc]) (by simp[results,Tryd.results26,go_sem,hcs,x0,x1,x2,x3,hgx];try rfl) rfl ?_;refine Za9 HI3.o HC3.o.1 HC3.o.2 HN3.o hBx ?_;exact Tm.rep_lasts.2.1 _ _ _ _ _ HR3.o fun b _ hb=>⟨⟨by omega,hb.2⟩,fun e=>by omega⟩
theorem Zeu(d:Int)(hd:d<=24)(c:UInt8)(rest:Str)(hb:r.bad=false)(hs:Zad r.s=c::rest)(hc:(c.toNat:Int)=33)(h:RdI B base g vv r w):Calls Tryd.prog 26 #[.pointer (some ⟨g,0,none⟩),.int .i64 d] w (RTm B base g vv (.mk 1 0 (bs [33]) [],{r with s:=rest}) w):=by
 have HU:=zh h;have HSP:=zh (ZaE (h.below ((zB _ _).alloc (zL _) zcells)));have hBx:B<=w.heap.size:=by have :=h.bg;omega
 have hcs:=Zay;have f1:decide (24<d)=false:=by simp;omega
 have HB:=zh hb;have HS:=zh hs;obtain⟨S,hS⟩:∃S,S=bs (c::rest):=⟨_,rfl⟩;have HSS:=zh hS;have t1:S.toList.isEmpty=false:=by rw[hS,Zaa];rfl
 have t2:¬S.toList=[]:=by rw[hS,Zaa];simp
 have t3:0<S.size:=by rw[hS,Zab];simp
 have hg0:S[0]=c:=by subst hS;exact ZaQ c rest t3
 have HG:=zh hg0;have hc0:0<=(S[0].toNat:Int):=by omega
 have f2:decide ((65:Int)<=(S[0].toNat:Int))=false:=by rw[hg0];exact decide_eq_false (by omega)
 have f4:((S[0].toNat:Int)==(33:Int))=true:=by rw[hg0];rw[beq_iff_eq];omega
 clear hc;clear hd hb hs hS hg0;clear h;go_enter Tryd.func26,Tryd.ntmps26;go_wp2_with fail;refine HSP.o.mono ?_;rintro e w1⟨rfl,hst⟩;obtain⟨v1,h1,c1,g1,x1,hz1,n1⟩:=ZaV HU.o hst;have HI:=zh h1;have HCH:=zh c1;have HV:=zh g1;have HX:=zh x1;have HN:=zh n1;obtain⟨b0,b1,b2,bf⟩:=h1.cells;have hgl:=h1.lt.1;have hgx:¬g=w.heap.size:=fun e=>n1 (.inl e.symm);obtain⟨x0,x1,x2,x3,xf⟩:=Za8 x1;have e0:r.space.s=Zad r.s:=rfl;have e2:r.space.bad=r.bad:=rfl;rw[e0]at b0;rw[e2]at b2;clear hst h1 c1 g1 n1 e0 e2;rw[HB.o]at b2;rw[HS.o,<-HSS.o]at b0;go_wp2_with fail;have hx:S.extract 1 S.size=bs rest:=by rw[HSS.o];exact ZbF c rest
 rw[hx];obtain⟨v2,k1,k2,k3,k4,k5⟩:=Za5 (HI.o.setS rest (by rw[show r.space.s=c::rest from HS.o];simp)) HX.o HN.o;obtain⟨k6,k7⟩:=Zae HCH.o HV.o k2 k3;refine bodyPost_ret (v:= .agg #[.int .i64 1,.int .i64 0,.string ⟨#[33]⟩,.slice none 0 0]) (by simp[results,Tryd.results26,go_sem,hcs,x0,x1,x2,x3,hgx];try rfl) rfl ?_;exact Za9 k1 k6 k7 k5 hBx (ZaA ZfV Za6 (by simp[ByteArray.size,bs]))
def Zb6(r:Rd)(c:UInt8)(rest:Str):Tm×Rd:=match ZbB (c::rest)with|some k=>(.mk 2 k ⟨#[]⟩ [],{r with s:=(c::rest).drop (Zaf (c::rest))})|none=>(.mk 2 0 ⟨#[]⟩ [],{r with s:=c::rest,bad:=true})
theorem Zd9{s:Str}{k:Int}(h:some k=ZbB s): -1099511627776<=k/\k<=1099511627776:=by
 rw[Za0]at h;unfold Zdd at h;split at h
 ·split at h;·rename_i h2;simp only[Option.some.injEq]at h;subst h;exact h2.2
  ·cases h
 ·cases h
theorem Zev(d:Int)(hd:d<=24)(c:UInt8)(rest:Str)(hb:r.bad=false)(hs:Zad r.s=c::rest)(hc:(c.toNat:Int)=45)(h:RdI B base g vv r w):Calls Tryd.prog 26 #[.pointer (some ⟨g,0,none⟩),.int .i64 d] w (RTm B base g vv (Zb6 r c rest) w):=by
 have HU:=zh h;have HSP:=zh (ZaE (h.below ((zB _ _).alloc (zL _) zcells)));have hBx:B<=w.heap.size:=by have :=h.bg;omega
 have hcs:=Zay;have f1:decide (24<d)=false:=by simp;omega
 have HB:=zh hb;have HS:=zh hs;obtain⟨S,hS⟩:∃S,S=bs (c::rest):=⟨_,rfl⟩;have HSS:=zh hS;have t1:S.toList.isEmpty=false:=by rw[hS,Zaa];rfl
 have t2:¬S.toList=[]:=by rw[hS,Zaa];simp
 have t3:0<S.size:=by rw[hS,Zab];simp
 have hg0:S[0]=c:=by subst hS;exact ZaQ c rest t3
 have HG:=zh hg0;have hc0:0<=(S[0].toNat:Int):=by omega
 have f2:decide ((65:Int)<=(S[0].toNat:Int))=false:=by rw[hg0];exact decide_eq_false (by omega)
 have f4:((S[0].toNat:Int)==(33:Int))=false:=by rw[hg0];rw[beq_eq_false_iff_ne];omega
 have f5:((S[0].toNat:Int)==(45:Int))=true:=by rw[hg0];rw[beq_iff_eq];omega
 have HCC:=zh (show c=45\/ZaR c=true from .inl (UInt8.toNat_inj.1 (by have e45:(45:UInt8).toNat=45:=rfl;omega)));clear hc;clear hd hb hs hS hg0;clear h;go_enter Tryd.func26,Tryd.ntmps26;go_wp2_with fail;refine HSP.o.mono ?_;rintro e w1⟨rfl,hst⟩;obtain⟨v1,h1,c1,g1,x1,hz1,n1⟩:=ZaV HU.o hst;have HI:=zh h1;have HCH:=zh c1;have HV:=zh g1;have HX:=zh x1;have HN:=zh n1;obtain⟨b0,b1,b2,bf⟩:=h1.cells;have hgl:=h1.lt.1;have hgx:¬g=w.heap.size:=fun e=>n1 (.inl e.symm);obtain⟨x0,x1,x2,x3,xf⟩:=Za8 x1;have e0:r.space.s=Zad r.s:=rfl;have e2:r.space.bad=r.bad:=rfl;rw[e0]at b0;rw[e2]at b2;clear hst h1 c1 g1 n1 e0 e2;rw[HB.o]at b2;rw[HS.o,<-HSS.o]at b0;go_wp2_with fail;have HNUM:=zh (Ze6 c rest HCC.o (by rw[<-HS.o];exact Zbe r.s) HI.o);refine HNUM.o.mono ?_;intro e w2 hp;unfold Zai at hp;cases ho:ZbB (c::rest)with
  |none=>rw[ho]at hp;obtain⟨rfl,hst2⟩:=hp;have HRES:=zh (show Zb6 r c rest=(.mk 2 0 ⟨#[]⟩ [],{r with s:=c::rest,bad:=true})by unfold Zb6;rw[ho]);clear ho;obtain⟨v2,k1,k2,k3,k4,k5⟩:=Za5 hst2 HX.o HN.o;have HI2:=zh k1;have HC2:=zh (Zae HCH.o HV.o k2 k3);have HX2:=zh k4;have HN2:=zh k5;obtain⟨b0,b1,b2,bf⟩:=k1.cells;have hgl2:=k1.lt.1;obtain⟨x0,x1,x2,x3,xf⟩:=Za8 k4;have e9:(⟨c::rest,r.space.vars,r.space.bad⟩:Rd).bad=false:=HB.o;rw[e9]at b2;clear hst2 k1 k2 k3 k4 k5 e9;go_wp2_with fail;obtain⟨v3,k1,k2,k3,k4,k5⟩:=Za5 (HI2.o.setBad true) HX2.o HN2.o;obtain⟨k6,k7⟩:=Zae HC2.o.1 HC2.o.2 k2 k3;rw[HRES.o];refine bodyPost_ret (v:= .agg #[.int .i64 2,.int .i64 0,.string ⟨#[]⟩,.slice none 0 0]) (by simp[results,Tryd.results26,go_sem,hcs,x0,x1,x2,x3,hgx];try rfl) rfl ?_;exact Za9 k1 k6 k7 k5 hBx (ZaA Zet Za6 (by simp[ByteArray.size]))
  |some k=>
   rw[ho]at hp;obtain⟨rfl,hst2⟩:=hp;have HRES:=zh (show Zb6 r c rest=(.mk 2 k ⟨#[]⟩ [],{r with s:=(c::rest).drop (Zaf (c::rest))})by unfold Zb6;rw[ho]);have HO:=zh ho.symm;clear ho;obtain⟨v2,k1,k2,k3,k4,k5⟩:=Za5 hst2 HX.o HN.o;have HI2:=zh k1;have HC2:=zh (Zae HCH.o HV.o k2 k3);have HX2:=zh k4;have HN2:=zh k5;obtain⟨b0,b1,b2,bf⟩:=k1.cells;have hgl2:=k1.lt.1;obtain⟨x0,x1,x2,x3,xf⟩:=Za8 k4;have e9:(⟨(c::rest).drop (Zaf (c::rest)),r.space.vars,r.space.bad⟩:Rd).bad=false:=HB.o;rw[e9]at b2;have hkb:=Zd9 HO.o;clear hst2 k1 k2 k3 k4 k5 e9;go_wp2_with fail;obtain⟨v3,k1,k2,k3,k4,k5⟩:=Za5 (HI2.o.setBad false) HX2.o HN2.o;obtain⟨k6,k7⟩:=Zae HC2.o.1 HC2.o.2 k2 k3;rw[HRES.o];have e8:(⟨(c::rest).drop (Zaf (c::rest)),r.space.vars,false⟩:Rd)={r with s:=(c::rest).drop (Zaf (c::rest))}:=by rw[<-HB.o];rfl
   rw[<-e8];refine bodyPost_ret (v:= .agg #[.int .i64 2,.int .i64 k,.string ⟨#[]⟩,.slice none 0 0]) (by simp[results,Tryd.results26,go_sem,hcs,x0,x1,x2,x3,hgx];try rfl) rfl ?_;exact Za9 k1 k6 k7 k5 hBx (ZaA Zet (by unfold I64;omega) (by simp[ByteArray.size]))
theorem Zew(d:Int)(hd:d<=24)(c:UInt8)(rest:Str)(hb:r.bad=false)(hs:Zad r.s=c::rest)(hc:48<=(c.toNat:Int)/\(c.toNat:Int)<=57)(h:RdI B base g vv r w):Calls Tryd.prog 26 #[.pointer (some ⟨g,0,none⟩),.int .i64 d] w (RTm B base g vv (Zb6 r c rest) w):=by
 have HU:=zh h;have HSP:=zh (ZaE (h.below ((zB _ _).alloc (zL _) zcells)));have hBx:B<=w.heap.size:=by have :=h.bg;omega
 have hcs:=Zay;have f1:decide (24<d)=false:=by simp;omega
 have HB:=zh hb;have HS:=zh hs;obtain⟨S,hS⟩:∃S,S=bs (c::rest):=⟨_,rfl⟩;have HSS:=zh hS;have t1:S.toList.isEmpty=false:=by rw[hS,Zaa];rfl
 have t2:¬S.toList=[]:=by rw[hS,Zaa];simp
 have t3:0<S.size:=by rw[hS,Zab];simp
 have hg0:S[0]=c:=by subst hS;exact ZaQ c rest t3
 have HG:=zh hg0;have hc0:0<=(S[0].toNat:Int):=by omega
 obtain⟨hc1,hc2⟩:=hc;have f2:decide ((65:Int)<=(S[0].toNat:Int))=false:=by rw[hg0];exact decide_eq_false (by omega)
 have f4:((S[0].toNat:Int)==(33:Int))=false:=by rw[hg0];rw[beq_eq_false_iff_ne];omega
 have f5:((S[0].toNat:Int)==(45:Int))=false:=by rw[hg0];rw[beq_eq_false_iff_ne];omega
 have f6:decide ((48:Int)<=(S[0].toNat:Int))=true:=by rw[hg0];exact decide_eq_true (by omega)
 have f7:decide ((S[0].toNat:Int)<=(57:Int))=true:=by rw[hg0];exact decide_eq_true (by omega)
 have HCC:=zh (show c=45\/ZaR c=true from .inr (dig_iff.2 ⟨hc1,hc2⟩));clear hc1 hc2;clear hd hb hs hS hg0;clear h;go_enter Tryd.func26,Tryd.ntmps26;go_wp2_with fail;refine HSP.o.mono ?_;rintro e w1⟨rfl,hst⟩;obtain⟨v1,h1,c1,g1,x1,hz1,n1⟩:=ZaV HU.o hst;have HI:=zh h1;have HCH:=zh c1;have HV:=zh g1;have HX:=zh x1;have HN:=zh n1;obtain⟨b0,b1,b2,bf⟩:=h1.cells;have hgl:=h1.lt.1;have hgx:¬g=w.heap.size:=fun e=>n1 (.inl e.symm);obtain⟨x0,x1,x2,x3,xf⟩:=Za8 x1;have e0:r.space.s=Zad r.s:=rfl;have e2:r.space.bad=r.bad:=rfl;rw[e0]at b0;rw[e2]at b2;clear hst h1 c1 g1 n1 e0 e2;rw[HB.o]at b2;rw[HS.o,<-HSS.o]at b0;go_wp2_with fail;have HNUM:=zh (Ze6 c rest HCC.o (by rw[<-HS.o];exact Zbe r.s) HI.o);refine HNUM.o.mono ?_;intro e w2 hp;unfold Zai at hp;cases ho:ZbB (c::rest)with
  |none=>rw[ho]at hp;obtain⟨rfl,hst2⟩:=hp;have HRES:=zh (show Zb6 r c rest=(.mk 2 0 ⟨#[]⟩ [],{r with s:=c::rest,bad:=true})by unfold Zb6;rw[ho]);clear ho;obtain⟨v2,k1,k2,k3,k4,k5⟩:=Za5 hst2 HX.o HN.o;have HI2:=zh k1;have HC2:=zh (Zae HCH.o HV.o k2 k3);have HX2:=zh k4;have HN2:=zh k5;obtain⟨b0,b1,b2,bf⟩:=k1.cells;have hgl2:=k1.lt.1;obtain⟨x0,x1,x2,x3,xf⟩:=Za8 k4;have e9:(⟨c::rest,r.space.vars,r.space.bad⟩:Rd).bad=false:=HB.o;rw[e9]at b2;clear hst2 k1 k2 k3 k4 k5 e9;go_wp2_with fail;obtain⟨v3,k1,k2,k3,k4,k5⟩:=Za5 (HI2.o.setBad true) HX2.o HN2.o;obtain⟨k6,k7⟩:=Zae HC2.o.1 HC2.o.2 k2 k3;rw[HRES.o];refine bodyPost_ret (v:= .agg #[.int .i64 2,.int .i64 0,.string ⟨#[]⟩,.slice none 0 0]) (by simp[results,Tryd.results26,go_sem,hcs,x0,x1,x2,x3,hgx];try rfl) rfl ?_;exact Za9 k1 k6 k7 k5 hBx (ZaA Zet Za6 (by simp[ByteArray.size]))
  |some k=>
   rw[ho]at hp;obtain⟨rfl,hst2⟩:=hp;have HRES:=zh (show Zb6 r c rest=(.mk 2 k ⟨#[]⟩ [],{r with s:=(c::rest).drop (Zaf (c::rest))})by unfold Zb6;rw[ho]);have HO:=zh ho.symm;clear ho;obtain⟨v2,k1,k2,k3,k4,k5⟩:=Za5 hst2 HX.o HN.o;have HI2:=zh k1;have HC2:=zh (Zae HCH.o HV.o k2 k3);have HX2:=zh k4;have HN2:=zh k5;obtain⟨b0,b1,b2,bf⟩:=k1.cells;have hgl2:=k1.lt.1;obtain⟨x0,x1,x2,x3,xf⟩:=Za8 k4;have e9:(⟨(c::rest).drop (Zaf (c::rest)),r.space.vars,r.space.bad⟩:Rd).bad=false:=HB.o;rw[e9]at b2;have hkb:=Zd9 HO.o;clear hst2 k1 k2 k3 k4 k5 e9;go_wp2_with fail;obtain⟨v3,k1,k2,k3,k4,k5⟩:=Za5 (HI2.o.setBad false) HX2.o HN2.o;obtain⟨k6,k7⟩:=Zae HC2.o.1 HC2.o.2 k2 k3;rw[HRES.o];have e8:(⟨(c::rest).drop (Zaf (c::rest)),r.space.vars,false⟩:Rd)={r with s:=(c::rest).drop (Zaf (c::rest))}:=by rw[<-HB.o];rfl
   rw[<-e8];refine bodyPost_ret (v:= .agg #[.int .i64 2,.int .i64 k,.string ⟨#[]⟩,.slice none 0 0]) (by simp[results,Tryd.results26,go_sem,hcs,x0,x1,x2,x3,hgx];try rfl) rfl ?_;exact Za9 k1 k6 k7 k5 hBx (ZaA Zet (by unfold I64;omega) (by simp[ByteArray.size]))
end
end Go.Proofs.YtlpmfkpefoegeacDoor
