import Derived.Test.YtlpmfkpefoegeacDoorQPs3
namespace Go.Proofs.YtlpmfkpefoegeacDoor
set_option maxRecDepth 100000
set_option maxHeartbeats 16000000
set_option linter.all false
open Go.RowKit
section
variable {base g : Nat} {lv vv l1 v1 : Value} {p p1 p2 : Ps} {w w1 w2 : World}
theorem ZaK(h:PsI base g lv vv p w)(hb:Below (w.alloc zcells).heap.size (w.alloc zcells) w1):PsI base g lv vv p w1/\Ch (RdM g vv) w w1/\w1.heap[w.heap.size]?=some (.cells #[.int .i64 0,.int .i64 0,.string ⟨#[]⟩,.slice none 0 0] 27 (0,0))/\w.heap.size<w1.heap.size/\¬RdM g vv w.heap.size:=by have hb2:Below w.heap.size w w1:=((zB _ _).alloc (zL _) zcells).trans (hb.mono (by simp));refine⟨h.below hb2,Ch.of_below hb2,(hb.block _ (by simp)).trans (ZaC _ _),by have :=hb.size;simp only[World.size_alloc]at this;omega,fun e=>by have :=h.rm_lt _ e;omega⟩
theorem ZcC{x:Nat}{o:Obj}(hs:PsStep base g v1 p2 w1 w2)(hx:w1.heap[x]?=some o)(hn:¬RdM g v1 x):∃l2 v2,PsI base g l2 v2 p2 w2/\Ch (RdM g v1) w1 w2/\VG w1 v1 v2/\w2.heap[x]?=some o/\¬RdM g v2 x:=by
 obtain⟨l2,v2,h1,h2,h3⟩:=hs;have hl:=Zag hx;refine⟨l2,v2,h1,h2,h3,(h2.block x hl hn).trans hx,fun e=>?_⟩;rcases VG.rm h3 x e with e|e;·exact hn e
 ·omega
theorem Zbl{t:Tm}{a0 a1 a2 a3:Value}{l2 v2:Value}(h:PsI base g l2 v2 p2 w2)(hch:Ch (RdM g vv) w w2)(hvg:VG w vv v2)(hn:¬RdM g v2 w.heap.size)(hB:g<=w.heap.size)(hrep:Tm.rep (fun b=>(w.heap.size<=b/\¬RdM g v2 b)/\b≠w.heap.size) w2 t [a0,a1,a2,a3]):PTm base g vv (t,p2) w (.returned (.agg #[a0,a1,a2,a3])) ((((w2.setCell ⟨w.heap.size,0,none⟩ a0).setCell ⟨w.heap.size,1,none⟩ a1).setCell ⟨w.heap.size,2,none⟩ a2).setCell ⟨w.heap.size,3,none⟩ a3):=by have hk:Keeps (fun b=>(w.heap.size<=b/\¬RdM g v2 b)/\b≠w.heap.size) w2 ((((w2.setCell ⟨w.heap.size,0,none⟩ a0).setCell ⟨w.heap.size,1,none⟩ a1).setCell ⟨w.heap.size,2,none⟩ a2).setCell ⟨w.heap.size,3,none⟩ a3):=(((Keeps.setCell _ _ _ _ (by simp)).trans (Keeps.setCell _ _ _ _ (by simp))).trans (Keeps.setCell _ _ _ _ (by simp))).trans (Keeps.setCell _ _ _ _ (by simp));exact⟨[a0,a1,a2,a3],l2,v2,rfl,(((h.other hn hB).other hn hB).other hn hB).other hn hB,(((hch.setCell (p:=⟨w.heap.size,0,none⟩) (.inr (zL _)) _).setCell (p:=⟨w.heap.size,1,none⟩) (.inr (zL _)) _).setCell (p:=⟨w.heap.size,2,none⟩) (.inr (zL _)) _).setCell (p:=⟨w.heap.size,3,none⟩) (.inr (zL _)) _,hvg,Tm.rep_lasts.2.1 _ _ _ _ _ (Tm.rep_lasts.1 _ _ _ _ _ hrep hk) fun b _ hb=>hb.1⟩
theorem Zfd{x:Nat}{o:Obj}{t:Str}{r:List Str}{lv2:Value}(h:PsI base g lv vv p w)(hl:p.l=t::r)(h2:SlR 1 (ZbD ZdH Zbk) (fun b=>b<g) w r lv2)(hx:w.heap[x]?=some o)(hn:¬RdM g vv x):PsI base g lv2 vv {p with l:=r} (w.setCell ⟨g,0,none⟩ lv2)/\Ch (RdM g vv) w (w.setCell ⟨g,0,none⟩ lv2)/\(w.setCell ⟨g,0,none⟩ lv2).heap[x]?=some o:=by obtain⟨k1,k2⟩:=h.pop hl h2;exact⟨k1,k2,(k2.block x (Zag hx) hn).trans hx⟩
theorem Zb8(d:Int)(hd:I64 d)(hs:p.l.headD []=[]\/d=0)(h:PsI base g lv vv p w):Calls Tryd.prog 30 #[.pointer (some ⟨g,0,none⟩),.int .i64 d] w (PTm base g vv (tmz,p.kill) w):=by
 by_cases he:p.l.headD []=[]
 ·obtain⟨t1,t2⟩:=Zci;have HE:=zh he;have t3:((bs []).toList==[])=true:=by rw[Zaa];rfl
  clear hs he;have HU:=zh h;have HSP:=zh (Za7 (h.below ((zB _ _).alloc (zL _) zcells)));have hBx:g<=w.heap.size:=by have :=h.lt;omega
  have hcs:=Zay;clear h;go_enter Tryd.func30,Tryd.ntmps30;go_wp2_with fail;refine HSP.o.mono ?_;rintro e w1⟨rfl,hst⟩;rw[HE.o];obtain⟨h1,c1,x1,hz1,n1⟩:=ZaK HU.o hst;have HI:=zh h1;have HCH:=zh c1;have HX:=zh x1;have HN:=zh n1;obtain⟨b0,b1,b2,bf⟩:=h1.cells;have hgl:=h1.lt.1;have hgx:¬g=w.heap.size:=fun e=>n1 (.inl e.symm);obtain⟨x0,x1,x2,x3,xf⟩:=Za8 x1;clear hst h1 c1 n1;go_wp2_with fail;refine bodyPost_ret (v:= .agg #[.int .i64 0,.int .i64 0,.string ⟨#[]⟩,.slice none 0 0]) (by simp[results,Tryd.results30,go_sem,hcs,x0,x1,x2,x3,hgx];try rfl) rfl ?_;obtain⟨k1,k2⟩:=HI.o.setBad true;have k4:=(k2.block _ (Zag HX.o) HN.o).trans HX.o;exact Zbl k1 (HCH.o.trans k2 (fun b hb=> .inl hb)) (VG.refl _ _) HN.o hBx (ZaA Za6 Za6 (by simp[ByteArray.size]))
 ·obtain rfl:d=0:=hs.resolve_left he;obtain⟨c,q,hcq⟩:=List.exists_cons_of_ne_nil he;have HE:=zh hcq;clear hs he hcq;obtain⟨S,hS⟩:∃S,S=bs (c::q):=⟨_,rfl⟩;have HSS:=zh hS;have t1:S.toList.isEmpty=false:=by rw[hS,Zaa];rfl
  have t2:¬S.toList=[]:=by rw[hS,Zaa];simp
  have t3:(S.toList==[])=false:=by rw[hS,Zaa];rfl
  clear hS;have HU:=zh h;have HSP:=zh (Za7 (h.below ((zB _ _).alloc (zL _) zcells)));have hBx:g<=w.heap.size:=by have :=h.lt;omega
  have hcs:=Zay;clear h;go_enter Tryd.func30,Tryd.ntmps30;go_wp2_with fail;refine HSP.o.mono ?_;rintro e w1⟨rfl,hst⟩;rw[HE.o,<-HSS.o];obtain⟨h1,c1,x1,hz1,n1⟩:=ZaK HU.o hst;have HI:=zh h1;have HCH:=zh c1;have HX:=zh x1;have HN:=zh n1;obtain⟨b0,b1,b2,bf⟩:=h1.cells;have hgl:=h1.lt.1;have hgx:¬g=w.heap.size:=fun e=>n1 (.inl e.symm);obtain⟨x0,x1,x2,x3,xf⟩:=Za8 x1;clear hst h1 c1 n1;go_wp2_with fail;refine bodyPost_ret (v:= .agg #[.int .i64 0,.int .i64 0,.string ⟨#[]⟩,.slice none 0 0]) (by simp[results,Tryd.results30,go_sem,hcs,x0,x1,x2,x3,hgx];try rfl) rfl ?_;obtain⟨k1,k2⟩:=HI.o.setBad true;have k4:=(k2.block _ (Zag HX.o) HN.o).trans HX.o;exact Zbl k1 (HCH.o.trans k2 (fun b hb=> .inl hb)) (VG.refl _ _) HN.o hBx (ZaA Za6 Za6 (by simp[ByteArray.size]))
theorem Zex(d:Int)(hd:I64 d/\d≠0)(c:UInt8)(q:Str)(r:List Str)(hl:p.l=(c::q)::r)(hc:c::q=[33])(h:PsI base g lv vv p w):Calls Tryd.prog 30 #[.pointer (some ⟨g,0,none⟩),.int .i64 d] w (PTm base g vv (.mk 1 0 (bs [33]) [],{p with l:=r}) w):=by
 have HU:=zh h;have HSP:=zh (Za7 (h.below ((zB _ _).alloc (zL _) zcells)));have hBx:g<=w.heap.size:=by have :=h.lt;omega
 have hcs:=Zay;have hd0:((d:Int)==0)=false:=by rw[beq_eq_false_iff_ne];exact hd.2
 have hdz:¬d=0:=hd.2;have HL:=zh hl;have HTK:=zh (h.tok (c::q) (by rw[hl];simp));obtain⟨S,hS⟩:∃S,S=bs (c::q):=⟨_,rfl⟩;have HSS:=zh hS;have t1:S.toList.isEmpty=false:=by rw[hS,Zaa];rfl
 have t2:¬S.toList=[]:=by rw[hS,Zaa];simp
 have t3:(S.toList==[])=false:=by rw[hS,Zaa];rfl
 have t4:0<S.size:=by rw[hS,Zab];simp
 have hg0:S[0]=c:=by subst hS;exact ZaQ c q t4
 have HG:=zh hg0;have hc0:0<=(S[0].toNat:Int):=by omega
 have f9:(S.toList==[33])=true:=by rw[hS,Zaa,hc];rfl
 clear hc;have HF:=zh (show p.l.headD []=c::q by rw[hl];rfl);clear hd hl hS hg0;clear h;go_enter Tryd.func30,Tryd.ntmps30;go_wp2_with fail;refine HSP.o.mono ?_;rintro e w1⟨rfl,hst⟩;obtain⟨h1,c1,x1,hz1,n1⟩:=ZaK HU.o hst;have HI:=zh h1;have HCH:=zh c1;have HX:=zh x1;have HN:=zh n1;obtain⟨b0,b1,b2,bf⟩:=h1.cells;have hgl:=h1.lt.1;have hgx:¬g=w.heap.size:=fun e=>n1 (.inl e.symm);obtain⟨x0,x1,x2,x3,xf⟩:=Za8 x1;clear hst h1 c1 n1;rw[HF.o,<-HSS.o];have hw:=HI.o.wd;rw[HL.o]at hw;obtain⟨wb,wo,cap,hlv,hlc,hcm, -,hbl,hwc,hrest⟩:=ZbS hw;subst hlv;have HPOP:=zh (fun(a':Option Addr)(ha:cap≠1->a'=some ⟨wb,wo+1,none⟩)=>Zfd HI.o HL.o (hrest a' ha) HX.o HN.o);unfold maxLen at hcm;have hle:(1:Int)<=((r.length:Int)+1):=by omega
 clear hw hrest;go_upto_region 7 with fail;go_cut[](fun wx=>∃lv2,PsI base g lv2 vv {p with l:=r} wx/\Ch (RdM g vv) w1 wx/\wx.heap[w.heap.size]?=some (.cells #[.int .i64 0,.int .i64 0,.string ⟨#[]⟩,.slice none 0 0] 27 (0,0)));case first=>
  go_wp2_with fail;all_goals
   go_meet;first
    |exact⟨_,HPOP.o (some ⟨wb,wo+1,none⟩) (fun _=>rfl)⟩
    |
     (
      obtain rfl:cap=1:=by assumption
      exact⟨_,HPOP.o (some ⟨wb,wo,none⟩) (fun h=>absurd rfl h)⟩)
 case rest=>obtain⟨lv2,k1,k2,k3⟩:=hcut;have HI2:=zh k1;have HC2:=zh (HCH.o.trans k2 (fun b hb=> .inl hb));have HX2:=zh k3;clear b0 b1 b2 bf x0 x1 x2 x3 xf hgl HPOP;obtain⟨b0,b1,b2,bf⟩:=k1.cells;have hgl:=k1.lt.1;obtain⟨x0,x1,x2,x3,xf⟩:=Za8 k3;have hxl:=Zag k3;clear k1 k2 k3;go_wp2_with fail;refine bodyPost_ret (v:= .agg #[.int .i64 1,.int .i64 0,.string ⟨#[33]⟩,.slice none 0 0]) (by simp[results,Tryd.results30,go_sem,hcs,x0,x1,x2,x3,hgx];try rfl) rfl ?_;exact Zbl HI2.o HC2.o (VG.refl _ _) HN.o hBx (ZaA ZfV Za6 (by simp[ByteArray.size,bs]))
theorem Zfe(d:Int)(hd:I64 d/\d≠0)(c:UInt8)(q:Str)(r:List Str)(hl:p.l=(c::q)::r)(hc:Zba c=false/\upB c=false/\ZaR c=false/\c≠45/\c::q≠[33])(h:PsI base g lv vv p w):Calls Tryd.prog 30 #[.pointer (some ⟨g,0,none⟩),.int .i64 d] w (PTm base g vv (tmz,p.kill) w):=by
 have HU:=zh h;have HSP:=zh (Za7 (h.below ((zB _ _).alloc (zL _) zcells)));have hBx:g<=w.heap.size:=by have :=h.lt;omega
 have hcs:=Zay;have hd0:((d:Int)==0)=false:=by rw[beq_eq_false_iff_ne];exact hd.2
 have hdz:¬d=0:=hd.2;have HL:=zh hl;have HTK:=zh (h.tok (c::q) (by rw[hl];simp));obtain⟨S,hS⟩:∃S,S=bs (c::q):=⟨_,rfl⟩;have HSS:=zh hS;have t1:S.toList.isEmpty=false:=by rw[hS,Zaa];rfl
 have t2:¬S.toList=[]:=by rw[hS,Zaa];simp
 have t3:(S.toList==[])=false:=by rw[hS,Zaa];rfl
 have t4:0<S.size:=by rw[hS,Zab];simp
 have hg0:S[0]=c:=by subst hS;exact ZaQ c q t4
 have HG:=zh hg0;have hc0:0<=(S[0].toNat:Int):=by omega
 have hcn:¬(65<=(c.toNat:Int)/\(c.toNat:Int)<=90)/\¬(97<=(c.toNat:Int)/\(c.toNat:Int)<=122)/\(c.toNat:Int)≠45/\¬(48<=(c.toNat:Int)/\(c.toNat:Int)<=57):=by
  obtain⟨k1,k2,k3,k4,k5⟩:=hc;refine⟨fun e=>?_,fun e=>?_,fun e=>k4 (UInt8.toNat_inj.1 (by have e45:(45:UInt8).toNat=45:=rfl;omega)),fun e=>?_⟩;·rw[up_iff.2 e]at k2;cases k2
  ·rw[low_iff.2 e]at k1;cases k1
  ·rw[dig_iff.2 e]at k3;cases k3
 have HCN:=zh hcn;have f9:(S.toList==[33])=false:=by rw[hS,Zaa];simpa using hc.2.2.2.2
 have f9':¬S.toList=[33]:=by rw[hS,Zaa];exact hc.2.2.2.2
 clear hc hcn;have HF:=zh (show p.l.headD []=c::q by rw[hl];rfl);clear hd hl hS hg0;clear h;go_enter Tryd.func30,Tryd.ntmps30;go_wp2_with fail;refine HSP.o.mono ?_;rintro e w1⟨rfl,hst⟩;obtain⟨h1,c1,x1,hz1,n1⟩:=ZaK HU.o hst;have HI:=zh h1;have HCH:=zh c1;have HX:=zh x1;have HN:=zh n1;obtain⟨b0,b1,b2,bf⟩:=h1.cells;have hgl:=h1.lt.1;have hgx:¬g=w.heap.size:=fun e=>n1 (.inl e.symm);obtain⟨x0,x1,x2,x3,xf⟩:=Za8 x1;clear hst h1 c1 n1;rw[HF.o,<-HSS.o];go_upto_region 9 with fail;go_cut[38](fun o wx=>o= .bool false/\wx=w1);case first=>
  by_cases h65:(65:Int)<=(c.toNat:Int)
  ·have f2:decide ((65:Int)<=(S[0].toNat:Int))=true:=by rw[HG.o];exact decide_eq_true (by first|omega|(have :=HCN.o;omega))
   have f3:decide ((S[0].toNat:Int)<=(90:Int))=false:=by rw[HG.o];exact decide_eq_false (by first|omega|(have :=HCN.o;omega))
   clear h65;go_wp2_with fail;go_meet;case rel=>exact⟨rfl,rfl⟩
  ·have f2:decide ((65:Int)<=(S[0].toNat:Int))=false:=by rw[HG.o];exact decide_eq_false (by first|omega|(have :=HCN.o;omega))
   clear h65;go_wp2_with fail;go_meet;case rel=>exact⟨rfl,rfl⟩
 case rest=>
  obtain⟨rfl,hw1c⟩:=hcut;subst hw1c;go_upto_region 19 with fail;go_cut[86](fun o wx=>o= .bool false/\wx=wc);case first=>
   have f5:((S[0].toNat:Int)==(45:Int))=false:=by rw[HG.o];rw[beq_eq_false_iff_ne];first|omega|(have :=HCN.o;omega)
   by_cases h48:(48:Int)<=(c.toNat:Int)
   ·have f6:decide ((48:Int)<=(S[0].toNat:Int))=true:=by rw[HG.o];exact decide_eq_true (by first|omega|(have :=HCN.o;omega))
    have f7:decide ((S[0].toNat:Int)<=(57:Int))=false:=by rw[HG.o];exact decide_eq_false (by first|omega|(have :=HCN.o;omega))
    clear h48;go_wp2_with fail;go_meet;case rel=>exact⟨rfl,rfl⟩
   ·have f6:decide ((48:Int)<=(S[0].toNat:Int))=false:=by rw[HG.o];exact decide_eq_false (by first|omega|(have :=HCN.o;omega))
    clear h48;go_wp2_with fail;go_meet;case rel=>exact⟨rfl,rfl⟩
  case rest=>
   obtain⟨rfl,hw2c⟩:=hcut;subst hw2c;go_upto_region 24 with fail;go_cut[123](fun o wx=>o= .bool true/\wx=wc);case first=>
    by_cases h97:(c.toNat:Int)<(97:Int)
    ·have f2:decide ((S[0].toNat:Int)<(97:Int))=true:=by rw[HG.o];exact decide_eq_true (by first|omega|(have :=HCN.o;omega))
     clear h97;go_wp2_with fail;go_meet;case rel=>exact⟨rfl,rfl⟩
    ·have f2:decide ((S[0].toNat:Int)<(97:Int))=false:=by rw[HG.o];exact decide_eq_false (by first|omega|(have :=HCN.o;omega))
     have f3:decide ((122:Int)<(S[0].toNat:Int))=true:=by rw[HG.o];exact decide_eq_true (by first|omega|(have :=HCN.o;omega))
     clear h97;go_wp2_with fail;go_meet;case rel=>exact⟨rfl,rfl⟩
   case rest=>obtain⟨rfl,hw3c⟩:=hcut;subst hw3c;go_wp2_with fail;refine bodyPost_ret (v:= .agg #[.int .i64 0,.int .i64 0,.string ⟨#[]⟩,.slice none 0 0]) (by simp[results,Tryd.results30,go_sem,hcs,x0,x1,x2,x3,hgx];try rfl) rfl ?_;obtain⟨k1,k2⟩:=HI.o.setBad true;exact Zbl k1 (HCH.o.trans k2 (fun b hb=> .inl hb)) (VG.refl _ _) HN.o hBx (ZaA Za6 Za6 (by simp[ByteArray.size]))
theorem ZcO{t:Str}{k:Int}(hd:Digs (Zaq t))(h:some k=Za3 t): -1099511627776<=k/\k<=1099511627776:=by
 have h0:=ZdE hd;have h1:(0:Int)<=(Zbj (Zaq t):Int):=zN _;unfold Za3 at h;split at h;·cases h
 ·split at h;·cases h
  ·simp only[Option.some.injEq]at h;subst h;split<;>omega
def Zgp(t:Str)(p:Ps):Tm×Ps:=match Za3 t with|some k=>(.mk 2 k ⟨#[]⟩ [],p)|none=>(.mk 2 0 ⟨#[]⟩ [],p.kill)
theorem Zey(d:Int)(hd:I64 d/\d≠0)(c:UInt8)(q:Str)(r:List Str)(hl:p.l=(c::q)::r)(hc:(c.toNat:Int)=45)(h:PsI base g lv vv p w):Calls Tryd.prog 30 #[.pointer (some ⟨g,0,none⟩),.int .i64 d] w (PTm base g vv (Zgp (c::q) {p with l:=r}) w):=by
 have HU:=zh h;have HSP:=zh (Za7 (h.below ((zB _ _).alloc (zL _) zcells)));have hBx:g<=w.heap.size:=by have :=h.lt;omega
 have hcs:=Zay;have hd0:((d:Int)==0)=false:=by rw[beq_eq_false_iff_ne];exact hd.2
 have hdz:¬d=0:=hd.2;have HL:=zh hl;have HTK:=zh (h.tok (c::q) (by rw[hl];simp));obtain⟨S,hS⟩:∃S,S=bs (c::q):=⟨_,rfl⟩;have HSS:=zh hS;have t1:S.toList.isEmpty=false:=by rw[hS,Zaa];rfl
 have t2:¬S.toList=[]:=by rw[hS,Zaa];simp
 have t3:(S.toList==[])=false:=by rw[hS,Zaa];rfl
 have t4:0<S.size:=by rw[hS,Zab];simp
 have hg0:S[0]=c:=by subst hS;exact ZaQ c q t4
 have HG:=zh hg0;have hc0:0<=(S[0].toNat:Int):=by omega
 have f9:(S.toList==[33])=false:=by rw[hS,Zaa,beq_eq_false_iff_ne];intro e;simp only[List.cons.injEq]at e;rw[e.1]at hc;exact absurd hc (by decide)
 have f9':¬S.toList=[33]:=by rw[hS,Zaa];intro e;simp only[List.cons.injEq]at e;rw[e.1]at hc;exact absurd hc (by decide)
 have f2:decide ((65:Int)<=(S[0].toNat:Int))=false:=by rw[hg0];exact decide_eq_false (by omega)
 have f5:((S[0].toNat:Int)==(45:Int))=true:=by rw[hg0];rw[beq_iff_eq];omega
 have HCC:=zh (show c=45\/ZaR c=true from .inl (UInt8.toNat_inj.1 (by have e45:(45:UInt8).toNat=45:=rfl;omega)));clear hc;have HF:=zh (show p.l.headD []=c::q by rw[hl];rfl);clear hd hl hS hg0;clear h;go_enter Tryd.func30,Tryd.ntmps30;go_wp2_with fail;refine HSP.o.mono ?_;rintro e w1⟨rfl,hst⟩;obtain⟨h1,c1,x1,hz1,n1⟩:=ZaK HU.o hst;have HI:=zh h1;have HCH:=zh c1;have HX:=zh x1;have HN:=zh n1;obtain⟨b0,b1,b2,bf⟩:=h1.cells;have hgl:=h1.lt.1;have hgx:¬g=w.heap.size:=fun e=>n1 (.inl e.symm);obtain⟨x0,x1,x2,x3,xf⟩:=Za8 x1;clear hst h1 c1 n1;rw[HF.o,<-HSS.o];go_wp2_with fail;have HVAL:=zh (Zdl (c::q) HTK.o.1 (HTK.o.2 c q rfl HCC.o) w1);rw[<-HSS.o]at HVAL;refine HVAL.o.mono ?_;rintro e w2⟨v,rfl,hb2,rfl⟩;have HI1:=zh (HI.o.below hb2);have HC1:=zh (HCH.o.tb hb2);have HX1:=zh (Zan HX.o hb2);clear b0 b1 b2 bf hgl hb2 HVAL;obtain⟨b0,b1,b2,bf⟩:=HI1.o.cells;have hgl:=HI1.o.lt.1;obtain⟨vk,hvk⟩:∃vk,vk=Za3 (c::q):=⟨_,rfl⟩;have HNP:=zh (show Zgp (c::q) {p with l:=r}=(.mk 2 (vk.getD 0) ⟨#[]⟩ [],{p with l:=r,bad:=p.bad||!vk.isSome})by unfold Zgp;rw[<-hvk];cases vk with|none=>show _=(_,(⟨r,p.vars,p.bad||true⟩:Ps));rw[Bool.or_true];rfl|some k=>show _=(_,(⟨r,p.vars,p.bad||false⟩:Ps));rw[Bool.or_false];rfl);have hvb:I64 (vk.getD 0):=by cases hx:vk with|none=>exact Za6|some k=>rw[hx]at hvk;have :=ZcO (HTK.o.2 c q rfl HCC.o) hvk;show I64 k;unfold I64;omega
 have HVB:=zh hvb;rw[<-hvk];clear hvk hvb;obtain⟨vs,hvs⟩:∃vs,vs=vk.isSome:=⟨_,rfl⟩;rw[<-hvs]at HNP ⊢;clear hvs;go_upto_region 21 with fail;go_cut[10](fun o wx=>o= .bool vs/\PsI base g lv vv {p with bad:=p.bad||!vs} wx/\Ch (RdM g vv) w2 wx/\wx.heap[w.heap.size]?=some (.cells #[.int .i64 0,.int .i64 0,.string ⟨#[]⟩,.slice none 0 0] 27 (0,0)));case first=>
  have HST:=zh (fun t=>HI1.o.setBad t);have HXS:=zh (fun t=>(((HI1.o.setBad t).2.block _ (Zag HX1.o) HN.o).trans HX1.o));by_cases hpb:p.bad=true;·have e9:=zh (show(p.bad||!vs)=true by rw[hpb];rfl);rw[hpb]at b2;clear hpb;go_wp2_with fail;go_meet;case rel=>rw[e9.out];exact⟨rfl,(HST.o true).1,(HST.o true).2,HXS.o true⟩
  ·have hpf:p.bad=false:=by simpa using hpb
   rw[hpf]at b2;by_cases hvs:vs=true;·have e9:=zh (show(p.bad||!vs)=false by rw[hpf,hvs];rfl);have HVS:=zh hvs;clear hpb hpf;go_wp2_with fail;go_meet;case rel=>rw[e9.out];exact⟨by rw[HVS.o],(HST.o false).1,(HST.o false).2,HXS.o false⟩
   ·have hvf:vs=false:=by simpa using hvs
    have e9:=zh (show(p.bad||!vs)=true by rw[hpf,hvf];rfl);have HVS:=zh hvf;clear hpb hpf hvs;go_wp2_with fail;go_meet;case rel=>rw[e9.out];exact⟨by rw[HVS.o],(HST.o true).1,(HST.o true).2,HXS.o true⟩
 case rest=>
  obtain⟨rfl,k1,k2,k3⟩:=hcut;have HI3:=zh k1;have HC3:=zh (HC1.o.trans k2 (fun b hb=> .inl hb));have HX3:=zh k3;clear b0 b1 b2 bf hgl;obtain⟨b0,b1,b2,bf⟩:=HI3.o.cells;have hgl:=HI3.o.lt.1;clear k1 k2 k3 HI1 HX1 HC1;obtain⟨p3,hp3⟩:∃p3:Ps,p3={p with bad:=p.bad||!vs}:=⟨_,rfl⟩;have HP3:=zh hp3;have HL3:=zh (show p3.l=(c::q)::r by rw[hp3];exact HL.o);rw[<-hp3]at HI3 b2;clear hp3;have hw:=HI3.o.wd;rw[HL3.o]at hw;obtain⟨wb,wo,cap,hlv,hlc,hcm, -,hbl,hwc,hrest⟩:=ZbS hw;subst hlv;have HPOP:=zh (fun(a':Option Addr)(ha:cap≠1->a'=some ⟨wb,wo+1,none⟩)=>Zfd HI3.o HL3.o (hrest a' ha) HX3.o HN.o);unfold maxLen at hcm;have hle:(1:Int)<=((r.length:Int)+1):=by omega
  clear hw hrest;go_upto_region 22 with fail;go_cut[](fun wx=>∃lv2,PsI base g lv2 vv {p3 with l:=r} wx/\Ch (RdM g vv) wc wx/\wx.heap[w.heap.size]?=some (.cells #[.int .i64 0,.int .i64 0,.string ⟨#[]⟩,.slice none 0 0] 27 (0,0)));case first=>
   go_wp2_with fail;all_goals
    go_meet;first
     |exact⟨_,HPOP.o (some ⟨wb,wo+1,none⟩) (fun _=>rfl)⟩
     |
      (
       obtain rfl:cap=1:=by assumption
       exact⟨_,HPOP.o (some ⟨wb,wo,none⟩) (fun h=>absurd rfl h)⟩)
  case rest=>
   obtain⟨lv2,k1,k2,k3⟩:=hcut;have HI2:=zh k1;have HC2:=zh (HC3.o.trans k2 (fun b hb=> .inl hb));have HX2:=zh k3;clear b0 b1 b2 bf x0 x1 x2 x3 xf hgl HPOP;obtain⟨b0,b1,b2,bf⟩:=k1.cells;have hgl:=k1.lt.1;obtain⟨x0,x1,x2,x3,xf⟩:=Za8 k3;have hxl:=Zag k3;clear k1 k2 k3;go_wp2_with fail;rw[HNP.o];have e3:({p3 with l:=r}:Ps)={p with l:=r,bad:=p.bad||!vs}:=by rw[HP3.o]
   rw[<-e3];refine bodyPost_ret (v:= .agg #[.int .i64 2,.int .i64 (vk.getD 0),.string ⟨#[]⟩,.slice none 0 0]) (by simp[results,Tryd.results30,go_sem,hcs,x0,x1,x2,x3,hgx];try rfl) rfl ?_;exact Zbl HI2.o HC2.o (VG.refl _ _) HN.o hBx (ZaA Zet HVB.o (by simp[ByteArray.size]))
theorem Zez(d:Int)(hd:I64 d/\d≠0)(c:UInt8)(q:Str)(r:List Str)(hl:p.l=(c::q)::r)(hc:48<=(c.toNat:Int)/\(c.toNat:Int)<=57)(h:PsI base g lv vv p w):Calls Tryd.prog 30 #[.pointer (some ⟨g,0,none⟩),.int .i64 d] w (PTm base g vv (Zgp (c::q) {p with l:=r}) w):=by
 have HU:=zh h;have HSP:=zh (Za7 (h.below ((zB _ _).alloc (zL _) zcells)));have hBx:g<=w.heap.size:=by have :=h.lt;omega
 have hcs:=Zay;have hd0:((d:Int)==0)=false:=by rw[beq_eq_false_iff_ne];exact hd.2
 have hdz:¬d=0:=hd.2;have HL:=zh hl;have HTK:=zh (h.tok (c::q) (by rw[hl];simp));obtain⟨S,hS⟩:∃S,S=bs (c::q):=⟨_,rfl⟩;have HSS:=zh hS;have t1:S.toList.isEmpty=false:=by rw[hS,Zaa];rfl
 have t2:¬S.toList=[]:=by rw[hS,Zaa];simp
 have t3:(S.toList==[])=false:=by rw[hS,Zaa];rfl
 have t4:0<S.size:=by rw[hS,Zab];simp
 have hg0:S[0]=c:=by subst hS;exact ZaQ c q t4
 have HG:=zh hg0;have hc0:0<=(S[0].toNat:Int):=by omega
 have f9:(S.toList==[33])=false:=by rw[hS,Zaa,beq_eq_false_iff_ne];intro e;simp only[List.cons.injEq]at e;rw[e.1]at hc;exact absurd hc (by decide)
 have f9':¬S.toList=[33]:=by rw[hS,Zaa];intro e;simp only[List.cons.injEq]at e;rw[e.1]at hc;exact absurd hc (by decide)
 obtain⟨hc1,hc2⟩:=hc;have f2:decide ((65:Int)<=(S[0].toNat:Int))=false:=by rw[hg0];exact decide_eq_false (by omega)
 have f5:((S[0].toNat:Int)==(45:Int))=false:=by rw[hg0];rw[beq_eq_false_iff_ne];omega
 have f6:decide ((48:Int)<=(S[0].toNat:Int))=true:=by rw[hg0];exact decide_eq_true (by omega)
 have f7:decide ((S[0].toNat:Int)<=(57:Int))=true:=by rw[hg0];exact decide_eq_true (by omega)
 have HCC:=zh (show c=45\/ZaR c=true from .inr (dig_iff.2 ⟨hc1,hc2⟩));clear hc1 hc2;have HF:=zh (show p.l.headD []=c::q by rw[hl];rfl);clear hd hl hS hg0;clear h;go_enter Tryd.func30,Tryd.ntmps30;go_wp2_with fail;refine HSP.o.mono ?_;rintro e w1⟨rfl,hst⟩;obtain⟨h1,c1,x1,hz1,n1⟩:=ZaK HU.o hst;have HI:=zh h1;have HCH:=zh c1;have HX:=zh x1;have HN:=zh n1;obtain⟨b0,b1,b2,bf⟩:=h1.cells;have hgl:=h1.lt.1;have hgx:¬g=w.heap.size:=fun e=>n1 (.inl e.symm);obtain⟨x0,x1,x2,x3,xf⟩:=Za8 x1;clear hst h1 c1 n1;rw[HF.o,<-HSS.o];go_wp2_with fail;have HVAL:=zh (Zdl (c::q) HTK.o.1 (HTK.o.2 c q rfl HCC.o) w1);rw[<-HSS.o]at HVAL;refine HVAL.o.mono ?_;rintro e w2⟨v,rfl,hb2,rfl⟩;have HI1:=zh (HI.o.below hb2);have HC1:=zh (HCH.o.tb hb2);have HX1:=zh (Zan HX.o hb2);clear b0 b1 b2 bf hgl hb2 HVAL;obtain⟨b0,b1,b2,bf⟩:=HI1.o.cells;have hgl:=HI1.o.lt.1;obtain⟨vk,hvk⟩:∃vk,vk=Za3 (c::q):=⟨_,rfl⟩;have HNP:=zh (show Zgp (c::q) {p with l:=r}=(.mk 2 (vk.getD 0) ⟨#[]⟩ [],{p with l:=r,bad:=p.bad||!vk.isSome})by unfold Zgp;rw[<-hvk];cases vk with|none=>show _=(_,(⟨r,p.vars,p.bad||true⟩:Ps));rw[Bool.or_true];rfl|some k=>show _=(_,(⟨r,p.vars,p.bad||false⟩:Ps));rw[Bool.or_false];rfl);have hvb:I64 (vk.getD 0):=by cases hx:vk with|none=>exact Za6|some k=>rw[hx]at hvk;have :=ZcO (HTK.o.2 c q rfl HCC.o) hvk;show I64 k;unfold I64;omega
 have HVB:=zh hvb;rw[<-hvk];clear hvk hvb;obtain⟨vs,hvs⟩:∃vs,vs=vk.isSome:=⟨_,rfl⟩;rw[<-hvs]at HNP ⊢;clear hvs;go_upto_region 21 with fail;go_cut[10](fun o wx=>o= .bool vs/\PsI base g lv vv {p with bad:=p.bad||!vs} wx/\Ch (RdM g vv) w2 wx/\wx.heap[w.heap.size]?=some (.cells #[.int .i64 0,.int .i64 0,.string ⟨#[]⟩,.slice none 0 0] 27 (0,0)));case first=>
  have HST:=zh (fun t=>HI1.o.setBad t);have HXS:=zh (fun t=>(((HI1.o.setBad t).2.block _ (Zag HX1.o) HN.o).trans HX1.o));by_cases hpb:p.bad=true;·have e9:=zh (show(p.bad||!vs)=true by rw[hpb];rfl);rw[hpb]at b2;clear hpb;go_wp2_with fail;go_meet;case rel=>rw[e9.out];exact⟨rfl,(HST.o true).1,(HST.o true).2,HXS.o true⟩
  ·have hpf:p.bad=false:=by simpa using hpb
   rw[hpf]at b2;by_cases hvs:vs=true;·have e9:=zh (show(p.bad||!vs)=false by rw[hpf,hvs];rfl);have HVS:=zh hvs;clear hpb hpf;go_wp2_with fail;go_meet;case rel=>rw[e9.out];exact⟨by rw[HVS.o],(HST.o false).1,(HST.o false).2,HXS.o false⟩
   ·have hvf:vs=false:=by simpa using hvs
    have e9:=zh (show(p.bad||!vs)=true by rw[hpf,hvf];rfl);have HVS:=zh hvf;clear hpb hpf hvs;go_wp2_with fail;go_meet;case rel=>rw[e9.out];exact⟨by rw[HVS.o],(HST.o true).1,(HST.o true).2,HXS.o true⟩
 case rest=>
  obtain⟨rfl,k1,k2,k3⟩:=hcut;have HI3:=zh k1;have HC3:=zh (HC1.o.trans k2 (fun b hb=> .inl hb));have HX3:=zh k3;clear b0 b1 b2 bf hgl;obtain⟨b0,b1,b2,bf⟩:=HI3.o.cells;have hgl:=HI3.o.lt.1;clear k1 k2 k3 HI1 HX1 HC1;obtain⟨p3,hp3⟩:∃p3:Ps,p3={p with bad:=p.bad||!vs}:=⟨_,rfl⟩;have HP3:=zh hp3;have HL3:=zh (show p3.l=(c::q)::r by rw[hp3];exact HL.o);rw[<-hp3]at HI3 b2;clear hp3;have hw:=HI3.o.wd;rw[HL3.o]at hw;obtain⟨wb,wo,cap,hlv,hlc,hcm, -,hbl,hwc,hrest⟩:=ZbS hw;subst hlv;have HPOP:=zh (fun(a':Option Addr)(ha:cap≠1->a'=some ⟨wb,wo+1,none⟩)=>Zfd HI3.o HL3.o (hrest a' ha) HX3.o HN.o);unfold maxLen at hcm;have hle:(1:Int)<=((r.length:Int)+1):=by omega
  clear hw hrest;go_upto_region 22 with fail;go_cut[](fun wx=>∃lv2,PsI base g lv2 vv {p3 with l:=r} wx/\Ch (RdM g vv) wc wx/\wx.heap[w.heap.size]?=some (.cells #[.int .i64 0,.int .i64 0,.string ⟨#[]⟩,.slice none 0 0] 27 (0,0)));case first=>
   go_wp2_with fail;all_goals
    go_meet;first
     |exact⟨_,HPOP.o (some ⟨wb,wo+1,none⟩) (fun _=>rfl)⟩
     |
      (
       obtain rfl:cap=1:=by assumption
       exact⟨_,HPOP.o (some ⟨wb,wo,none⟩) (fun h=>absurd rfl h)⟩)
  case rest=>
   obtain⟨lv2,k1,k2,k3⟩:=hcut;have HI2:=zh k1;have HC2:=zh (HC3.o.trans k2 (fun b hb=> .inl hb));have HX2:=zh k3;clear b0 b1 b2 bf x0 x1 x2 x3 xf hgl HPOP;obtain⟨b0,b1,b2,bf⟩:=k1.cells;have hgl:=k1.lt.1;obtain⟨x0,x1,x2,x3,xf⟩:=Za8 k3;have hxl:=Zag k3;clear k1 k2 k3;go_wp2_with fail;rw[HNP.o];have e3:({p3 with l:=r}:Ps)={p with l:=r,bad:=p.bad||!vs}:=by rw[HP3.o]
   rw[<-e3];refine bodyPost_ret (v:= .agg #[.int .i64 2,.int .i64 (vk.getD 0),.string ⟨#[]⟩,.slice none 0 0]) (by simp[results,Tryd.results30,go_sem,hcs,x0,x1,x2,x3,hgx];try rfl) rfl ?_;exact Zbl HI2.o HC2.o (VG.refl _ _) HN.o hBx (ZaA Zet HVB.o (by simp[ByteArray.size]))
end
end Go.Proofs.YtlpmfkpefoegeacDoor
