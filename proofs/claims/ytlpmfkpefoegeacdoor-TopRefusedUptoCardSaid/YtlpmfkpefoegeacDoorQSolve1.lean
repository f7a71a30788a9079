import Derived.Test.YtlpmfkpefoegeacDoorQOwn
import Derived.Test.YtlpmfkpefoegeacDoorHLoad
import Derived.Test.YtlpmfkpefoegeacDoorQIsHeap
import Derived.Test.YtlpmfkpefoegeacDoorQCopy
namespace Go.Proofs.YtlpmfkpefoegeacDoor
set_option maxRecDepth 100000
set_option maxHeartbeats 16000000
set_option linter.all false
open Go.RowKit
def ZpA{α:Type}(f:α->List Value)(ok:α->Prop)(E:TypeId)(size:Nat)(base:Nat)(l:List α)(r:Value)(w':World):Prop:=OwnF f ok E size w' base l r
theorem ZeF(l:List Ce)(A:Nat->Prop)(w:World)(v:Value)(hv:SlR 3 Ce.rep A w l v):Calls Tryd.prog 72 #[v] w (Pure w (ZpA Ce.vals Ce.Ok 112 3 w.heap.size l)):=by
 obtain⟨a,cap,b,off,rfl,hlc,hcm,hlb,ha,he⟩:=hv.at;have HV:=zh hv;clear hv he;have qT:∀(w:World)(a:Option Addr)(n c:Nat),(binOp .eql 80 (.slice a n c) (.slice none 0 0)).run Tryd.prog w= .ok (.bool a.isNone) w:=fun w a n c=>Lib.run_eql_slice_nil w _ _ a n c _ _ Tryd.underlying80;cases a with
  |none=>
   have h0:l=[]:=by cases l with|nil=>rfl|cons x r=>have :=(ha (by simp)).1;cases this
   subst h0;go_enter Tryd.func72,Tryd.ntmps72;go_wp2_with fail;go_ret;exact⟨_,rfl,zB _ _,OwnF.nil⟩
  |some p=>have HA:=zh ha;clear ha;have HSL:Hd (∀w',Below w.heap.size w w'->∀g,w.heap.size<=g->SlR 3 Ce.rep (fun b=>True/\Zai (.slice (some ⟨g,0,none⟩) 0 0)≠some b) w' l (.slice (some p) l.length cap)):=fun w' hb g hg=>SlR.mono Ce.rep_lasts (by omega) (SlR.keeps Ce.rep_lasts HV.o (Keeps.ob hb)) (fun b _ _=>⟨trivial,by simp[Zai]⟩);go_enter Tryd.func72,Tryd.ntmps72;go_wp2_with(at_builtin;refine Zee rfl (.tmp 5) (.tmp 6) 80 rfl w.heap.size 112 3 32 Zdn Ce.rep_lasts (A:=fun _=>True) (.slice (some ⟨w.heap.size,0,none⟩) 0 0) [] rfl ((OwnF.ownR Ce.vals_len (ok:=Ce.Ok) (l:=[]) ⟨⟨by simp,.inl ⟨rfl,_,rfl⟩⟩,fun x h=>by simp at h⟩ _)) _ rfl l (HSL.o _ ((zB _ _).alloc (zL _) _) _ (zL _)) (by simp;omega) (by simp) ?_;intro v2 w2 hown hgrew);go_ret;exact⟨_,rfl,hgrew.below ((zB _ _).alloc (zL _) _) (by simp) (fun k h=>by simp[Zai]at h),OwnF.of_ownR hown⟩
theorem Zf8(l:List Int)(A:Nat->Prop)(w:World)(v:Value)(hv:SlR 1 ZhR A w l v):Calls Tryd.prog 118 #[v] w (Pure w (ZpA ZmM I64 3 1 w.heap.size l)):=by
 obtain⟨a,cap,b,off,rfl,hlc,hcm,hlb,ha,he⟩:=hv.at;have HV:=zh hv;clear hv he;have qT:∀(w:World)(a:Option Addr)(n c:Nat),(binOp .eql 43 (.slice a n c) (.slice none 0 0)).run Tryd.prog w= .ok (.bool a.isNone) w:=fun w a n c=>Lib.run_eql_slice_nil w _ _ a n c _ _ Tryd.underlying43;cases a with
  |none=>
   have h0:l=[]:=by cases l with|nil=>rfl|cons x r=>have :=(ha (by simp)).1;cases this
   subst h0;go_enter Tryd.func118,Tryd.ntmps118;go_wp2_with fail;go_ret;exact⟨_,rfl,zB _ _,OwnF.nil⟩
  |some p=>have HA:=zh ha;clear ha;have HSL:Hd (∀w',Below w.heap.size w w'->∀g,w.heap.size<=g->SlR 1 ZhR (fun b=>True/\Zai (.slice (some ⟨g,0,none⟩) 0 0)≠some b) w' l (.slice (some p) l.length cap)):=fun w' hb g hg=>SlR.mono Zab (by omega) (SlR.keeps Zab HV.o (Keeps.ob hb)) (fun b _ _=>⟨trivial,by simp[Zai]⟩);go_enter Tryd.func118,Tryd.ntmps118;go_wp2_with(at_builtin;refine Zee rfl (.tmp 5) (.tmp 6) 43 rfl w.heap.size 3 1 8 Zbd Zab (A:=fun _=>True) (.slice (some ⟨w.heap.size,0,none⟩) 0 0) [] rfl ((OwnF.ownR Zat (ok:=I64) (l:=[]) ⟨⟨by simp,.inl ⟨rfl,_,rfl⟩⟩,fun x h=>by simp at h⟩ _)) _ rfl l (HSL.o _ ((zB _ _).alloc (zL _) _) _ (zL _)) (by simp;omega) (by simp) ?_;intro v2 w2 hown hgrew);go_ret;exact⟨_,rfl,hgrew.below ((zB _ _).alloc (zL _) _) (by simp) (fun k h=>by simp[Zai]at h),OwnF.of_ownR hown⟩
def HpNE(A:Nat->Prop)(x:Hp×Int×Int)(r:Value)(w':World):Prop:=∃us,r= .tuple #[.agg us.toArray,.int .i64 x.2.1,.int .i64 x.2.2]/\Hp.rep A w' x.1 us
theorem Hp.rep_block{A:Nat->Prop}{w:World}{bl:List Ce}{v:Value}(hv:CesR A w bl v):Hp.rep A w ⟨bl,[]⟩ [v,.slice none 0 0]:=⟨v,_,rfl,hv,SlR.nil ..⟩
theorem Pure.mk{w w':World}{R:Value->World->Prop}{v:Value}(hb:Below w.heap.size w w')(hr:R v w'):Pure w R (.returned v) w':=⟨v,rfl,hb,hr⟩
theorem Zcj{w:World}{g:Nat}{E:TypeId}{v0 v1:Value}(h:w.heap[g]?=some (.cells #[v0,v1] E (0,0))):w.cell? ⟨g,0,none⟩=some v0/\w.cell? ⟨g,1,none⟩=some v1/\∀o,w.frozen? ⟨g,o,none⟩=false:=⟨(Zao h 0).trans rfl,(Zao h 1).trans rfl,fun o=>by simp[World.frozen?,h]⟩
theorem HpNE.old{A:Nat->Prop}{w w':World}{h:Hp}{vs:List Value}{n e:Int}(hh:Hp.rep A w h vs)(hb:Below w.heap.size w w'):HpNE (fun b=>A b\/New w b) (h,n,e) (.tuple #[.agg vs.toArray,.int .i64 n,.int .i64 e]) w':=⟨vs,rfl,Hp.rep.mono (Hp.rep.keeps hh (Keeps.ob hb)) (fun _ _ h=> .inl h)⟩
theorem OwnR.val'{α:Type}{w:World}{base:Nat}{E:TypeId}{size:Nat}{R:(Nat->Prop)->World->α->List Value->Prop}{A:Nat->Prop}{xs:List α}{v:Value}(h:OwnR w base E size R A xs v):∃a cap,v= .slice a xs.length cap/\xs.length<=cap/\cap<=maxLen:=by
 obtain⟨vals,hl,ho,he⟩:=h;rcases ho.2 with⟨h0,a,rfl⟩|⟨g,cap,cur,rfl,hc,hb,hg,hnc,hcm,_⟩;·exact⟨a,0,by rw[h0],by omega,by simp[maxLen]⟩
 ·exact⟨_,cap,rfl,hnc,hcm⟩
theorem OwnC.val'{w:World}{base:Nat}{l:List Ce}{v:Value}(h:OwnC w base l v):∃a cap,v= .slice a l.length cap/\l.length<=cap/\cap<=maxLen:=OwnF.val h
def ZpR(w:World)(base:Nat)(X1 X2:Obj)(l:List Ce)(v:Value)(wr:World):Prop:=Below w.heap.size w wr/\wr.heap[w.heap.size]?=some X1/\wr.heap[w.heap.size+1]?=some X2/\OwnC wr base l v
theorem CesR.sl_of{w:World}{base:Nat}{l:List Ce}{v:Value}{A:Nat->Prop}(h:OwnC w base l v)(hl:l.length<=1048576)(hA:∀b,Zai v=some b->A b):CesR A w l v:=OwnF.sl Ce.vals_len Ce.vals_one h hl hA
theorem ZiU(h:Hp)(bl:List Ce)(A:Nat->Prop)(w:World)(vs:List Value)(v:Value)(hh:Hp.rep A w h vs)(hv:CesR A w bl v):Calls Tryd.prog 56 #[.agg vs.toArray,v] w (Pure w (HpNE (fun b=>A b\/New w b) (Zbz h bl))):=by
 obtain⟨a,cap,b,tap,rfl,hc1,hc2,hc3,ht1,ht2,ht3,hc,ht⟩:=Hp.rep2 hh;obtain⟨a',cap',b',off',rfl,hlc',hcm',hlb', -, -⟩:=hv.at;have HH:=zh hh;have HC:=zh hc;have HV:=zh hv;have HG1:=zh (fun w'(hk:Keeps A w w')=>Zdk h A w' _ (Hp.rep.keeps hh hk));have HG2:=zh (fun w'(hk:Keeps A w w')=>Zdk ⟨bl,[]⟩ A w' _ (Hp.rep.keeps (Hp.rep_block hv) hk));have HTR:=zh ht;clear hh hv hc ht;go_enter Tryd.func56,Tryd.ntmps56;go_wp2_with fail;refine(HG1.o _ ((Keeps.alloc _ _ _).trans (Keeps.alloc _ _ _))).mono ?_;rintro e w1⟨v,rfl,hb1,t,rfl,ht⟩;have h2:=Zdc w (.cells #[.slice a h.cells.length cap,.slice b h.trail.length tap] 82) (.cells #[.slice none 0 0,.slice none 0 0] 82);have HX1:=zh (Zad h2.1 hb1);have HX2:=zh (Zad h2.2 hb1);have HB:=zh (show Below w.heap.size w w1 from ZaA (ZaA (hb1.mono (by simp))));have hz:w.heap.size+1<w1.heap.size:=by have :=hb1.size;simp at this;omega
 have hz':w.heap.size<w1.heap.size:=by omega
 have HT:=zh ht;have hcs:=Zap;clear h2 hb1 ht;obtain⟨x0,x1,xf⟩:=Zcj HX1.o;obtain⟨y0,y1,yf⟩:=Zcj HX2.o;cases t with
  |false=>
   go_wp2_with fail;refine bodyPost_ret (v:= .tuple #[.agg #[.slice a h.cells.length cap,.slice b h.trail.length tap],.int .i64 0,.int .i64 1]) (by simp[results,Tryd.results56,go_sem,hcs,x0,x1,y0,y1]) rfl ?_;have hg:¬(h.Good/\Hp.Good ⟨bl,[]⟩):=fun hg=>by have :=HT.o.2 hg.1;cases this
   have hb:Below w.heap.size w ((w1.setCell ⟨w.heap.size+1,0,none⟩ (.slice a h.cells.length cap)).setCell ⟨w.heap.size+1,1,none⟩ (.slice b h.trail.length tap)):=Below.setCell (Below.setCell HB.o (by simp) _) (by simp) _;rw[Zbz,if_pos hg];exact Pure.mk hb (HpNE.old HH.o hb)
  |true=>
   have HT1:=zh (HT.o.1 rfl);clear HT;go_wp2_with fail;refine(HG2.o _ (Keeps.ob HB.o)).mono ?_;rintro e w2⟨v,rfl,hb2,t,rfl,ht⟩;have HX1':=zh (Zad HX1.o hb2);have HX2':=zh (Zad HX2.o hb2);have HB':=zh (show Below w.heap.size w w2 from HB.o.trans (hb2.mono (by omega)));have hz2:w.heap.size+1<w2.heap.size:=by have :=hb2.size;omega
   have hz2':w.heap.size<w2.heap.size:=by omega
   have HT':=zh ht;clear ht x0 x1 xf y0 y1 yf hb2;obtain⟨x0,x1,xf⟩:=Zcj HX1'.o;obtain⟨y0,y1,yf⟩:=Zcj HX2'.o;cases t with
    |false=>
     go_wp2_with fail;refine bodyPost_ret (v:= .tuple #[.agg #[.slice a h.cells.length cap,.slice b h.trail.length tap],.int .i64 0,.int .i64 1]) (by simp[results,Tryd.results56,go_sem,hcs,x0,x1,y0,y1]) rfl ?_;have hg:¬(h.Good/\Hp.Good ⟨bl,[]⟩):=fun hg=>by have :=HT'.o.2 hg.2;cases this
     have hb:Below w.heap.size w ((w2.setCell ⟨w.heap.size+1,0,none⟩ (.slice a h.cells.length cap)).setCell ⟨w.heap.size+1,1,none⟩ (.slice b h.trail.length tap)):=Below.setCell (Below.setCell HB'.o (by simp) _) (by simp) _;rw[Zbz,if_pos hg];exact Pure.mk hb (HpNE.old HH.o hb)
    |true=>
     have hg:h.Good/\Hp.Good ⟨bl,[]⟩:=⟨HT1.o,HT'.o.1 rfl⟩;have HG:=zh hg;have hl1:h.cells.length<=65536:=hg.1.2.2.1;have hl2:bl.length<=65536:=hg.2.2.2.1;clear hg;by_cases hbig:65536<h.cells.length+bl.length
     ·have hbig':(65536:Int)<h.cells.length+bl.length:=by omega
      go_wp2_with fail;refine bodyPost_ret (v:= .tuple #[.agg #[.slice a h.cells.length cap,.slice b h.trail.length tap],.int .i64 0,.int .i64 3]) (by simp[results,Tryd.results56,go_sem,hcs,x0,x1,y0,y1]) rfl ?_;have hb:Below w.heap.size w ((w2.setCell ⟨w.heap.size+1,0,none⟩ (.slice a h.cells.length cap)).setCell ⟨w.heap.size+1,1,none⟩ (.slice b h.trail.length tap)):=Below.setCell (Below.setCell HB'.o (by simp) _) (by simp) _;rw[Zbz,if_neg (not_not_intro HG.o),if_pos hbig];exact Pure.mk hb (HpNE.old HH.o hb)
     ·have hbig':(h.cells.length:Int)+bl.length<=65536:=by omega
      go_wp2_with fail;refine(ZeF h.cells A _ _ (SlR.keeps Ce.rep_lasts HC.o (Keeps.ob HB'.o))).mono ?_;rintro e w3⟨v,rfl,hb3,hown⟩;obtain⟨ca,cc,rfl,hcl,hcm⟩:=OwnC.val' hown;have HX1'':=zh (Zad HX1'.o hb3);have HX2'':=zh (Zad HX2'.o hb3);have HB'':=zh (show Below w.heap.size w w3 from HB'.o.trans (hb3.mono (by omega)));have hz3:w2.heap.size<=w3.heap.size:=hb3.size;have HO:=zh (OwnF.ownR Ce.vals_len hown (fun _=>True));have HSL:Hd (CesR (fun b=>True/\Zai (.slice ca h.cells.length cc)≠some b) w3 bl (.slice a' bl.length cap')):=by have h1:=SlR.mono (A':=fun b=>A b/\b<w.heap.size) Ce.rep_lasts (by omega) HV.o (fun b hb h=>⟨h,hb⟩);exact SlR.mono Ce.rep_lasts (by omega) (SlR.keeps Ce.rep_lasts h1 (Keeps.ob HB''.o)) (fun b _ hb=>⟨trivial,fun e=>by have :=(OwnF.lt hown b e).1;omega⟩)
      clear hown hb3 x0 x1 xf y0 y1 yf;obtain⟨x0,x1,xf⟩:=Zcj HX1''.o;obtain⟨y0,y1,yf⟩:=Zcj HX2''.o;go_wp2_with(at_builtin;refine Zee rfl (.tmp 31) (.tmp 32) 80 rfl w2.heap.size 112 3 32 Zdn Ce.rep_lasts (A:=fun _=>True) (.slice ca h.cells.length cc) h.cells rfl HO.o _ rfl bl HSL.o (by omega) hz3 ?_;intro v2 w4 hown hgrew;obtain⟨va,vc,hv2,hvl,hvm⟩:=OwnR.val' hown;rw[List.length_append]at hv2 hvl;subst hv2;have HO4:=zh (OwnF.of_ownR hown);have HG4:=zh hgrew;have hz4:=hgrew.size;clear hown hgrew);have hbb:h.cells.length<=(h.cells++bl).length:=by simp
      have HGC:=zh HG.o.2.1;have HLen:=zh (show(h.cells++bl).length=h.cells.length+bl.length from List.length_append);have hN:(h.cells++bl).length<=65536:=by rw[HLen.o];omega
      have hBW4:Below w.heap.size w w4:=HG4.o.below HB''.o (by omega) (fun k hk=>by have :=(OwnF.lt (OwnF.of_ownR HO.o) k hk).1;omega);have hkeep:∀k,k<w2.heap.size->w4.heap[k]?=w3.heap[k]?:=fun k hk=>HG4.o.grown.block k (by omega) (fun e=>by have :=(OwnF.lt (OwnF.of_ownR HO.o) k e.symm).1;omega);have HX14:=zh ((hkeep _ hz2').trans HX1''.o);have HX24:=zh ((hkeep _ hz2).trans HX2''.o);have HBW4:=zh hBW4;clear hBW4 hkeep x0 x1 xf y0 y1 yf;go_loopw[9](fun i wr=>∃j:Nat,h.cells.length<=j/\j<=h.cells.length+bl.length/\i= .int .i64 j/\ZpR w w2.heap.size (.cells #[.slice a h.cells.length cap,.slice b h.trail.length tap] 82) (.cells #[.slice none 0 0,.slice none 0 0] 82) (ZgZ h.cells.length (h.cells++bl) j) (.slice va (h.cells.length+bl.length) vc) wr)(fun i _=>h.cells.length+bl.length - (intOf i).toNat);case atStart=>exact⟨h.cells.length,zL _,by omega,rfl,HBW4.o,HX14.o,HX24.o,by rw[ZkL];exact HO4.o⟩
      case round=>
       obtain⟨j,hj0,hj,rfl,hinv⟩:=hrel;have HI:=zh hinv;obtain⟨hib,hi1,hi2,hio⟩:=hinv;have hsz5:w.heap.size+1<wr.heap.size:=Zah hi2;clear hib hi1 hi2;by_cases hlt:j<h.cells.length+bl.length
       ·have hlj:j<(h.cells++bl).length:=by rw[HLen.o];exact hlt
        have hsl:(ZgZ h.cells.length (h.cells++bl) j).length=h.cells.length+bl.length:=by rw[ZfG,HLen.o]
        obtain⟨g,gc,hve,hgc0,hgc1,hgc2,hob,hfz,hgl,hgb,hcell⟩:=OwnF.at Ce.vals_len hio (by omega);rw[hsl]at hve;simp only[Value.slice.injEq,true_and]at hve;obtain⟨rfl,rfl⟩:=hve;have hjl:j<(ZgZ h.cells.length (h.cells++bl) j).length:=by rw[ZfG];exact hlj
        obtain⟨c,hc⟩:∃c,c=(h.cells++bl)[j]:=⟨_,rfl⟩;have hcj:(ZgZ h.cells.length (h.cells++bl) j)[j]'hjl=c:=by rw[ZdW,if_neg (by omega),hc]
        have c0:=hcell j hjl 0 (.int .i64 c.kind) (by rw[hcj];rfl);have c1:=hcell j hjl 1 (.int .i64 c.n) (by rw[hcj];rfl);simp only[Nat.add_zero]at c0;have hbj:j - h.cells.length<bl.length:=by omega
        have hcb:c=bl[j - h.cells.length]:=hc.trans (List.getElem_append_right hj0);have hok:=HGC.o (j - h.cells.length) hbj;simp only at hok;rw[<-hcb]at hok;have hI64:c.Ok:=hio.2 c (by rw[<-hcj];exact List.getElem_mem _);have HCC:=zh hc;clear hc;have HOK:=zh hI64;have HCJ:=zh hcj;have HSL:=zh hsl;have HOB:=zh hob;have HIO:=zh hio;clear hcell hcb hcj hI64 hsl hob hio;have hi0':(0:Int)<=(j:Int):=zN _;have hi1':(j:Int)<(h.cells.length:Int)+bl.length:=by omega
        by_cases hk:c.kind=0
        ·have hn:0<=c.n/\c.n<65536:=by unfold Ce.OkAt at hok;omega
         obtain⟨hn0,hn1⟩:=hn;have HK:=zh hk;rw[hk]at c0;clear hk hok;go_wp2_with fail;go_roundw;case rel=>
          refine⟨j+1,by omega,by omega,by go_num,Below.setCell HI.o.1 (by simp only;omega) _,?_,?_,?_⟩;·rw[Below.heap_setCell _ _ _ _ (by simp;omega)];exact HI.o.2.1
          ·rw[Below.heap_setCell _ _ _ _ (by simp;omega)];exact HI.o.2.2.1
          ·rw[Zib _ _ _ hj0 hlj,<-HCC.o];refine OwnF.set Ce.vals_len HIO.o HOB.o (by rw[HSL.o];exact hlt) (by omega) ?_ ?_;·rw[HCJ.o,shC,if_pos HK.o];rfl
           ·rw[shC,if_pos HK.o];obtain⟨o1,o2,o3⟩:=HOK.o;exact⟨o1,by unfold I64;simp only;omega,o3⟩
         case measure=>simp[intOf];omega
        ·have hk':(c.kind==0)=false:=by simpa using hk
         have HK:=zh hk;clear hk hok;go_wp2_with fail;go_roundw;case rel=>refine⟨j+1,by omega,by omega,by go_num,HI.o.1,HI.o.2.1,HI.o.2.2.1,?_⟩;rw[ZlF _ _ _ hj0 hlj (by rw[<-HCC.o];exact HK.o)];exact HIO.o
         case measure=>simp[intOf];omega
       ·have hje:j=h.cells.length+bl.length:=by omega
        have HJE:=zh hje;have hib:=HI.o.2.1;have hic:=HI.o.2.2.1;obtain⟨x0,x1,xf⟩:=Zcj hib;obtain⟨y0,y1,yf⟩:=Zcj hic;have HIO:=zh hio;clear hib hic hje hio;go_wp2_with fail;refine bodyPost_ret (v:= .tuple #[.agg #[.slice va (h.cells.length+bl.length) vc,.slice b h.trail.length tap],.int .i64 h.cells.length,.int .i64 0]) (by simp[results,Tryd.results56,go_sem,hcs,x0,x1,y0,y1]) rfl ?_;have hb:Below w.heap.size w ((wr.setCell ⟨w.heap.size+1,0,none⟩ (.slice va (h.cells.length+bl.length) vc)).setCell ⟨w.heap.size+1,1,none⟩ (.slice b h.trail.length tap)):=Below.setCell (Below.setCell HI.o.1 (by simp) _) (by simp) _;rw[Zbz,if_neg (not_not_intro HG.o),if_neg hbig];refine Pure.mk hb ⟨_,rfl,_,_,rfl,?_,?_⟩
        ·have h6:=HIO.o;rw[HJE.o]at h6;rw[show ZgZ h.cells.length (h.cells++bl) (h.cells.length+bl.length)=h.cells++bl.map (shC h.cells.length)from by rw[<-HLen.o];exact Zm8 _ _]at h6;refine CesR.sl_of (OwnF.kept h6 fun k hk=>?_) (by simp;omega) (fun k hk=>?_);·have :=(h6.lt k hk).1;rw[Below.heap_setCell _ _ _ _ (by simp;omega),Below.heap_setCell _ _ _ _ (by simp;omega)]
         ·have :=(h6.lt k hk).1;exact .inr (by unfold New;omega)
        ·exact SlR.mono Zab (by omega) (SlR.keeps Zab HTR.o (Keeps.ob hb)) (fun _ _ h=> .inl h)
def ZlG(n:Int)(r:Value)(_:World):Prop:=r= .int .i64 n
theorem ZpB{A:Nat->Prop}{w:World}{h:Hp}{vs:List Value}(hh:Hp.rep A w h vs):∃a cap b tap cb coff tb toff,vs=[.slice a h.cells.length cap,.slice b h.trail.length tap]/\h.cells.length<=cap/\cap<=maxLen/\h.cells.length<=1048576/\h.trail.length<=tap/\tap<=maxLen/\h.trail.length<=1048576/\Hd (0<h.cells.length->a=some ⟨cb,coff,none⟩/\A cb)/\Hd (Elems A w 3 Ce.rep h.cells cb coff)/\Hd (0<h.trail.length->b=some ⟨tb,toff,none⟩/\A tb)/\Hd (Elems A w 1 ZhR h.trail tb toff):=by obtain⟨a,cap,b,tap,rfl,hc1,hc2,hc3,ht1,ht2,ht3,hc,ht⟩:=Hp.rep2 hh;obtain⟨_,_,cb,coff,e, -, -, -,ha,he⟩:=hc.at;simp only[Value.slice.injEq,true_and]at e;obtain⟨rfl,rfl⟩:=e;obtain⟨_,_,tb,toff,e, -, -, -,hb,hf⟩:=ht.at;simp only[Value.slice.injEq,true_and]at e;obtain⟨rfl,rfl⟩:=e;exact⟨a,cap,b,tap,cb,coff,tb,toff,rfl,hc1,hc2,hc3,ht1,ht2,ht3,zh ha,zh he,zh hb,zh hf⟩
def Zo3(l:List Ce)(a0:Int)(i:Nat)(a:Int):Prop:=Zdg l (l.length+1 - i) a=look l a0/\I64 a
theorem Zf9(h:Hp)(a:Int)(ha:I64 a)(A:Nat->Prop)(w:World)(vs:List Value)(hh:Hp.rep A w h vs):Calls Tryd.prog 117 #[.agg vs.toArray,.int .i64 a] w (Pure w (ZlG (look h.cells a))):=by
 obtain⟨va,cap,vb,tap,cb,coff,tb,toff,rfl,hc1,hc2,hc3,ht1,ht2,ht3,HA,HE,HA',HE'⟩:=ZpB hh;have HI:=zh ha;clear hh ha;go_enter Tryd.func117,Tryd.ntmps117;go_wp2_with fail;go_loopw[1,10](fun x i wr=>∃(j:Nat)(b:Int),j<=h.cells.length+1/\i= .int .i64 j/\x= .int .i64 b/\Below (w.heap.size+1) (w.alloc (.cells #[.slice va h.cells.length cap,.slice vb h.trail.length tap] 82)) wr/\Zo3 h.cells a j b)(fun _ i _=>h.cells.length+1 - (intOf i).toNat);case atStart=>exact⟨0,a,Nat.zero_le _,rfl,rfl,zB _ _,rfl,HI.o⟩
 case round=>
  obtain⟨j,b,hj,rfl,rfl,hb,hst⟩:=hrel;have HB:=zh hb;have HS:=zh hst.1;have hz:=hb.size;simp only[World.size_alloc]at hz;have hz':w.heap.size<wr.heap.size:=hz;have f0:wr.cell? ⟨w.heap.size,0,none⟩=some (.slice va h.cells.length cap):=by rw[hb.cell (by simp)];simp
  have hbi:=hst.2;clear hb hst;by_cases hlt:j<h.cells.length+1
  ·have hlt':(j:Int)<(h.cells.length:Int)+1:=by omega
   have HK:=zh (show h.cells.length+1 - j=(h.cells.length - j)+1 by omega);by_cases hin:Inb h.cells b
   ·obtain⟨v,rfl,hv,hcv⟩:=ZaY hin;have HCV:=zh hcv;obtain⟨rfl,hAb⟩:=HA.o (by omega);have hk2:Keeps A w wr:=(Keeps.alloc _ _ _).trans (Keeps.ob (HB.o.mono (by simp)));obtain⟨c0,c1,c2,i0,i1,i2⟩:=ZbP HE.o hAb hk2 hv;have hlb:cb<wr.heap.size:=World.block_lt_of_cell? wr _ c0;have hv0:(0:Int)<=(v:Int):=zN _;have hv1:(v:Int)<(h.cells.length:Int):=by omega
    have HIN:=zh hin;clear hk2 hcv hin;by_cases hs:Stop h.cells (v:Int)
    ·have hres:look h.cells a=(v:Int):=by have :=HS.o;rw[HK.o,Zdg,if_neg (not_not_intro HIN.o),if_pos hs]at this;exact this.symm
     have HRES:=zh hres;unfold Stop at hs;rw[HCV.o]at hs;have HST:=zh hs;clear hres hs;by_cases hk:h.cells[v].kind=0;·have hn:h.cells[v].n=v:=HST.o.resolve_left (not_not_intro hk);rw[hk]at c0;rw[hn]at c1;clear hk hn;go_wp2_with fail;go_ret;exact⟨_,rfl,ZaA ((HB.o.alloc hz _).mono (by simp)),by unfold ZlG;rw[HRES.o];rfl⟩
     ·have hk':(h.cells[v].kind != 0)=true:=by simpa using hk
      clear hk;go_wp2_with fail;go_ret;exact⟨_,rfl,ZaA ((HB.o.alloc hz _).mono (by simp)),by unfold ZlG;rw[HRES.o];rfl⟩
    ·have hnx:Zdg h.cells (h.cells.length - j) h.cells[v].n=look h.cells a:=by have :=HS.o;rw[HK.o,Zdg,if_neg (not_not_intro HIN.o),if_neg hs,HCV.o]at this;exact this
     have HNX:=zh hnx;unfold Stop at hs;rw[HCV.o]at hs;have hk:h.cells[v].kind=0:=Decidable.not_not.1 fun e=>hs (.inl e);have hn:¬h.cells[v].n=v:=fun e=>hs (.inr e);have hn':(h.cells[v].n==(v:Int))=false:=by simpa using hn
     rw[hk]at c0;clear hs hk hn hnx;go_wp2_with fail;go_roundw;case rel=>refine⟨j+1,h.cells[v].n,by omega,by go_num,rfl,HB.o.alloc hz _,?_,i1⟩;rw[show h.cells.length+1 - (j+1)=h.cells.length - j by omega];exact HNX.o
     case measure=>simp[intOf];omega
   ·have hres:look h.cells a= -1:=by have :=HS.o;rw[HK.o,Zdg,if_pos hin]at this;exact this.symm
    have HRES:=zh hres;unfold Inb at hin;clear hres;go_wp2_with fail;all_goals first|(exfalso;omega)|(go_ret;exact⟨_,rfl,ZaA (HB.o.mono (by simp)),by unfold ZlG;rw[HRES.o];rfl⟩)|go_ways
  ·have hres:look h.cells a= -1:=by have :=HS.o;rw[show h.cells.length+1 - j=0 by omega,Zdg]at this;exact this.symm
   have HRES:=zh hres;clear hres;have hje:j=h.cells.length+1:=by omega
   subst hje;go_wp2_with fail;go_ret;exact⟨_,rfl,ZaA (HB.o.mono (by simp)),by unfold ZlG;rw[HRES.o];rfl⟩
def IsV(u:Value):Value->World->Prop:=fun v _=>v=u
def Zo4(base:Nat)(l:List Ce):Value->World->Prop:=fun v w=>OwnC w base l v
def ZiV(base:Nat)(l:List Int):Value->World->Prop:=fun v w=>OwnN w base l v
def Stays(R:Value->World->Prop):Prop:=∀v w w',R v w->Below w.heap.size w w'->R v w'
theorem Zdv(u:Value):Stays (IsV u):=fun _ _ _ h _=>h
theorem Zc7(base:Nat)(l:List Ce):Stays (Zo4 base l):=fun v w w' h hb=>OwnF.below h hb
theorem ZcK(base:Nat)(l:List Int):Stays (ZiV base l):=fun v w w' h hb=>OwnF.below h hb
def posts(ps:List (Value->World->Prop))(i:Nat):Value->World->Prop:=ps.getD i fun _ _=>True
theorem ZbL{ps:List (Value->World->Prop)}(h:∀R∈ps,Stays R)(i:Nat)(v:Value)(w w':World)(hp:posts ps i v w)(hb:Below w.heap.size w w'):posts ps i v w':=by
 unfold posts at*;by_cases hi:i<ps.length
 ·have e:ps.getD i (fun _ _=>True)=ps[i]:=by simp[List.getD,hi]
  rw[e]at hp ⊢;exact h _ (List.getElem_mem hi) v w w' hp hb
 ·simp[List.getD,hi]
theorem Za0{α β:Type}{f:α->List Value}{ok:α->Prop}{f':β->List Value}{ok':β->Prop}{E E':TypeId}{size size' base base':Nat}{w:World}{l:List α}{l':List β}{v v':Value}(hE:E≠E')(h:OwnF f ok E size w base l v)(h':OwnF f' ok' E' size' w base' l' v'):∀k,Zai v=some k->Zai v'≠some k:=by
 intro k hk hk';have key:∀{α:Type}{f:α->List Value}{ok:α->Prop}{E:TypeId}{size base:Nat}{l:List α}{v:Value},OwnF f ok E size w base l v->Zai v=some k->∃c,w.heap[k]?=some (.cells c E (0,0)):=by
  intro α f ok E size base l v h hk;rcases h.1.2 with⟨_,a,rfl⟩|⟨g,cap,cur,rfl,hc,hb,hg,_⟩;·cases a<;>simp[Zai]at hk
  ·simp only[Zai,Nat.pos_iff_ne_zero.1 hc,if_false,Option.some.injEq]at hk;subst hk;exact⟨cur,hg⟩
 obtain⟨c,h1⟩:=key h hk;obtain⟨c',h2⟩:=key h' hk';rw[h1]at h2;simp only[Option.some.injEq,Obj.cells.injEq]at h2;exact hE h2.2.1
def ZpC(w:World)(base:Nat)(h:Hp)(vs:List Value):Prop:=∃c t,vs=[c,t]/\OwnC w base h.cells c/\OwnN w base h.trail t
def Zoq(base:Nat)(h:Hp):Value->World->Prop:=fun v w=>∃us,v= .agg us.toArray/\ZpC w base h us
theorem ZlH(base:Nat)(h:Hp):Stays (Zoq base h):=fun v w w'⟨us,e,c,t,e2,h1,h2⟩hb=>⟨us,e,c,t,e2,OwnF.below h1 hb,OwnF.below h2 hb⟩
theorem OwnF.ne_box{α:Type}{f:α->List Value}{ok:α->Prop}{E E':TypeId}{size base:Nat}{w:World}{l:List α}{v:Value}{g:Nat}{c:Array Value}{fr:Nat×Nat}(h:OwnF f ok E size w base l v)(hb:w.heap[g]?=some (.cells c E' fr))(hE:E≠E'):Zai v≠some g:=by
 intro hk;rcases h.1.2 with⟨_,a,rfl⟩|⟨g',cap,cur,rfl,hc,hb',hg,_⟩;·cases a<;>simp[Zai]at hk
 ·simp only[Zai,Nat.pos_iff_ne_zero.1 hc,if_false,Option.some.injEq]at hk;subst hk;rw[hg]at hb;simp only[Option.some.injEq,Obj.cells.injEq]at hb;exact hE hb.2.1
theorem ZdX{w:World}{g:Nat}{E:TypeId}{v0 v1 v2:Value}(h:w.heap[g]?=some (.cells #[v0,v1,v2] E (0,0))):w.cell? ⟨g,0,none⟩=some v0/\w.cell? ⟨g,1,none⟩=some v1/\w.cell? ⟨g,2,none⟩=some v2/\∀o,w.frozen? ⟨g,o,none⟩=false:=⟨(Zao h 0).trans rfl,(Zao h 1).trans rfl,(Zao h 2).trans rfl,fun o=>by simp[World.frozen?,h]⟩
def UInv(g base:Nat)(cv tv:Value)(l:List Ce)(t:List Int)(k:Int)(w:World):Prop:=w.heap[g]?=some (.cells #[cv,tv,.int .i64 k] 171 (0,0))/\OwnC w base l cv/\OwnN w base t tv/\base<=g/\l.length<=65536/\(t.length:Int)+k<=70000/\ -1<=k/\k<=400
section
variable {g base : Nat} {cv tv : Value} {l : List Ce} {t : List Int} {k : Int} {w : World}
theorem UInv.lt(h:UInv g base cv tv l t k w):g<w.heap.size/\base<=g/\base<=w.heap.size:=by obtain⟨h1,_,_,h2,_⟩:=h;have :=Zah h1;omega
theorem UInv.keeps{w':World}(h:UInv g base cv tv l t k w)(hg:w'.heap[g]?=w.heap[g]?)(hc:∀b,Zai cv=some b->w'.heap[b]?=w.heap[b]?)(ht:∀b,Zai tv=some b->w'.heap[b]?=w.heap[b]?):UInv g base cv tv l t k w':=by obtain⟨h1,h2,h3,h4⟩:=h;exact⟨hg.trans h1,h2.kept hc,h3.kept ht,h4⟩
theorem UInv.below{w':World}(h:UInv g base cv tv l t k w)(hb:Below w.heap.size w w'):UInv g base cv tv l t k w':=h.keeps (hb.block _ h.lt.1) (fun b e=>hb.block _ (h.2.1.lt b e).2) (fun b e=>hb.block _ (h.2.2.1.lt b e).2)
theorem UInv.vals(h:UInv g base cv tv l t k w):∃ca cc ta tc,cv= .slice ca l.length cc/\tv= .slice ta t.length tc/\l.length<=cc/\cc<=maxLen/\t.length<=tc/\tc<=maxLen:=by obtain⟨h1,h2,h3,h4⟩:=h;obtain⟨ca,cc,rfl,e1,e2⟩:=OwnF.val h2;obtain⟨ta,tc,rfl,e3,e4⟩:=OwnF.val h3;exact⟨ca,cc,ta,tc,rfl,rfl,e1,e2,e3,e4⟩
theorem UInv.rep(h:UInv g base cv tv l t k w):Hp.rep (fun _=>True) w ⟨l,t⟩ [cv,tv]:=by obtain⟨h1,h2,h3,h4,h5,h6,h7,h8⟩:=h;exact⟨cv,tv,rfl,OwnF.sl Ce.vals_len Ce.vals_one h2 (by omega) (fun _ _=>trivial),OwnF.sl Zat Zb7 h3 (by omega) (fun _ _=>trivial)⟩
theorem UInv.turn{k':Int}(h:UInv g base cv tv l t k w)(h1: -1<=k')(h2:k'<=k):UInv g base cv tv l t k' (w.setCell ⟨g,2,none⟩ (.int .i64 k')):=by
 obtain⟨e1,e2,e3,e4,e5,e6,e7,e8⟩:=h;refine⟨(Zal e1 2 _).trans rfl,e2.kept fun b hb=>?_,e3.kept fun b hb=>?_,e4,e5,by omega,by omega,by omega⟩;·exact Below.heap_setCell _ _ _ _ (fun e=>OwnF.ne_box e2 e1 (by decide) (hb.trans (congrArg some e)))
 ·exact Below.heap_setCell _ _ _ _ (fun e=>OwnF.ne_box e3 e1 (by decide) (hb.trans (congrArg some e)))
end
theorem Zga(g o:Nat)(w:World)(u:Value):Ch (fun b=>b=g) w (w.setCell ⟨g,o,none⟩ u):=(Ch.refl (fun b=>b=g) w).setCell (p:=⟨g,o,none⟩) (Or.inl (show g=g from rfl)) u
theorem Ch.set_box{w w':World}{g:Nat}(h:Ch (fun b=>b=g) w w')(o:Nat)(u:Value):Ch (fun b=>b=g) w (w'.setCell ⟨g,o,none⟩ u):=h.setCell (p:=⟨g,o,none⟩) (Or.inl (show g=g from rfl)) u
theorem OwnC.cell{w:World}{base:Nat}{l:List Ce}{ca:Option Addr}{cc:Nat}(h:OwnC w base l (.slice ca l.length cc)){i:Nat}(hi:i<l.length):∃b,ca=some ⟨b,0,none⟩/\Zai (.slice ca l.length cc)=some b/\w.cell? ⟨b,i*3,none⟩=some (.int .i64 l[i].kind)/\w.cell? ⟨b,i*3+1,none⟩=some (.int .i64 l[i].n)/\w.cell? ⟨b,i*3+2,none⟩=some (.string l[i].s)/\l[i].Ok/\(∀o,w.frozen? ⟨b,o,none⟩=false)/\b<w.heap.size/\base<=b:=by obtain⟨b,cap,e,h0,h1,h2,h3,h4,h5,h6,h7⟩:=OwnF.at Ce.vals_len h (by omega);simp only[Value.slice.injEq,true_and]at e;obtain⟨rfl,rfl⟩:=e;exact⟨b,rfl,h3,h7 i hi 0 _ rfl,h7 i hi 1 _ rfl,h7 i hi 2 _ rfl,h.2 _ (List.getElem_mem hi),h4,h5,h6⟩
def Still(r:Value)(w:World)(e:Ending)(w':World):Prop:=e= .returned r/\w=w'
theorem ZcN(g base:Nat)(cv tv:Value)(l:List Ce)(t:List Int)(k:Int)(w:World)(h:UInv g base cv tv l t k w)(i:Nat)(hi:i<l.length):Calls Tryd.prog 132 #[.pointer (some ⟨g,0,none⟩),.int .i64 (i:Int)] w (Still (.bool (l[i].kind==0)) w):=by
 obtain⟨ca,cc,ta,tc,rfl,rfl,e1,e2,e3,e4⟩:=h.vals;obtain⟨h1,h2,h3,h4,h5,h6,h7,h8⟩:=h;obtain⟨x0,x1,x2,xf⟩:=ZdX h1;obtain⟨b,rfl, -,c0,c1,c2,hok, -⟩:=OwnC.cell h2 hi;have hi0:(0:Int)<=(i:Int):=zN _;have hi1:(i:Int)<(l.length:Int):=by omega
 clear h1 h2 h3 hok;go_enter Tryd.func132,Tryd.ntmps132;go_wp2_with fail;go_ret;exact⟨rfl,rfl⟩
def Zo5(g base:Nat)(cv tv:Value)(l:List Ce)(t:List Int)(w:World)(p:Bool×Int)(e:Ending)(w':World):Prop:=e= .returned (.bool p.1)/\Ch (fun b=>b=g) w w'/\UInv g base cv tv l t p.2 w'
def Zps(g base:Nat)(cv tv:Value)(l:List Ce)(t:List Int)(v:Int)(k:Nat):Prop:=∀(a:Int)(w:World),I64 a->UInv g base cv tv l t k w->Calls Tryd.prog 134 #[.pointer (some ⟨g,0,none⟩),.int .i64 v,.int .i64 a] w (Zo5 g base cv tv l t w (inL l v k [a]))
theorem Zor(g base:Nat)(cv tv:Value)(l:List Ce)(t:List Int)(v:Int):Zps g base cv tv l t v 0:=by intro a w ha h;have HU:=zh h;obtain⟨ca,cc,ta,tc,rfl,rfl,e1,e2,e3,e4⟩:=h.vals;have hlt:=h.lt;obtain⟨h1,h2,h3,h4,h5,h6,h7,h8⟩:=h;obtain⟨x0,x1,x2,xf⟩:=ZdX h1;have hcs:=Zap;clear h1 h2 h3;go_enter Tryd.func134,Tryd.ntmps134;go_wp2_with fail;go_ret;exact⟨rfl,Zga _ _ _ _,HU.o.turn (k':= -1) (by decide) (by decide)⟩
theorem ZjT(l:List Ce)(v:Int)(w:Nat)(z:Int)(r:List Int):inL l v (w+1) (z::r)=if look l z<0 then(false, -1)else if(Zaa l (look l z)).kind=0 then(if look l z=v then(true,(w:Int))else inL l v w r)else if(Zaa l (look l z)).kind=3 then inL l v w (Zam (look l z) (Zaa l (look l z)).n++r)else inL l v w r:=rfl
theorem Zcv(a n:Int)(j:Nat)(h:j<(Zam a n).length):(Zam a n)[j]=a+1+j:=by simp[Zam]
theorem Zos(g base:Nat)(cv tv:Value)(l:List Ce)(t:List Int)(v:Int)(hv:I64 v)(k:Nat)(hg:GoodC l)(ih:∀m,m<=k->Zps g base cv tv l t v m):Zps g base cv tv l t v (k+1):=by
 intro a w ha h;have HU:=zh h;obtain⟨ca,cc,ta,tc,rfl,rfl,e1,e2,e3,e4⟩:=h.vals;have hlt:=h.lt;have HU1:=zh (HU.o.turn (k':=k) (by omega) (by omega));obtain⟨h1,h2,h3,h4,h5,h6,h7,h8⟩:=h;obtain⟨x0,x1,x2,xf⟩:=ZdX h1;have hcs:=Zap;have hk400:(k:Int)<=400:=by omega
 have HI:=zh ha;have IH:=zh ih;have HG:=zh hg;have HV:=zh hv;have hk0:(0:Int)<=(k:Int):=zN _;rw[show((k+1:Nat):Int)=(k:Int)+1 by omega]at x2;clear h1 h2 h3 h6 h7 h8 ha ih hg hv;go_enter Tryd.func134,Tryd.ntmps134;go_wp2_with fail;refine(Zf9 ⟨l,t⟩ a HI.o (fun _=>True) _ _ HU1.o.rep).mono ?_;rintro e w2⟨r,rfl,hb2,rfl⟩;have HU2:=zh (HU1.o.below hb2);have HC2:=zh (show Ch (fun b=>b=g) w w2 from(Zga _ _ _ _).tb hb2);obtain⟨y0,y1,y2,yf⟩:=ZdX HU2.o.1;have hz2:=hb2.size;simp only[World.size_setCell]at hz2;clear x0 x1 x2 xf hb2;have hge:=Zhj l a;by_cases hneg:look l a<0
 ·have hp:inL l v (k+1) [a]=(false, -1):=by rw[ZjT,if_pos hneg]
  have HP:=zh hp;clear hp;go_wp2_with fail;go_ret;rw[HP.o];exact⟨rfl,HC2.o.set_box _ _,HU2.o.turn (k':= -1) (by decide) (by omega)⟩
 ·obtain⟨x,hx,hxl,hcx⟩:=ZaY (Zep (l:=l) (a:=a) (by omega)).1;have hin:inL l v (k+1) [a]=if l[x].kind=0 then(if(x:Int)=v then(true,(k:Int))else(false,(k:Int)))else if l[x].kind=3 then inL l v k (Zam (x:Int) l[x].n)else(false,(k:Int)):=by rw[ZjT,if_neg hneg,hcx,hx,Ze1,List.append_nil]
  have hokc:=HG.o x hxl;have HIN:=zh hin;have HX:=zh hx;rw[hx];have hx0:(0:Int)<=(x:Int):=zN _;have hx1:(x:Int)<(l.length:Int):=by omega
  obtain⟨cb,rfl, -,c0,c1,c2,hok, -,hcb, -⟩:=OwnC.cell HU2.o.2.1 hxl;clear hin hcx hx hneg hge;go_wp2_with fail;refine(ZcN _ _ _ _ _ _ _ _ HU2.o x hxl).mono ?_;rintro e w3⟨rfl,rfl⟩;by_cases hk:l[x].kind=0
  ·rw[hk]at c0 ⊢;have HK:=zh hk;clear hk hokc;by_cases hxv:(x:Int)=v
   ·have hr:=zh (show inL l v (k+1) [a]=(true,(k:Int))by rw[HIN.o,if_pos HK.o,if_pos hxv]);have hq:((x:Int)==v)=true:=by simpa using hxv
    clear hxv;go_wp2_with fail;go_ret;rw[hr.out];exact⟨rfl,HC2.o,HU2.o⟩
   ·have hr:=zh (show inL l v (k+1) [a]=(false,(k:Int))by rw[HIN.o,if_pos HK.o,if_neg hxv]);have hq:((x:Int)==v)=false:=by simpa using hxv
    clear hxv;go_wp2_with fail;go_ret;rw[hr.out];exact⟨rfl,HC2.o,HU2.o⟩
  ·have hk':(l[x].kind==0)=false:=by simpa using hk
   rw[hk'];by_cases hk3:l[x].kind=3
   ·have hn:1<=l[x].n/\l[x].n<=4/\(x:Int)+l[x].n<l.length:=by unfold Ce.OkAt at hokc;omega
    obtain⟨hn1,hn4,hnl⟩:=hn;obtain⟨nn,hnn⟩:=Int.eq_ofNat_of_zero_le (show 0<=l[x].n by omega);have hr:=zh (show inL l v (k+1) [a]=inL l v k (Zam (x:Int) (nn:Int))by rw[HIN.o,if_neg hk,if_pos hk3,hnn]);have hal:(Zam (x:Int) (nn:Int)).length=nn:=by simp[Zam]
    rw[hnn]at c1 hn1 hn4 hnl;rw[hk3]at c0;have HAL:=zh hal;have hlb:cb<w2.heap.size:=hcb;have hn4':nn<=4:=by omega
    clear hk hk' hk3 hokc hal hnn;go_wp2_with fail;have HU3:=zh (HU2.o.below ((zB _ _).alloc (zL _) (.cells #[.int .i64 3,.int .i64 (nn:Int),.string l[x].s] 112)));have HC3:=zh (HC2.o.alloc (.cells #[.int .i64 3,.int .i64 (nn:Int),.string l[x].s] 112));have HB3:=zh (Zar w2 (.cells #[.int .i64 3,.int .i64 (nn:Int),.string l[x].s] 112));have hne:g≠w2.heap.size:=by omega
    clear c0 c1 c2 y0 y1 y2 yf;go_loopw[8](fun i wr=>∃j m:Nat,j<=nn/\i= .int .i64 ((j:Int)+1)/\m<=k/\inL l v k ((Zam (x:Int) (nn:Int)).take j)=(false,(m:Int))/\UInv g base (.slice (some ⟨cb,0,none⟩) l.length cc) (.slice ta t.length tc) l t m wr/\Ch (fun b=>b=g) w wr/\wr.heap[w2.heap.size]?=some (.cells #[.int .i64 3,.int .i64 (nn:Int),.string l[x].s] 112 (0,0)))(fun i _=>nn+1 - (intOf i).toNat);case atStart=>exact⟨0,k,Nat.zero_le _,rfl,zL _,by rw[List.take_zero,Ze1],HU3.o,HC3.o,HB3.o⟩
    case round=>
     obtain⟨j,m,hj,rfl,hm,htk,hu,hch,hbx⟩:=hrel;have HTK:=zh htk;have HU4:=zh hu;have HC4:=zh hch;have HB4:=zh hbx;obtain⟨z0,z1,z2,zf⟩:=ZdX hbx;clear htk hu hch hbx;by_cases hlt:j<nn
     ·have hja:j<(Zam (x:Int) (nn:Int)).length:=by rw[HAL.o];exact hlt
      have hsplit:Zam (x:Int) (nn:Int)=(Zam (x:Int) (nn:Int)).take j++(((x:Int)+1+(j:Int))::(Zam (x:Int) (nn:Int)).drop (j+1)):=by
       conv=>lhs;rw[<-List.take_append_drop j (Zam (x:Int) (nn:Int))]
       rw[List.drop_eq_getElem_cons hja,Zcv]
      have hnext:(Zam (x:Int) (nn:Int)).take (j+1)=(Zam (x:Int) (nn:Int)).take j++[(x:Int)+1+j]:=by rw[List.take_succ_eq_append_getElem hja,Zcv]
      have HSP:=zh (show inL l v k (Zam (x:Int) (nn:Int))=inL l v m ([(x:Int)+1+j]++(Zam (x:Int) (nn:Int)).drop (j+1))by
       conv=>lhs;rw[hsplit]
       rw[ZfR,HTK.o,if_neg (by simp)];simp);have HNX:=zh (show inL l v k ((Zam (x:Int) (nn:Int)).take (j+1))=inL l v m [(x:Int)+1+j]by rw[hnext,ZfR,HTK.o,if_neg (by simp)];simp);clear hsplit hnext hja;go_wp2_with fail;rw[show(x:Int)+((j:Int)+1)=(x:Int)+1+j by omega];refine(IH.out m hm ((x:Int)+1+j) wr (by unfold I64;omega) HU4.o).mono ?_;rintro e w5⟨rfl,hch5,hu5⟩;have HU5:=zh hu5;have HC5:=zh hch5;have HB5:=zh ((hch5.block w2.heap.size (Zah HB4.o) (fun e=>hne e.symm)).trans HB4.o);obtain⟨q0,q1,q2,qf⟩:=ZdX HU5.o.1;have hple:=ZgO l v m [(x:Int)+1+j];have happ:=ZfR l v m [(x:Int)+1+j] ((Zam (x:Int) (nn:Int)).drop (j+1));have htru:=Zeq l v m [(x:Int)+1+j];generalize inL l v m [(x:Int)+1+j]=p at*;obtain⟨pf,pw⟩:=p;simp only at hple happ htru q0 q1 q2;have HAPP:=zh happ;have HTRU:=zh htru;clear hu5 hch5 happ htru z0 z1 z2 zf;obtain⟨hp1,hp2⟩:=hple;cases pf with
       |true=>have hpw:0<=pw:=HTRU.o rfl;have hres:=zh (show inL l v (k+1) [a]=(true,pw)by rw[hr.out,HSP.o,HAPP.o,if_pos (.inl rfl)]);go_wp2_with fail;go_ret;rw[hres.o];exact⟨rfl,HC4.o.trans HC5.o (fun _ h=> .inl h),HU5.o⟩
       |false=>
        by_cases hpw:pw<0;·have hres:=zh (show inL l v (k+1) [a]=(false,pw)by rw[hr.out,HSP.o,HAPP.o,if_pos (.inr hpw)]);have hpd:=zh (decide_eq_false (show ¬(0:Int)<=pw by omega));go_wp2_with fail;go_ret;rw[hres.o];exact⟨congrArg Ending.returned (congrArg Value.bool hpd.out),HC4.o.trans HC5.o (fun _ h=> .inl h),HU5.o⟩
        ·obtain⟨pm,rfl⟩:=Int.eq_ofNat_of_zero_le (show 0<=pw by omega);go_wp2_with fail;go_roundw;case rel=>exact⟨j+1,pm,by omega,by go_num,by omega,HNX.o,HU5.o,HC4.o.trans HC5.o (fun _ h=> .inl h),HB5.o⟩
         case measure=>simp[intOf];omega
     ·have hje:j=nn:=by omega
      have hres:=zh (show inL l v (k+1) [a]=(false,(m:Int))by have :=HTK.o;rw[List.take_of_length_le (by rw[HAL.o];omega)]at this;rw[hr.out,this]);clear hje;go_wp2_with fail;go_ret;rw[hres.o];exact⟨rfl,HC4.o,HU4.o⟩
   ·have hr:=zh (show inL l v (k+1) [a]=(false,(k:Int))by rw[HIN.o,if_neg hk,if_neg hk3]);have hk3':(l[x].kind==3)=false:=by simpa using hk3
    have hlb:cb<w2.heap.size:=hcb;clear hk hk3 hokc;go_wp2_with fail;go_ret;rw[hr.out];exact⟨rfl,HC2.o.alloc _,HU2.o.below ((zB _ _).alloc (zL _) _)⟩
theorem Zo6(g base:Nat)(cv tv:Value)(l:List Ce)(t:List Int)(v:Int)(hv:I64 v)(hg:GoodC l):∀k,Zps g base cv tv l t v k:=by intro k;induction k using Nat.strongRecOn with|_ k ih=>cases k with|zero=>exact Zor g base cv tv l t v|succ k=>exact Zos g base cv tv l t v hv k hg fun m hm=>ih m (by omega)
theorem ZlI{l:List Ce}{v:Nat}(a:Int)(h:v<l.length):Zbi l (v:Int) a=l.set v {l[v]with n:=a}:=by
 apply List.ext_getElem (by simp[Zbi]);intro i h1 h2;simp only[Zbi,Int.toNat_natCast,List.getElem_modify,List.getElem_set];by_cases e:v=i;·subst e;simp
 ·simp[e]
def UM(g:Nat)(cv tv:Value)(b:Nat):Prop:=b=g\/Zai cv=some b\/Zai tv=some b
def UStep(g base:Nat)(cv tv:Value)(w:World)(l:List Ce)(t:List Int)(k:Int)(w':World):Prop:=∃tv',UInv g base cv tv' l t k w'/\Ch (UM g cv tv) w w'/\(∀b,Zai tv'=some b->Zai tv=some b\/w.heap.size<=b)
theorem UStep.of_box{g base:Nat}{cv tv:Value}{w w':World}{l:List Ce}{t:List Int}{k:Int}(h:UInv g base cv tv l t k w')(hc:Ch (fun b=>b=g) w w'):UStep g base cv tv w l t k w':=⟨tv,h,hc.mono fun x _ e=> .inl e,fun b h=> .inl h⟩
theorem UStep.trans{g base:Nat}{cv tv tv':Value}{w w' w'':World}{l:List Ce}{t:List Int}{k:Int}(hc:Ch (UM g cv tv) w w')(ht:∀b,Zai tv'=some b->Zai tv=some b\/w.heap.size<=b)(h:UStep g base cv tv' w' l t k w''):UStep g base cv tv w l t k w'':=by
 obtain⟨tv2,h1,h2,h3⟩:=h;refine⟨tv2,h1,hc.trans h2 fun x hx=>?_,fun b hb=>?_⟩
 ·rcases hx with hx|hx|hx;·exact .inl (.inl hx)
  ·exact .inl (.inr (.inl hx))
  ·rcases ht x hx with hx|hx;·exact .inl (.inr (.inr hx))
   ·exact .inr hx
 ·rcases h3 b hb with h4|h4;·exact ht b h4
  ·exact .inr (Nat.le_trans hc.size h4)
def Zm9(g base:Nat)(cv tv:Value)(w:World)(l:List Ce)(t:List Int)(k:Int)(e:Ending)(w':World):Prop:=∃r,e= .returned r/\UStep g base cv tv w l t k w'
theorem Zhq(g base:Nat)(cv tv:Value)(l:List Ce)(t:List Int)(k:Int)(w:World)(h:UInv g base cv tv l t k w)(hk:(t.length:Int)+1+k<=70000)(v:Nat)(hv:v<l.length)(a:Int)(ha:I64 a):Calls Tryd.prog 133 #[.pointer (some ⟨g,0,none⟩),.int .i64 (v:Int),.int .i64 a] w (Zm9 g base cv tv w (Zbi l (v:Int) a) (t++[(v:Int)]) k):=by
 have HU:=zh h;obtain⟨ca,cc,ta,tc,rfl,rfl,e1,e2,e3,e4⟩:=h.vals;have hlt:=h.lt;obtain⟨h1,h2,h3,h4,h5,h6,h7,h8⟩:=h;obtain⟨x0,x1,x2,xf⟩:=ZdX h1;obtain⟨cb,rfl,hob,c0,c1,c2,hok,hfz,hcb,hcbase⟩:=OwnC.cell h2 hv;have hcg:cb≠g:=fun e=>OwnF.ne_box h2 h1 (by decide) (hob.trans (congrArg some e));have hcg':¬g=cb:=fun e=>hcg e.symm;have hcs:=Zap;have hi0:(0:Int)<=(v:Int):=zN _;have hi1:(v:Int)<(l.length:Int):=by omega
 have HB1:=zh ((Below.heap_setCell w ⟨cb,v*3+1,none⟩ (.int .i64 a) g (fun e=>hcg e.symm)).trans h1);have HT1:=zh (h3.kept (w':=w.setCell ⟨cb,v*3+1,none⟩ (.int .i64 a)) fun b hb=>Below.heap_setCell _ _ _ _ (fun e=>Za0 (by decide) h2 h3 cb hob (hb.trans (congrArg some e))));have HC1:=zh (OwnF.set (u:= .int .i64 a) Ce.vals_len h2 hob hv (j:=1) (by omega) (y:={l[v]with n:=a}) rfl ⟨hok.1,ha,hok.2.2⟩);have HOB:=zh hob;have HTG:=zh (OwnF.ne_box h3 h1 (by decide));have HTL:=zh (fun b=>h3.lt b);clear h1 h2 h3 hok hob;go_enter Tryd.func133,Tryd.ntmps133;go_wp2_with(at_builtin;go_must(refine Zas rfl (.tmp 20) (.tmp 22) 43 rfl base 3 1 8 Zbd Zab (A:=fun _=>True) (.slice ta t.length tc) t rfl (OwnF.ownR Zat HT1.o _) (v:Int) [.int .i64 (v:Int)] (by simp only[World.size_setCell];rfl) rfl ⟨by unfold I64;omega,rfl⟩ ⟨by omega,by simp;omega⟩ ?_);go_must(intro v2 w2 hown hgrew;obtain⟨va2,vc2,hv2,hvl2,hvm2⟩:=OwnR.val' hown;rw[show(t++[(v:Int)]).length=t.length+1 by simp]at hv2;subst hv2;have HO2:=zh (OwnF.of_ownR hown);have HG2:=zh hgrew;have hz2:=hgrew.size;simp only[World.size_alloc,World.size_setCell]at hz2;have hB2:=(hgrew.grown.block g (by simp;omega) (fun e=>HTG.o e.symm)).trans (Zag HB1.o _);have HB2:=zh hB2;obtain⟨y0,y1,y2,yf⟩:=ZdX hB2;clear hown hgrew hB2));refine bodyPost_end (v:= .tuple #[]) (by simp[results,Tryd.results133,go_sem]) rfl ?_;have hcb2:w2.heap[cb]?=(w.setCell ⟨cb,v*3+1,none⟩ (.int .i64 a)).heap[cb]?:=(HG2.o.grown.block cb (by simp;omega) (fun e=>Za0 (by decide) HU.o.2.1 HU.o.2.2.1 cb HOB.o e.symm)).trans (Below.heap_alloc _ _ _ (by simpa using hcb));have ho2:=HO2.o;have hng:Zai (.slice va2 (t.length+1) vc2)≠some g:=OwnF.ne_box (by simpa using ho2) HB2.o (by decide);refine⟨_,rfl,.slice va2 (t.length+1) vc2,⟨(Zal HB2.o 1 _).trans rfl,?_,?_,h4,by rw[Zdi];exact h5,by simp;omega,h7,h8⟩,?_,fun b hb=>?_⟩;·rw[ZlI a hv];refine HC1.o.kept fun b hb=>?_;obtain rfl:cb=b:=zI (HOB.o.symm.trans hb);rw[Below.heap_setCell _ _ _ _ (fun e=>hcg e)];exact hcb2
 ·exact ho2.kept fun b hb=>Below.heap_setCell _ _ _ _ (fun e=>hng (hb.trans (congrArg some e)))
 ·refine Ch.setCell (p:=⟨g,1,none⟩) ?_ (.inl (.inl rfl)) _;refine HG2.o.ch ((Ch.setCell (p:=⟨cb,v*3+1,none⟩) (Ch.refl _ _) (.inl (.inr (.inl HOB.o))) _).alloc _) fun b hb=> .inl (.inr (.inr hb))
 ·rcases HG2.o.block with h9|h9;·exact .inl (h9.symm.trans hb)
  ·have :=h9 b hb;simp only[World.size_alloc,World.size_setCell]at this;exact .inr (by omega)
def evR(A:Nat->Prop)(w:World)(e:Ev)(vs:List Value):Prop:=∃v,vs=[.int .i64 e.kind,v]/\TmsR A w e.terms v/\I64 e.kind
theorem evR_lasts:Lasts evR:=by
 refine⟨fun A w w' c vs h hk=>?_,fun A A' w c vs h hA=>?_,fun A w c vs h=>?_⟩;·obtain⟨v,h1,h2,h3⟩:=h;exact⟨v,h1,h2.keeps hk,h3⟩
 ·obtain⟨v,h1,h2,h3⟩:=h;exact⟨v,h1,SlR.mono Tm.rep_lasts (by omega) h2 hA,h3⟩
 ·obtain⟨v,rfl,h2,h3⟩:=h;obtain⟨a,cap,_,_,rfl, -⟩:=SlR.at h2;simp[Value.oneCell']
theorem OwnR.mono'{α:Type}{w:World}{base:Nat}{E:TypeId}{size:Nat}{R:(Nat->Prop)->World->α->List Value->Prop}{A A':Nat->Prop}{xs:List α}{v:Value}(hR:Lasts R)(h:OwnR w base E size R A xs v)(hA:∀b,b<w.heap.size->A b->Zai v≠some b->A' b):OwnR w base E size R A' xs v:=by obtain⟨vals,hl,ho,he⟩:=h;refine⟨vals,hl,ho,fun i x vs hx hv=>?_⟩;obtain⟨h1,h2⟩:=he i x vs hx hv;exact⟨h1,hR.2.1 _ _ _ _ _ h2 fun b hb hb'=>⟨hA b hb hb'.1 hb'.2,hb'.2⟩⟩
section
variable {base : Nat} {P : List Cl} {q g mb xb : Nat} {pv tv cv ov : Value} {s : Sv} {w : World}
end
end Go.Proofs.YtlpmfkpefoegeacDoor
