import Derived.Test.YtlpmfkpefoegeacDoorQRead
import Derived.Test.YtlpmfkpefoegeacDoorQSolve1
import Derived.Test.YtlpmfkpefoegeacDoorQCopy
import Derived.Test.YtlpmfkpefoegeacDoorQIsHeap
import Derived.Test.YtlpmfkpefoegeacDoorPSolve
namespace Go.Proofs.YtlpmfkpefoegeacDoor
set_option maxRecDepth 100000
set_option maxHeartbeats 16000000
set_option linter.all false
open Go.RowKit
theorem ZdK{w w1 w2:World}{g:Nat}(h:Below w.heap.size w w1)(hc:Ch (fun b=>b=g) w1 w2)(hg:w.heap.size<=g):Below w.heap.size w w2:=(Ch.trans (Ch.of_below (M:=fun b=>b=g) h) hc (fun _ h=> .inl h)).below (fun k hk e=>by omega)
def ZpL(A:Nat->Prop)(x:Tm×Int×Int)(r:Value)(w':World):Prop:=∃us,r= .tuple #[.agg us.toArray,.int .i64 x.2.1,.int .i64 x.2.2]/\Tm.rep A w' x.1 us
theorem Zmp(hq:Hp)(a most:Int)(ha:I64 a)(hmost:I64 most)(A:Nat->Prop)(w:World)(vs:List Value)(hh:Hp.rep A w hq vs):Calls Tryd.prog 74 #[.agg vs.toArray,.int .i64 a,.int .i64 most] w (Pure w (ZpL (New w) (ZaJ hq a most))):=by
 obtain⟨va,cap,vb,tap,rfl,hc1,hc2,hc3,ht1,ht2,ht3,hc,ht⟩:=Hp.rep2 hh;have HH:=zh hh;have HIA:=zh ha;have HIM:=zh hmost;have HG1:=zh (fun w'(hk:Keeps A w w')=>Zdk hq A w' _ (Hp.rep.keeps hh hk));obtain⟨L,hL⟩:=Int.eq_ofNat_of_zero_le (show 0<=Zdy most by unfold Zdy;omega);have hL2:L<=65536:=by unfold Zdy at hL;omega
 have hLM:max 0 (min most 65536)=(L:Int):=by unfold Zdy at hL;omega
 have HLE:=zh hL;clear hh hc ht ha hmost hL;go_enter Tryd.func74,Tryd.ntmps74;go_wp2_with fail;refine(HG1.o _ ((Keeps.alloc _ _ _).trans (Keeps.alloc _ _ _))).mono ?_;rintro e w1⟨v,rfl,hb1,tt,rfl,ht⟩;have h2:=Zdc w (.cells #[.slice va hq.cells.length cap,.slice vb hq.trail.length tap] 82) (.cells #[.int .i64 0,.int .i64 0,.string ByteArray.empty,.slice none 0 0] 27);have HX1:=zh (Zad h2.1 hb1);have HX2:=zh (Zad h2.2 hb1);have HB:=zh (show Below w.heap.size w w1 from ZaA (ZaA (hb1.mono (by simp))));have hz:w.heap.size+1<w1.heap.size:=by have :=hb1.size;simp at this;omega
 have hz':w.heap.size<w1.heap.size:=by omega
 have HTT:=zh ht;have hcs:=Zap;clear h2 hb1 ht;obtain⟨x0,x1,xf⟩:=Zcj HX1.o;obtain⟨y0,y1,y2,y3,yf⟩:=Zbo HX2.o;cases tt with
  |false=>
   have hg:¬hq.Good:=fun hg=>by have :=HTT.o.2 hg;cases this
   go_wp2_with fail;refine bodyPost_ret (v:= .tuple #[.agg #[.int .i64 0,.int .i64 0,.string ByteArray.empty,.slice none 0 0],.int .i64 0,.int .i64 1]) (by simp[results,Tryd.results74,go_sem,hcs,y0,y1,y2,y3];try rfl) rfl ?_;rw[ZaJ,if_pos hg];refine Pure.mk ?_ ⟨[_,_,_,_],rfl,ZdI _ _⟩;repeat(with_reducible first|exact HB.o|refine Below.setCell ?_ (by simp) _)
  |true=>
   have HG:=zh (HTT.o.1 rfl);clear HTT;by_cases hin:Inb hq.cells a;case neg=>have HIN:=zh hin;have hin':¬(0<=a/\a<(hq.cells.length:Int)):=hin;clear hin;go_wp2_with fail;all_goals first|(exfalso;omega)|(refine bodyPost_ret (v:= .tuple #[.agg #[.int .i64 0,.int .i64 0,.string ByteArray.empty,.slice none 0 0],.int .i64 0,.int .i64 4]) (by simp[results,Tryd.results74,go_sem,hcs,y0,y1,y2,y3];try rfl) rfl ?_;rw[ZaJ,if_neg (not_not_intro HG.o),if_pos HIN.o];refine Pure.mk ?_ ⟨[_,_,_,_],rfl,ZdI _ _⟩;repeat(with_reducible first|exact HB.o|refine Below.setCell ?_ (by simp) _))|go_ways
   case pos=>
    have HIN:=zh hin;obtain⟨i0,i1⟩:=hin;have HT0:=zh (show ZaJ hq a most=Zeb (L:Int) (rd1 hq.cells L a)by rw[ZaJ,if_neg (not_not_intro HG.o),if_neg (not_not_intro HIN.o),HLE.o,Int.toNat_natCast]);have hcases:(most<=0/\(L:Int)=0)\/(0<most/\most<=65536/\(L:Int)=most)\/(65536<most/\(L:Int)=65536):=by have :=HLE.o;unfold Zdy at this;omega
    rcases hcases with⟨m1,m2⟩|⟨m1,m3,m2⟩|⟨m1,m2⟩
    ·go_wp2_with fail;all_goals
      have HX11:=zh (Zag HX1.o (.cells #[.int .i64 0] 3));have HX21:=zh (Zag HX2.o (.cells #[.int .i64 0] 3));have HL1:=zh (show ZbX w1.heap.size (L:Int) (w1.alloc (.cells #[.int .i64 0] 3))by rw[m2];exact Zar _ _);have HB1:=zh (HB.o.alloc (by omega) (.cells #[.int .i64 0] 3));have hs1:(w1.alloc (.cells #[.int .i64 0] 3)).heap.size=w1.heap.size+1:=by simp
      have HR1:=zh (Hp.rep.keeps (Hp.rep.mono (A':=fun b=>b<w.heap.size) HH.o (fun b hb _=>hb)) (Keeps.ob HB1.o));clear x0 x1 xf y0 y1 y2 y3 yf;refine(Zje L hq a w1.heap.size (fun b=>b<w.heap.size) _ [_,_] HG.o.1 HIA.o (by omega) HR1.o HL1.o hL2).mono ?_;rintro e w2⟨us,t,k,rfl,hch,hr,hl,hres⟩;obtain⟨sa,sc,rfl, -⟩:=Tm.rep4 hr;have hsz2:=hch.size;have hkg:Keeps (fun b=>b≠w1.heap.size) _ w2:=hch.keeps (A:=fun b=>b≠w1.heap.size) (fun b _ hb e=>hb e);have HX12:=zh (Zaj HX11.o hkg (by omega));have HX22:=zh (Zaj HX21.o hkg (by omega));have HB2:=zh (show Below w.heap.size w w2 from ZdK HB1.o hch (by omega));have HR:=zh hr;have HL:=zh hl;have HRES:=zh hres;have hw2:w.heap.size+1<w2.heap.size:=by omega
      have hw2':w.heap.size<w2.heap.size:=by omega
      have hne:¬w1.heap.size=w.heap.size+1:=by omega
      have hne':¬w.heap.size+1=w1.heap.size:=by omega
      obtain⟨q0,qf,hgl⟩:=ZcE hl;obtain⟨y0,y1,y2,y3,yf⟩:=Zbo HX22.o;clear hch hr hl hres hkg;rcases HRES.o with⟨r1,rfl⟩|⟨r1,r2⟩;·go_wp2_with fail;refine bodyPost_ret (v:= .tuple #[.agg #[.int .i64 0,.int .i64 0,.string ByteArray.empty,.slice none 0 0],.int .i64 0,.int .i64 3]) (by simp[results,Tryd.results74,go_sem,hcs,y0,y1,y2,y3,hw2,hw2'];try rfl) rfl ?_;rw[HT0.o,r1];refine Pure.mk ?_ ⟨[_,_,_,_],rfl,ZdI _ _⟩;repeat(with_reducible first|exact HB2.o|refine Below.drew ?_|refine Below.alloc ?_ (by simp only[World.size_setCell,World.size_drew];omega) _|refine Below.setCell ?_ (by simp) _)
      ·obtain⟨k,rfl⟩:=Int.eq_ofNat_of_zero_le r2;have HR1:=zh r1;have HK:=zh (Zgg r1);have hkL:=Zgg r1;clear r1 HRES r2;go_wp2_with fail;go_region;all_goals
        go_wp2_with fail;refine bodyPost_ret (v:= .tuple #[.agg #[.int .i64 t.kind,.int .i64 t.n,.string t.s,.slice sa t.args.length sc],.int .i64 (0 - (k:Int)),.int .i64 0]) (by simp[results,Tryd.results74,go_sem,hcs,y0,y1,y2,y3,hw2,hw2'];try rfl) rfl ?_;rw[HT0.o,HR1.o];refine Pure.mk ?_ ⟨[.int .i64 t.kind,.int .i64 t.n,.string t.s,.slice sa t.args.length sc],by simp only[Zeb,Int.toNat_natCast,m2];try rfl,?_⟩;·repeat(with_reducible first|exact HB2.o|refine Below.drew ?_|refine Below.alloc ?_ (by simp only[World.size_setCell,World.size_drew];omega) _|refine Below.setCell ?_ (by simp) _)
        ·refine Tm.rep_lasts.2.1 _ _ _ _ _ (Tm.rep_lasts.1 _ _ _ _ _ HR.o ?_) (fun b _ hb=>by unfold New at hb ⊢;omega);repeat(with_reducible first|exact Keeps.refl _ _|exact Keeps.drew _ _|refine Keeps.trans ?_ (Keeps.alloc _ _ _)|refine Keeps.trans ?_ (Keeps.setCell _ _ _ _ (by simp[New];omega))|refine Keeps.trans ?_ (Keeps.drew _ _))
    ·go_wp2_with fail;all_goals
      have HX11:=zh (Zag HX1.o (.cells #[.int .i64 most] 3));have HX21:=zh (Zag HX2.o (.cells #[.int .i64 most] 3));have HL1:=zh (show ZbX w1.heap.size (L:Int) (w1.alloc (.cells #[.int .i64 most] 3))by rw[m2];exact Zar _ _);have HB1:=zh (HB.o.alloc (by omega) (.cells #[.int .i64 most] 3));have hs1:(w1.alloc (.cells #[.int .i64 most] 3)).heap.size=w1.heap.size+1:=by simp
      have HR1:=zh (Hp.rep.keeps (Hp.rep.mono (A':=fun b=>b<w.heap.size) HH.o (fun b hb _=>hb)) (Keeps.ob HB1.o));clear x0 x1 xf y0 y1 y2 y3 yf;refine(Zje L hq a w1.heap.size (fun b=>b<w.heap.size) _ [_,_] HG.o.1 HIA.o (by omega) HR1.o HL1.o hL2).mono ?_;rintro e w2⟨us,t,k,rfl,hch,hr,hl,hres⟩;obtain⟨sa,sc,rfl, -⟩:=Tm.rep4 hr;have hsz2:=hch.size;have hkg:Keeps (fun b=>b≠w1.heap.size) _ w2:=hch.keeps (A:=fun b=>b≠w1.heap.size) (fun b _ hb e=>hb e);have HX12:=zh (Zaj HX11.o hkg (by omega));have HX22:=zh (Zaj HX21.o hkg (by omega));have HB2:=zh (show Below w.heap.size w w2 from ZdK HB1.o hch (by omega));have HR:=zh hr;have HL:=zh hl;have HRES:=zh hres;have hw2:w.heap.size+1<w2.heap.size:=by omega
      have hw2':w.heap.size<w2.heap.size:=by omega
      have hne:¬w1.heap.size=w.heap.size+1:=by omega
      have hne':¬w.heap.size+1=w1.heap.size:=by omega
      obtain⟨q0,qf,hgl⟩:=ZcE hl;obtain⟨y0,y1,y2,y3,yf⟩:=Zbo HX22.o;clear hch hr hl hres hkg;rcases HRES.o with⟨r1,rfl⟩|⟨r1,r2⟩;·go_wp2_with fail;refine bodyPost_ret (v:= .tuple #[.agg #[.int .i64 0,.int .i64 0,.string ByteArray.empty,.slice none 0 0],.int .i64 0,.int .i64 3]) (by simp[results,Tryd.results74,go_sem,hcs,y0,y1,y2,y3,hw2,hw2'];try rfl) rfl ?_;rw[HT0.o,r1];refine Pure.mk ?_ ⟨[_,_,_,_],rfl,ZdI _ _⟩;repeat(with_reducible first|exact HB2.o|refine Below.drew ?_|refine Below.alloc ?_ (by simp only[World.size_setCell,World.size_drew];omega) _|refine Below.setCell ?_ (by simp) _)
      ·obtain⟨k,rfl⟩:=Int.eq_ofNat_of_zero_le r2;have HR1:=zh r1;have HK:=zh (Zgg r1);have hkL:=Zgg r1;clear r1 HRES r2;go_wp2_with fail;go_region;all_goals
        go_wp2_with fail;refine bodyPost_ret (v:= .tuple #[.agg #[.int .i64 t.kind,.int .i64 t.n,.string t.s,.slice sa t.args.length sc],.int .i64 (most - (k:Int)),.int .i64 0]) (by simp[results,Tryd.results74,go_sem,hcs,y0,y1,y2,y3,hw2,hw2'];try rfl) rfl ?_;rw[HT0.o,HR1.o];refine Pure.mk ?_ ⟨[.int .i64 t.kind,.int .i64 t.n,.string t.s,.slice sa t.args.length sc],by simp only[Zeb,Int.toNat_natCast,m2];try rfl,?_⟩;·repeat(with_reducible first|exact HB2.o|refine Below.drew ?_|refine Below.alloc ?_ (by simp only[World.size_setCell,World.size_drew];omega) _|refine Below.setCell ?_ (by simp) _)
        ·refine Tm.rep_lasts.2.1 _ _ _ _ _ (Tm.rep_lasts.1 _ _ _ _ _ HR.o ?_) (fun b _ hb=>by unfold New at hb ⊢;omega);repeat(with_reducible first|exact Keeps.refl _ _|exact Keeps.drew _ _|refine Keeps.trans ?_ (Keeps.alloc _ _ _)|refine Keeps.trans ?_ (Keeps.setCell _ _ _ _ (by simp[New];omega))|refine Keeps.trans ?_ (Keeps.drew _ _))
    ·go_wp2_with fail;all_goals
      have HX11:=zh (Zag HX1.o (.cells #[.int .i64 65536] 3));have HX21:=zh (Zag HX2.o (.cells #[.int .i64 65536] 3));have HL1:=zh (show ZbX w1.heap.size (L:Int) (w1.alloc (.cells #[.int .i64 65536] 3))by rw[m2];exact Zar _ _);have HB1:=zh (HB.o.alloc (by omega) (.cells #[.int .i64 65536] 3));have hs1:(w1.alloc (.cells #[.int .i64 65536] 3)).heap.size=w1.heap.size+1:=by simp
      have HR1:=zh (Hp.rep.keeps (Hp.rep.mono (A':=fun b=>b<w.heap.size) HH.o (fun b hb _=>hb)) (Keeps.ob HB1.o));clear x0 x1 xf y0 y1 y2 y3 yf;refine(Zje L hq a w1.heap.size (fun b=>b<w.heap.size) _ [_,_] HG.o.1 HIA.o (by omega) HR1.o HL1.o hL2).mono ?_;rintro e w2⟨us,t,k,rfl,hch,hr,hl,hres⟩;obtain⟨sa,sc,rfl, -⟩:=Tm.rep4 hr;have hsz2:=hch.size;have hkg:Keeps (fun b=>b≠w1.heap.size) _ w2:=hch.keeps (A:=fun b=>b≠w1.heap.size) (fun b _ hb e=>hb e);have HX12:=zh (Zaj HX11.o hkg (by omega));have HX22:=zh (Zaj HX21.o hkg (by omega));have HB2:=zh (show Below w.heap.size w w2 from ZdK HB1.o hch (by omega));have HR:=zh hr;have HL:=zh hl;have HRES:=zh hres;have hw2:w.heap.size+1<w2.heap.size:=by omega
      have hw2':w.heap.size<w2.heap.size:=by omega
      have hne:¬w1.heap.size=w.heap.size+1:=by omega
      have hne':¬w.heap.size+1=w1.heap.size:=by omega
      obtain⟨q0,qf,hgl⟩:=ZcE hl;obtain⟨y0,y1,y2,y3,yf⟩:=Zbo HX22.o;clear hch hr hl hres hkg;rcases HRES.o with⟨r1,rfl⟩|⟨r1,r2⟩;·go_wp2_with fail;refine bodyPost_ret (v:= .tuple #[.agg #[.int .i64 0,.int .i64 0,.string ByteArray.empty,.slice none 0 0],.int .i64 0,.int .i64 3]) (by simp[results,Tryd.results74,go_sem,hcs,y0,y1,y2,y3,hw2,hw2'];try rfl) rfl ?_;rw[HT0.o,r1];refine Pure.mk ?_ ⟨[_,_,_,_],rfl,ZdI _ _⟩;repeat(with_reducible first|exact HB2.o|refine Below.drew ?_|refine Below.alloc ?_ (by simp only[World.size_setCell,World.size_drew];omega) _|refine Below.setCell ?_ (by simp) _)
      ·obtain⟨k,rfl⟩:=Int.eq_ofNat_of_zero_le r2;have HR1:=zh r1;have HK:=zh (Zgg r1);have hkL:=Zgg r1;clear r1 HRES r2;go_wp2_with fail;go_region;all_goals
        go_wp2_with fail;refine bodyPost_ret (v:= .tuple #[.agg #[.int .i64 t.kind,.int .i64 t.n,.string t.s,.slice sa t.args.length sc],.int .i64 (65536 - (k:Int)),.int .i64 0]) (by simp[results,Tryd.results74,go_sem,hcs,y0,y1,y2,y3,hw2,hw2'];try rfl) rfl ?_;rw[HT0.o,HR1.o];refine Pure.mk ?_ ⟨[.int .i64 t.kind,.int .i64 t.n,.string t.s,.slice sa t.args.length sc],by simp only[Zeb,Int.toNat_natCast,m2];try rfl,?_⟩;·repeat(with_reducible first|exact HB2.o|refine Below.drew ?_|refine Below.alloc ?_ (by simp only[World.size_setCell,World.size_drew];omega) _|refine Below.setCell ?_ (by simp) _)
        ·refine Tm.rep_lasts.2.1 _ _ _ _ _ (Tm.rep_lasts.1 _ _ _ _ _ HR.o ?_) (fun b _ hb=>by unfold New at hb ⊢;omega);repeat(with_reducible first|exact Keeps.refl _ _|exact Keeps.drew _ _|refine Keeps.trans ?_ (Keeps.alloc _ _ _)|refine Keeps.trans ?_ (Keeps.setCell _ _ _ _ (by simp[New];omega))|refine Keeps.trans ?_ (Keeps.drew _ _))
theorem ZnH{w:World}{g:Nat}{E:TypeId}{c:Array Value}(h:w.heap[g]?=some (.cells c E (0,0)))(o:Nat):w.frozen? ⟨g,o,none⟩=false:=by simp[World.frozen?,h]
theorem OwnR.elems{α:Type}{w:World}{base:Nat}{E:TypeId}{size:Nat}{R:(Nat->Prop)->World->α->List Value->Prop}{A:Nat->Prop}{xs:List α}{v:Value}(hR:Lasts R)(h:OwnR w base E size R A xs v):∃b off,(0<xs.length->∃cap,v= .slice (some ⟨b,off,none⟩) xs.length cap)/\Elems A w size R xs b off:=by
 obtain⟨vals,hl,ho,he⟩:=h;have hsz:∀(i:Nat)(vs:List Value),vals[i]?=some vs->vs.length=size:=fun i vs hv=>by
  have hi:i<xs.length:=by have :=(List.getElem?_eq_some_iff.1 hv).1;omega
  exact(he i _ vs (List.getElem?_eq_getElem hi) hv).1
 rcases ho.2 with⟨h0,a,rfl⟩|⟨g,cap,cur,rfl,hc,hb,hg,hnc,hcm,hcs,htake⟩;·have :xs=[]:=List.eq_nil_of_length_eq_zero h0;subst this;exact⟨0,0,fun h=>by simp at h,fun i x hx=>by simp at hx⟩
 ·refine⟨g,0,fun _=>⟨cap,rfl⟩,fun i x hx=>?_⟩;have hi:i<vals.length:=by have :=(List.getElem?_eq_some_iff.1 hx).1;omega
  have hv:=List.getElem?_eq_getElem hi;obtain⟨h1,h2⟩:=he i x _ hx hv;refine⟨vals[i],h1,hR.2.1 _ _ w x _ h2 (fun b _ hb=>hb.1),fun j u hj=>?_⟩;have hjl:j<size:=by have :=(List.getElem?_eq_some_iff.1 hj).1;omega
  rw[Nat.zero_add];exact ho.cells rfl hc _ u (by rw[Zcy vals hsz i j _ hv hjl];exact hj)
def ZpP(_:Nat->Prop)(_:World)(n:Int)(vs:List Value):Prop:=vs=[.int .i64 n]/\I64 n
theorem Zhc:Lasts ZpP:=⟨fun _ _ _ _ _ h _=>h,fun _ _ _ _ _ h _=>h,fun _ _ _ _ h u hu=>by obtain⟨rfl,_⟩:=h;simp at hu;subst hu;rfl⟩
theorem Zpm:ElemTy Tryd.prog 43 3 1 8:= .mk' (z:= .int .i64 0) Tryd.underlying43 (by kernel_rfl) rfl (by omega) (by omega)
def ZnI(base bs:Nat)(st:List Int)(M:Nat->Prop)(w:World):Prop:=∃v,w.heap[bs]?=some (.cells #[v] 43 (0,0))/\OwnR w base 3 1 ZpP (fun _=>True) st v/\base<=w.heap.size/\bs<base/\(∀b,M b↔(b=bs\/Zai v=some b))
theorem ZiD(base bs:Nat):StLaw (ZnI base bs):=by
 refine⟨fun st M w h b hb=>?_,fun st M w w' h hk=>?_⟩
 ·obtain⟨v,h1,h2,h3,h4,h5⟩:=h;rcases(h5 b).1 hb with rfl|h6;·exact Zah h1
  ·exact(h2.lt b h6).2
 ·obtain⟨v,h1,h2,h3,h4,h5⟩:=h;exact⟨v,Zaj h1 hk ((h5 _).2 (.inl rfl)),by obtain⟨vals,k1,k2,k3⟩:=h2;exact⟨vals,k1,k2.keeps hk (fun b hb=>(h5 b).2 (.inr hb)),k3⟩,Nat.le_trans h3 hk.size,h4,h5⟩
theorem Zjl{st:List Int}{n:Int}{k:Nat}(hk:k<st.length)(h:st[k]=n)(hb:∀i(hi:i<k),st[i]'(by omega)≠n):n∈st/\st.idxOf n=k:=by
 have hm:n∈st:=h▸List.getElem_mem hk;refine⟨hm,?_⟩;have h1:=List.idxOf_lt_length_of_mem hm;have h2:st[st.idxOf n]=n:=List.getElem_idxOf h1;rcases Nat.lt_trichotomy (st.idxOf n) k with h3|h3|h3;·exact absurd h2 (hb _ h3)
 ·exact h3
 ·have h4:=List.not_of_lt_findIdx (p:=(· ==n)) (xs:=st) (i:=k) (by simpa[List.idxOf]using h3);simp[h]at h4
theorem ZnJ(base bs:Nat)(st:List Int)(M:Nat->Prop)(w:World)(n:Int)(hi:ZnI base bs st M w)(hsz:st.length<4194304)(hn:I64 n):Calls Tryd.prog 20 #[.pointer (some ⟨bs,0,none⟩),.int .i64 n] w (Zlo (ZnI base bs) M w (Zaq st n)):=by
 have HI:=zh hi;obtain⟨v,hblk,hown,hbase,hbs,hM⟩:=hi;obtain⟨va,vc,rfl,hvc⟩:=hown.val;have HO:=zh hown;have HM:=zh hM;have hc0:w.cell? ⟨bs,0,none⟩=some (.slice va st.length vc):=by rw[Zao hblk];rfl
 have hf0:w.frozen? ⟨bs,0,none⟩=false:=by simp[World.frozen?,hblk]
 have HB:=zh hblk;have HE:=zh (show ∃b off,(0<st.length->va=some ⟨b,off,none⟩)/\∀i(hi:i<st.length),w.cell? ⟨b,off+i,none⟩=some (.int .i64 st[i])by obtain⟨b,off,h1,h2⟩:=hown.elems Zhc;refine⟨b,off,fun h0=>by have :=h1 h0;simpa using this,fun i hi=>?_⟩;obtain⟨vs, -,⟨rfl, -⟩,h3⟩:=h2 i _ (List.getElem?_eq_getElem hi);have :=h3 0 _ rfl;simpa using this);clear hown hM hblk;obtain⟨b,off,hva,hel⟩:=HE.o;have HVA:=zh hva;have HEL:=zh hel;clear hva hel HE;go_enter Tryd.func20,Tryd.ntmps20;go_wp2_with fail;go_loopw[11](fun i wr=>∃j:Nat,j<=st.length/\i= .int .i64 j/\w=wr/\∀i(hi:i<j)(hj:j<=st.length),st[i]'(by omega)≠n)(fun i _=>st.length - (intOf i).toNat);case atStart=>exact⟨0,Nat.zero_le _,rfl,rfl,fun i hi=>by omega⟩
 case round=>
  obtain⟨j,hj,rfl,rfl,hpre⟩:=hrel;have HP:=zh hpre;clear hpre;by_cases hlt:j<st.length
  ·obtain rfl:=HVA.o (by omega);have hcell:=HEL.o j hlt;by_cases he:st[j]=n
   ·have he':(st[j]==n)=true:=by simpa using he
    have HEQ:=zh he;clear he;go_wp2_with fail;go_ret;obtain⟨h1,h2⟩:=Zjl hlt HEQ.o (fun i hi=>HP.o i hi hj);refine⟨by simp[Zaq,h1,h2],by simp only[Zaq,h1,if_true,h2];exact Zlz (by omega),M,Ch.refl M _,fun b hb=> .inl hb,by simpa[Zaq,h1]using HI.o⟩
   ·have he':(st[j]==n)=false:=by simpa using he
    have HEQ:=zh he;clear he;go_wp2_with fail;go_roundw;case rel=>
     refine⟨j+1,by omega,by go_num,(by first|rfl|trivial),fun i hi hj'=>?_⟩;by_cases hij:i=j;·subst hij;exact HEQ.o
     ·exact HP.o i (by omega) hj
    case measure=>simp[intOf];omega
  ·have :j=st.length:=by omega
   subst this;have hnin:n∉st:=fun h=>by obtain⟨i,hi,he⟩:=List.mem_iff_getElem.1 h;exact HP.o i hi (zL _) he
   have HNIN:=zh hnin;have HL:=zh (show st.length<4194304/\base<=w.heap.size from⟨hsz,hbase⟩);have hlt2:=HO.o.lt;have hnbs:Zai (.slice va st.length vc)≠some bs:=fun e=>by have :=(hlt2 _ e).1;omega
   clear hnin;go_wp2_with(at_builtin;go_must(refine Zas rfl (.tmp 24) (.tmp 26) 43 rfl base 3 1 8 Zpm Zhc (.slice va st.length vc) st rfl HO.o n [.int .i64 n] rfl rfl ⟨rfl,hn⟩ HL.o ?_);go_must(intro v2 w2 hown2 hgrew;obtain⟨va2,vc2,hv2,hvc2⟩:=hown2.val;rw[show(st++[n]).length=st.length+1 by simp]at hv2;subst hv2;have hB2:=Zaj HB.o ((Keeps.alloc (fun b=>Zai (.slice va st.length vc)≠some b) w (.cells #[.int .i64 n] 3)).trans (hgrew.keeps (fun _ h=>h))) hnbs;have hcs:=Zap;have hc2:w2.cell? ⟨bs,0,none⟩=some (.slice va st.length vc):=(Zao hB2 0).trans rfl;have hf2:=ZnH hB2 0;have HB2:=zh hB2;have HO2:=zh hown2;have HG:=zh hgrew;clear hB2 hown2 hgrew));go_ret;have hs1:(Zaq st n)=(((st.length:Nat):Int),st++[n]):=by simp[Zaq,HNIN.o]
   rw[hs1];have hG:=HG.o;have hz2:=hG.size;simp only[World.size_alloc]at hz2;have hlt3:=HO2.o.lt;have hbs2:Zai (.slice va2 (st.length+1) vc2)≠some bs:=fun e=>by have :=(hlt3 _ e).1;omega
   refine⟨rfl,Zlz (by omega),fun b=>b=bs\/Zai (.slice va2 (st.length+1) vc2)=some b,?_,fun b hb=>?_,?_⟩;·exact(hG.ch ((Ch.refl M w).alloc _) (fun b hb=> .inl ((HM.o b).2 (.inr hb)))).setCell (.inl ((HM.o bs).2 (.inl rfl))) _
   ·rcases hb with rfl|hb;·exact .inl ((HM.o _).2 (.inl rfl))
    ·rcases hG.block with h1|h1;·exact .inl ((HM.o b).2 (.inr (h1.symm.trans hb)))
     ·have :=h1 b hb;simp only[World.size_alloc]at this;exact .inr (by omega)
   ·refine⟨_,Zal HB2.o 0 _,?_,by simp;omega,hbs,fun b=>Iff.rfl⟩;obtain⟨vals,k1,k2,k3⟩:=HO2.o;exact⟨vals,k1,k2.keeps (Keeps.setCell (fun b=>b≠bs) w2 ⟨bs,0,none⟩ _ (by simp)) (fun k hk e=>hbs2 (e▸hk)),k3⟩
def TdInv(pb bs bw:Nat)(st:List Int)(M:Nat->Prop)(w:World):Prop:=∃M0,ZnI pb bs st M0 w/\w.cell? ⟨bw,0,none⟩=some (.func (.func 19) #[] #[.pointer (some ⟨bs,0,none⟩),.pointer (some ⟨bw,0,none⟩)])/\(∀b,M b↔(M0 b\/b=bw))/\¬M0 bw
theorem TdInv.cw{pb bs bw:Nat}{st:List Int}{M:Nat->Prop}{w:World}(h:TdInv pb bs bw st M w):w.cell? ⟨bw,0,none⟩=some (.func (.func 19) #[] #[.pointer (some ⟨bs,0,none⟩),.pointer (some ⟨bw,0,none⟩)]):=by obtain⟨_,_,h,_⟩:=h;exact h
theorem TdInv.mw{pb bs bw:Nat}{st:List Int}{M:Nat->Prop}{w:World}(h:TdInv pb bs bw st M w):M bw:=by obtain⟨_,_,_,h,_⟩:=h;exact(h bw).2 (.inr rfl)
theorem ZdL(pb bs bw:Nat):StLaw (TdInv pb bs bw):=by
 refine⟨fun st M w h b hb=>?_,fun st M w w' h hk=>?_⟩
 ·obtain⟨M0,h1,h2,h3,h4⟩:=h;rcases(h3 b).1 hb with h5|rfl;·exact(ZiD pb bs).lt _ _ _ h1 b h5
  ·exact World.block_lt_of_cell? w _ h2
 ·obtain⟨M0,h1,h2,h3,h4⟩:=h;exact⟨M0,(ZiD pb bs).keeps _ _ _ _ h1 (hk.mono fun b _ hb=>(h3 b).2 (.inl hb)),hk.cell ((h3 bw).2 (.inr rfl)) h2,h3,h4⟩
theorem ZnK(pb bs bw:Nat)(st:List Int)(M:Nat->Prop)(w:World)(n:Int)(hi:TdInv pb bs bw st M w)(hsz:st.length<4194304)(hn:I64 n):Calls Tryd.prog 20 #[.pointer (some ⟨bs,0,none⟩),.int .i64 n] w (Zlo (TdInv pb bs bw) M w (Zaq st n)):=by
 obtain⟨M0,h1,h2,h3,h4⟩:=hi;refine(ZnJ pb bs st M0 w n h1 hsz hn).mono ?_;rintro e w'⟨rfl,h5,M1,h6,h7,h8⟩;have hbw:bw<w.heap.size:=World.block_lt_of_cell? w ⟨bw,0,none⟩ h2;refine⟨rfl,h5,fun b=>M1 b\/b=bw,h6.mono (fun b _ hb=>(h3 b).2 (.inl hb)),fun b hb=>?_,⟨M1,h8,?_,fun b=>Iff.rfl,fun hb=>?_⟩⟩
 ·rcases hb with hb|rfl
  ·rcases h7 b hb with h9|h9;·exact .inl ((h3 b).2 (.inl h9))
   ·exact .inr h9
  ·exact .inl ((h3 _).2 (.inr rfl))
 ·rw[<-h2];exact World.cell?_of_block (h6.block _ hbw h4)
 ·rcases h7 bw hb with h9|h9;·exact h4 h9
  ·omega
namespace Tm
theorem ZnL(st:List Int)(n:Int):st.length<=(Zaq st n).2.length:=by unfold Zaq;split<;>simp
theorem Zpn(st:List Int)(k n:Int):st.length<=(num Zaq st k n).2.length:=by
 unfold num;split;·exact ZnL st n
 ·exact zL _
theorem renS_ge:∀(t:Tm)(st:List Int),st.length<=(renS Zaq st t).2.length:=by
 intro t;induction t using induct with
  |h k n s l ih=>
   intro st;have hL:∀(r:List Tm),(∀t∈r,t∈l)->∀st:List Int,st.length<=(renSL Zaq st r).2.length:=by intro r;induction r with|nil=>intro _ st;simp[renSL]|cons x r ihr=>intro hm st;simp only[renSL];exact Nat.le_trans (ih x (hm x (List.mem_cons_self ..)) st) (ihr (fun t ht=>hm t (List.mem_cons_of_mem _ ht)) _)
   simp only[renS];exact Nat.le_trans (Zpn st k n) (hL l (fun _ h=>h) _)
theorem Zkn:∀(l:List Tm)(st:List Int),st.length<=(renSL Zaq st l).2.length|[],st=>by simp[renSL]|x::r,st=>by simp only[renSL];exact Nat.le_trans (renS_ge x st) (Zkn r _)
theorem renSL_part:∀(l:List Tm)(st:List Int)(j:Nat)(hj:j<l.length),(renS Zaq (renSL Zaq st (l.take j)).2 l[j]).2.length<=(renSL Zaq st l).2.length|x::r,st,0,_=>by simp only[List.take_zero,renSL,List.getElem_cons_zero];exact Zkn r _|x::r,st,j+1,hj=>by simp only[List.take_succ_cons,renSL,List.getElem_cons_succ];exact renSL_part r _ j (by simpa using hj)
end Tm
def Zjm(pb bs bw:Nat)(t:Tm):Prop:=∀(st:List Int)(M A:Nat->Prop)(w:World)(vs:List Value),TdInv pb bs bw st M w->(t.renS Zaq st).2.length<=4194303->Tm.rep A w t vs->(∀b,A b->b<w.heap.size/\¬M b)->Calls Tryd.prog 19 #[.agg vs.toArray,.pointer (some ⟨bs,0,none⟩),.pointer (some ⟨bw,0,none⟩)] w (Zoi (TdInv pb bs bw) M w (t.renS Zaq st))
theorem ZnM(pb bs bw:Nat)(k n:Int)(s:ByteArray)(l:List Tm)(ih:∀t∈l,Zjm pb bs bw t):Zjm pb bs bw (.mk k n s l):=by
 intro st M A w vs hst hnd hv hA;rw[Tm.rep_iff]at hv;obtain⟨hk,hn,hs,v,rfl,hl⟩:=hv;obtain⟨a,cap,b,off,rfl,hlc,hcm,hlb,ha,he⟩:=hl.at;have HE:=zh he;have HA:=zh ha;have IH:=zh ih;have HI:=zh (ZdL pb bs bw);have HSZ:=zh ZjO;have HST:=zh hst;have HAM:=zh hA;have HND:=zh hnd;have HMlt:=zh ((ZdL pb bs bw).lt _ _ _ hst);clear he ha hl ih hst hA hnd;obtain⟨m,st1,hm⟩:∃m st1,(m,st1)=Tm.num Zaq st k n:=⟨_,_,rfl⟩;have HM:=zh hm;clear hm;by_cases e:k=0;all_goals
  try have e':(k==0)=false:=by simpa using e
  try have e':(k==0)=true:=by simpa using e
  have HE':=zh e;clear e;go_enter Tryd.func19,Tryd.ntmps19;go_wp2_with fail
 ·have hst0:=HI.o.keeps _ _ _ (((w.alloc (.cells #[.int .i64 k,.int .i64 n,.string s,.slice a l.length cap] 27)).alloc (.cells #[.int .i64 0,.int .i64 0,.string ByteArray.empty,.slice none 0 0] 27)).alloc (.cells #[.int .i64 k,.int .i64 n,.string s,.slice a l.length cap] 27)) HST.o (((Keeps.alloc _ _ _).trans (Keeps.alloc _ _ _)).trans (Keeps.alloc _ _ _));have hcl:=ZnK pb bs bw st M _ n hst0 (by have h1:=HND.o;have h2:=Tm.renS_ge (.mk k n s l) st;omega) hn;rw[show Zaq st n=(m,st1)by rw[HM.o,Tm.num,if_pos HE'.o]]at hcl;refine hcl.mono ?_;rintro e w1⟨rfl,hm64,M1,hch,hM1,hst1⟩;have hq1:=Zoe w (.cells #[.int .i64 k,.int .i64 n,.string s,.slice a l.length cap] 27) (.cells #[.int .i64 0,.int .i64 0,.string ByteArray.empty,.slice none 0 0] 27) (.cells #[.int .i64 k,.int .i64 n,.string s,.slice a l.length cap] 27);have hMl:=HMlt.o;have hz1:=hch.size;simp only[World.size_alloc]at hz1;have HB0:=zh ((hch.block _ (by simp<;>omega) (fun h=>by have :=hMl _ h;omega)).trans hq1.1);have HB2:=zh ((hch.block _ (by simp<;>omega) (fun h=>by have :=hMl _ h;omega)).trans hq1.2.1);have HB1:=zh ((hch.block _ (by simp<;>omega) (fun h=>by have :=hMl _ h;omega)).trans hq1.2.2);have HM1:Hd (∀b,M1 b->M b\/w.heap.size+3<=b):=fun b hb=>by have :=hM1 b hb;simpa[Nat.add_assoc]using this
  have HCH:=zh (((((Ch.refl M w).alloc _).alloc _).alloc _).trans hch (fun b hb=> .inl hb));have HST1:=zh hst1;have HM64:=zh (show I64 m from hm64);obtain⟨x0,x1,x2,x3,xf⟩:=Zbo HB1.o;obtain⟨z0,z1,z2,z3,zf⟩:=Zbo HB0.o;have hcs:=Zap;have HS4:Hd (st1.length<=st.length+1):=by have h5:=congrArg Prod.snd HM.o;simp only[Tm.num,if_pos HE'.o]at h5;rw[h5];exact HSZ.o st n
  clear hst0 hq1 hMl hch hM1 hst1 hm64 hcl HST;go_wp2_with fail;go_loopw[20](fun i wr=>∃(j:Nat)(v:Value)(sj:List Int)(Mj:Nat->Prop),j<=l.length/\i= .int .i64 j/\w.heap.size+3<=wr.heap.size/\Ch M w wr/\(∀b,Mj b->M b\/w.heap.size+3<=b)/\TdInv pb bs bw sj Mj wr/\wr.heap[w.heap.size+1]?=some (.cells #[.int .i64 0,.int .i64 0,.string ByteArray.empty,.slice none 0 0] 27 (0,0))/\wr.heap[w.heap.size+1+1]?=some (.cells #[.int .i64 k,.int .i64 m,.string s,v] 27 (0,0))/\sj=(Tm.renSL Zaq st1 (l.take j)).2/\(∀b,Zai v=some b->¬Mj b)/\OwnR wr (w.heap.size+3) 27 4 Tm.rep (fun b=>w.heap.size+3<=b/\¬Mj b) (Tm.renSL Zaq st1 (l.take j)).1 v)(fun i _=>l.length - (intOf i).toNat);case atStart=>
   refine⟨0,.slice none 0 0,st1,M1,Nat.zero_le _,rfl,by simp;omega,(HCH.o.setCell (by simp<;>omega) _).setCell (by simp<;>omega) _,HM1.o,HI.o.keeps _ _ _ _ HST1.o ((Keeps.setCell _ _ _ _ ?_).trans (Keeps.setCell _ _ _ _ ?_)),?_,?_,by simp[Tm.renSL],by simp[Zai],by simpa[Tm.renSL]using OwnR.nil ..⟩;·exact fun(h:M1 (w.heap.size+1+1))=>(HM1.o _ h).elim (fun h1=>by have :=HMlt.o _ h1;omega) (fun h1=>by omega)
   ·exact fun(h:M1 (w.heap.size+1+1))=>(HM1.o _ h).elim (fun h1=>by have :=HMlt.o _ h1;omega) (fun h1=>by omega)
   ·exact Zaj (A:=fun b=>b≠w.heap.size+1+1) HB2.o ((Keeps.setCell _ _ _ _ (by simp)).trans (Keeps.setCell _ _ _ _ (by simp))) (by omega)
   ·exact Zal (Zal HB1.o 1 _) 3 _
  case round=>
   obtain⟨j,v,sj,Mj,hj,rfl,hz,hch,hMj,hst,hB2,hB1,hsj,hob,hown⟩:=hrel;have hvl:(Tm.renSL Zaq st1 (l.take j)).1.length=j:=by rw[Tm.renSL_length];simp;omega
   obtain⟨va,vc,hv,hvc⟩:=hown.val;rw[hvl]at hv;subst hv;have HCJ:=zh hch;have HB1J:=zh hB1;have HB2J:=zh hB2;have HMJ:=zh hMj;have HSTJ:=zh hst;have HSJ:=zh hsj;have HOB:=zh hob;have HO:=zh hown;have HVL:=zh hvl;obtain⟨g0,g1,g2,g3,gf⟩:=Zbo HB1J.o;clear hch hMj hst hB2 hB1 hsj hob hown hvl;by_cases hlt:j<l.length
   ·obtain⟨rfl,hAb⟩:=HA.o (by omega);obtain⟨sa,sc,c0,c1,c2,c3,hr⟩:=ZbD HE.o hAb (HCJ.o.keeps fun b _ h=>(HAM.o b h).2) hlt;have HR:=zh hr;have lb:b<wr.heap.size:=World.block_lt_of_cell? wr _ c0;clear hr;try clear HB0
    try clear HB1 HB2 HCH HST1
    try clear x0 x1 x2 x3 xf z0 z1 z2 z3 zf hcs
    go_wp2_with fail;generalize hW:wr.alloc (.cells #[.int .i64 l[j].kind,.int .i64 l[j].n,.string l[j].s,.slice sa l[j].args.length sc] 27)=W0;have hW1:W0.drew.cell? ⟨w.heap.size+1+1,3,none⟩=some (.slice va j vc):=by subst hW;exact(Keeps.alloc (fun _=>True) _ _).cell trivial g3
    obtain⟨hx0,hx1,hx2,hx3, -⟩:=Zbo (show W0.drew.heap[wr.heap.size]?=_ by subst hW;exact Zar _ _);have hxw:W0.drew.cell? ⟨bw,0,none⟩=some (.func (.func 19) #[] #[.pointer (some ⟨bs,0,none⟩),.pointer (some ⟨bw,0,none⟩)]):=by subst hW;exact(Keeps.alloc (fun _=>True) _ _).cell trivial HSTJ.o.cw
    refine ZaF (F:=fun k w'=>(k=1\/k=2\/k=3)->w'.cell? ⟨w.heap.size+1+1,3,none⟩=some (.slice va j vc)/\w'.cell? ⟨wr.heap.size,0,none⟩=some (.int .i64 l[j].kind)/\w'.cell? ⟨wr.heap.size,1,none⟩=some (.int .i64 l[j].n)/\w'.cell? ⟨wr.heap.size,2,none⟩=some (.string l[j].s)/\w'.cell? ⟨wr.heap.size,3,none⟩=some (.slice sa l[j].args.length sc)/\w'.cell? ⟨bw,0,none⟩=some (.func (.func 19) #[] #[.pointer (some ⟨bs,0,none⟩),.pointer (some ⟨bw,0,none⟩)])) (by kernel_rfl) ?_;refine ZaO (i:=0) (v:=?_) rfl (Or.inl ⟨by rfl,?_⟩) (fun _=>⟨hW1,hx0,hx1,hx2,hx3,hxw⟩) ?_;rotate_left;·(intro w' hw;clear hw;go_simp<;>with_reducible rfl)
    try simp only[zP]
    refine ZaO (i:=1) (v:=?_) rfl (Or.inl ⟨by rfl,?_⟩) (fun _=>⟨hW1,hx0,hx1,hx2,hx3,hxw⟩) ?_;rotate_left;·(intro w' hw;obtain⟨q0,q1,q2,q3,q4,q5⟩:=hw (by omega);go_simp<;>with_reducible rfl)
    try simp only[zP]
    refine ZaO (i:=2) (v:=?_) rfl (Or.inl ⟨by rfl,?_⟩) (fun _=>⟨hW1,hx0,hx1,hx2,hx3,hxw⟩) ?_;rotate_left;·(intro w' hw;obtain⟨q0,q1,q2,q3,q4,q5⟩:=hw (by omega);go_simp<;>with_reducible rfl)
    try simp only[zP]
    refine ZaO (i:=3) (v:=?_) rfl (Or.inl ⟨by rfl,?_⟩) (fun _=>⟨hW1,hx0,hx1,hx2,hx3,hxw⟩) ?_;rotate_left;·(intro w' hw;obtain⟨q0,q1,q2,q3,q4,q5⟩:=hw (by omega);go_simp<;>with_reducible rfl)
    try simp only[zP]
    refine Zac (i:=4) (by kernel_rfl) (Zae rfl (by rfl) ?_);go_simp;have hKd:Keeps (fun _=>True) wr W0.drew:=by subst hW;exact(Keeps.alloc _ _ _).trans (Keeps.drew _ _)
    have hsW:W0.heap.size=wr.heap.size+1:=by subst hW;simp
    have hrd:Tm.rep A W0.drew l[j] _:=Tm.rep_lasts.1 _ _ _ _ _ HR.o (hKd.mono fun _ _ _=>trivial);have hnd:(Tm.renS Zaq sj l[j]).2.length<=4194303:=by have h1:=Tm.renSL_part l st1 j hlt;have h3:=HND.o;simp only[Tm.renS]at h3;rw[<-HM.o]at h3;dsimp only at h3;rw[HSJ.o];omega
    have hMA:∀b,A b->b<W0.drew.heap.size/\¬Mj b:=fun b hb=>by
     have h1:=HAM.o b hb;refine⟨by simp only[World.size_drew];omega,fun h2=>?_⟩;rcases HMJ.o b h2 with h3|h3;·exact h1.2 h3
     ·omega
    refine(IH.out _ (List.getElem_mem hlt) sj Mj A _ _ (HI.o.keeps _ _ _ _ HSTJ.o (hKd.mono fun _ _ _=>trivial)) hnd hrd hMA).mono ?_;rintro e w1⟨us,M2,rfl,hch1,hM2,hst2,hr⟩;obtain⟨sa',sc',rfl, -⟩:=Tm.rep4 hr;have hsz:=hch1.size;simp only[World.size_drew]at hsz hM2 hr;have hlt2:=HO.o.lt;have hM2l:=HI.o.lt _ _ _ hst2;have hMM:∀b,M2 b->M b\/w.heap.size+3<=b:=fun b hb=>by
     rcases hM2 b hb with h1|h1;·exact HMJ.o b h1
     ·exact .inr (by omega)
    have hn2:∀b,b<W0.heap.size->¬Mj b->¬M2 b:=fun b hb hn h=>by
     rcases hM2 b h with h1|h1;·exact hn h1
     ·omega
    have hHO:OwnR W0.drew _ _ _ _ _ _ _:=HO.o.keeps Tm.rep_lasts hKd (fun _ _=>trivial) (fun _ _=>trivial);have hHO2:OwnR w1 _ _ _ _ (fun b=>w.heap.size+3<=b/\¬M2 b) _ _:=((hHO.mono (A':=fun b=>w.heap.size+3<=b/\¬M2 b/\¬Mj b) Tm.rep_lasts (fun b hb hb'=>⟨hb'.1,hn2 b hb hb'.2,hb'.2⟩)).keeps (B:=fun b=>¬Mj b) Tm.rep_lasts (hch1.keeps fun _ _ h=>h) (fun _ h=>h.2.2) HOB.o).mono Tm.rep_lasts (fun b _ hb=>⟨hb.1,hb.2.1⟩);have HO1:=zh hHO2;have HOB2:Hd (∀b,Zai (.slice va j vc)=some b->¬M2 b):=fun b hb=>hn2 b (by have :=(hlt2 b hb).2;omega) (HOB.o b hb);have HN:=zh (show Tm.rep (fun b=>(w.heap.size+3<=b/\¬M2 b)/\Zai (.slice va j vc)≠some b) w1 _ _ from Tm.rep_lasts.2.1 _ _ _ _ _ hr fun b _ hb=>⟨⟨by omega,hb.2⟩,fun e=>by have :=(hlt2 b e).2;omega⟩);have HL:=zh (show(Tm.renSL Zaq st1 (l.take j)).1.length<4194304/\w.heap.size+3<=w1.heap.size by rw[HVL.o];omega);have hnb:∀b,b<w.heap.size+3->w.heap.size<=b->¬Mj b:=fun b h1 h2 h3=>by
     rcases HMJ.o b h3 with h4|h4;·have :=HMlt.o b h4;omega
     ·omega
    have HCH2:Hd (Ch M w w1):=zh (((show Ch M w W0.drew by subst hW;exact(HCJ.o.alloc _).drew)).trans hch1 (fun b hb=>by rcases HMJ.o b hb with h|h;exact .inl h;exact .inr (by omega)));have hkj:=hch1.keeps (A:=fun b=>¬Mj b) (fun _ _ h=>h);have nwr:¬Mj wr.heap.size:=fun h=>by have :=HI.o.lt _ _ _ HSTJ.o _ h;omega
    have HQ:=zh (show w1.cell? ⟨w.heap.size+1+1,3,none⟩=some (.slice va j vc)/\w1.cell? ⟨wr.heap.size,0,none⟩=some (.int .i64 l[j].kind)/\w1.cell? ⟨wr.heap.size,1,none⟩=some (.int .i64 l[j].n)/\w1.cell? ⟨wr.heap.size,2,none⟩=some (.string l[j].s)/\w1.cell? ⟨wr.heap.size,3,none⟩=some (.slice sa l[j].args.length sc)/\w1.cell? ⟨bw,0,none⟩=some (.func (.func 19) #[] #[.pointer (some ⟨bs,0,none⟩),.pointer (some ⟨bw,0,none⟩)])from⟨hkj.cell (hnb _ (by omega) (by omega)) hW1,hkj.cell nwr hx0,hkj.cell nwr hx1,hkj.cell nwr hx2,hkj.cell nwr hx3,hst2.cw⟩);have HB1':=zh (show w1.heap[w.heap.size+1+1]?=_ from Zaj (w:=W0.drew) (by subst hW;exact Zag HB1J.o _) hkj (hnb _ (by omega) (by omega)));have HB2':=zh (show w1.heap[w.heap.size+1]?=_ from Zaj (w:=W0.drew) (by subst hW;exact Zag HB2J.o _) hkj (hnb _ (by omega) (by omega)));have HST2:=zh hst2;have HM2l:=zh hM2l;have HMM:=zh hMM;clear hrd hr hch1 hHO hHO2 hst2 hM2l hMM hn2 hnb hkj nwr hM2 hMA hnd hKd;refine⟨fun _ _ _ _=>HQ.o,?_⟩;refine Zac (i:=5) (by kernel_rfl) (Zae rfl (by rfl) ?_);go_simp;refine⟨fun _ _ _ _=>?_,?_⟩;·obtain⟨q0,q1,q2,q3,q4,q5⟩:=HQ.o;have ka:=Keeps.alloc (fun _=>True) w1 (.cells #[.int .i64 (Tm.renS Zaq sj l[j]).1.kind,.int .i64 (Tm.renS Zaq sj l[j]).1.n,.string (Tm.renS Zaq sj l[j]).1.s,.slice sa' (Tm.renS Zaq sj l[j]).1.args.length sc'] 27);exact⟨ka.cell trivial q0,ka.cell trivial q1,ka.cell trivial q2,ka.cell trivial q3,ka.cell trivial q4,ka.cell trivial q5⟩
    refine Zac (i:=6) (by kernel_rfl) (Zae rfl (by rfl) ?_);refine Zce (.tmp 25) (.tmp 29) 22 rfl (w.heap.size+3) 27 4 56 Zfn Tm.rep_lasts _ _ rfl HO1.o (Tm.renS Zaq sj l[j]).1 [_,_,_,_] rfl rfl HN.o HL.o ?_;intro v2 w2 hown2 hgrew;have hk2:=hgrew.keeps (A:=fun b=>Zai (.slice va j vc)≠some b) (fun _ h=>h);have hka:=(Keeps.alloc (fun b=>Zai (.slice va j vc)≠some b) w1 (.cells #[.int .i64 (Tm.renS Zaq sj l[j]).1.kind,.int .i64 (Tm.renS Zaq sj l[j]).1.n,.string (Tm.renS Zaq sj l[j]).1.s,.slice sa' (Tm.renS Zaq sj l[j]).1.args.length sc'] 27)).trans hk2;have n1:Zai (.slice va j vc)≠some (w.heap.size+1+1):=fun e=>by have :=(hlt2 _ e).1;omega
    have n2:Zai (.slice va j vc)≠some wr.heap.size:=fun e=>by have :=(hlt2 _ e).2;omega
    have n3:Zai (.slice va j vc)≠some (w.heap.size+1):=fun e=>by have :=(hlt2 _ e).1;omega
    have n4:Zai (.slice va j vc)≠some bw:=fun e=>HOB.o bw e HSTJ.o.mw;have HB12:=zh (Zaj HB1'.o hka n1);have HB22:=zh (Zaj HB2'.o hka n3);have HCH3:=zh (hgrew.ch (HCH2.o.alloc (.cells #[.int .i64 (Tm.renS Zaq sj l[j]).1.kind,.int .i64 (Tm.renS Zaq sj l[j]).1.n,.string (Tm.renS Zaq sj l[j]).1.s,.slice sa' (Tm.renS Zaq sj l[j]).1.args.length sc'] 27)) (fun b hb=> .inr (by have :=(hlt2 b hb).1;omega)));have HST3:=zh (HI.o.keeps _ _ _ _ HST2.o (hka.mono fun b _ hb e=>HOB2.o b e hb));have HOB3:Hd (∀b,Zai v2=some b->¬M2 b):=fun b hb hm=>by
     have h1:=hgrew.block;rcases h1 with h1|h1;·exact HOB2.o b (h1.symm.trans hb) hm
     ·have h2:=h1 b hb;have h3:=HM2l.o b hm;simp only[World.size_alloc]at h2;omega
    obtain⟨va2,vc2,hv2,hvc2⟩:=hown2.val;rw[show((Tm.renSL Zaq st1 (l.take j)).1++[(Tm.renS Zaq sj l[j]).1]).length=j+1 by rw[List.length_append,HVL.o];rfl]at hv2;subst hv2;have hz2:=hgrew.size;have HO2:=zh hown2;simp only[World.size_alloc]at hz2;obtain⟨y0,y1,y2,y3,yf⟩:=Zbo HB12.o;refine⟨fun _ _ _ _=>?_,?_⟩;·obtain⟨q0,q1,q2,q3,q4,q5⟩:=HQ.o;exact⟨hka.cell n1 q0,hka.cell n2 q1,hka.cell n2 q2,hka.cell n2 q3,hka.cell n2 q4,hka.cell n4 q5⟩
    clear hown2 hka hk2;simp only[zP];refine ZaO (i:=7) (v:=?_) rfl (Or.inl ⟨by rfl,?_⟩) (fun h=>by omega) ?_;rotate_left;·(intro w' hw;clear hw;go_simp<;>with_reducible rfl)
    try simp only[zP]
    refine Zac (i:=8) (by kernel_rfl) (Zae rfl (by rfl) ?_);go_simp;refine⟨fun k0 hk0 _ h12=>?_,Zau (by kernel_rfl) ?_ _⟩
    ·rcases h12 with rfl|rfl|rfl;·exact absurd (show waits _ 8 1=true by kernel_rfl) (by rw[hk0];decide)
     ·exact absurd (show waits _ 8 2=true by kernel_rfl) (by rw[hk0];decide)
     ·exact absurd (show waits _ 8 3=true by kernel_rfl) (by rw[hk0];decide)
    have HB3:=zh (Zal HB12.o 3 (.slice va2 (j+1) vc2));have hz3:(w2.setCell ⟨w.heap.size+1+1,3,none⟩ (.slice va2 (j+1) vc2)).heap.size=w2.heap.size:=by simp
    have HK3:=zh (Keeps.setCell (fun b=>b≠w.heap.size+1+1) w2 ⟨w.heap.size+1+1,3,none⟩ (.slice va2 (j+1) vc2) (by simp));clear hgrew;go_wp2_with fail;go_roundw;case rel=>
     have hnw:∀b,M2 b->b≠w.heap.size+1+1:=fun b hb e=>by
      rcases HMM.o b hb with h|h;·have :=HMlt.o b h;omega
      ·omega
     refine⟨j+1,_,_,M2,by omega,by go_num,by omega,HCH3.o.setCell (.inr (by simp<;>omega)) _,HMM.o,HI.o.keeps _ _ _ _ HST3.o (HK3.o.mono fun b _ hb=>hnw b hb),Zaj HB22.o HK3.o (by omega),HB3.o,?_,HOB3.o,?_⟩;·rw[List.take_succ_eq_append_getElem hlt,Tm.renSL_snoc,<-HSJ.o]
     ·rw[List.take_succ_eq_append_getElem hlt,Tm.renSL_snoc,<-HSJ.o];exact HO2.o.keeps Tm.rep_lasts HK3.o (fun b hb=>by omega) (fun b hb=>by have :=(HO2.o.lt b hb).1;omega)
    case measure=>simp[intOf];omega
   ·have :j=l.length:=by omega
    subst this;try clear z0 z1 z2 z3 zf
    obtain⟨z0,z1,z2,z3,zf⟩:=Zbo HB2J.o;try clear hcs
    have hcs:=Zap;try clear HB0
    try clear HB1 HB2 HCH HST1
    try clear x0 x1 x2 x3 xf
    go_wp2_with fail;refine bodyPost_ret (v:= .agg #[.int .i64 k,.int .i64 m,.string s,.slice va l.length vc]) (by simp[results,Tryd.results19,go_sem,hcs,z0,z1,z2,z3]) rfl ⟨[_,_,_,_],Mj,rfl,?_,fun b hb=>?_,?_,?_⟩;·refine Ch.setCell (Ch.setCell (Ch.setCell (Ch.setCell HCJ.o ?_ _) ?_ _) ?_ _) ?_ _<;>simp
    ·rcases HMJ.o b hb with h|h;·exact .inl h
     ·exact .inr (by omega)
    ·have hs2:=HSJ.o;rw[List.take_length]at hs2;have h2:(Tm.renS Zaq st (.mk k n s l)).2=sj:=by rw[Tm.renS,<-HM.o];exact hs2.symm
     rw[h2];have hnw:∀b,Mj b->b≠w.heap.size+1:=fun b hb e=>by
      rcases HMJ.o b hb with h|h;·have :=HMlt.o b h;omega
      ·omega
     refine HI.o.keeps _ _ _ _ HSTJ.o (Keeps.trans (Keeps.trans (Keeps.trans (Keeps.setCell _ _ _ _ ?_) (Keeps.setCell _ _ _ _ ?_)) (Keeps.setCell _ _ _ _ ?_)) (Keeps.setCell _ _ _ _ ?_))<;>exact fun h=>hnw _ h rfl
    ·have hO:=HO.o;rw[List.take_length]at hO;have hsl:=(hO.mono (A':=fun b=>w.heap.size+3<=b/\¬Mj b) Tm.rep_lasts (fun b _ hb=>hb));have hsl2:SlR 4 Tm.rep (fun b=>w.heap.size+3<=b/\¬Mj b) wr (Tm.renSL Zaq st1 l).1 (.slice va l.length vc):=hO.sl' Tm.rep_lasts (by rw[Tm.renSL_length];exact hlb) (fun b hb=>⟨by have :=(HO.o.lt b hb).1;omega,HOB.o b hb⟩);rw[Tm.renS,<-HM.o];rw[Tm.rep_iff];refine⟨hk,HM64.o,hs,_,rfl,?_⟩;refine SlR.mono Tm.rep_lasts (by omega) (SlR.keeps Tm.rep_lasts hsl2 ?_) (fun b _ hb=>⟨by omega,hb.2⟩);refine Keeps.trans (Keeps.trans (Keeps.trans (Keeps.setCell _ _ _ _ ?_) (Keeps.setCell _ _ _ _ ?_)) (Keeps.setCell _ _ _ _ ?_)) (Keeps.setCell _ _ _ _ ?_)<;>simp
 ·have HB1:=zh (Zoe w (.cells #[.int .i64 k,.int .i64 n,.string s,.slice a l.length cap] 27) (.cells #[.int .i64 0,.int .i64 0,.string ByteArray.empty,.slice none 0 0] 27) (.cells #[.int .i64 k,.int .i64 n,.string s,.slice none 0 0] 27)).2.2;have HB2:=zh (Zoe w (.cells #[.int .i64 k,.int .i64 n,.string s,.slice a l.length cap] 27) (.cells #[.int .i64 0,.int .i64 0,.string ByteArray.empty,.slice none 0 0] 27) (.cells #[.int .i64 k,.int .i64 n,.string s,.slice none 0 0] 27)).2.1;have HMN:m=n/\st1=st:=by have :=HM.o;rw[Tm.num,if_neg HE'.o]at this;simpa using this
  obtain⟨rfl,rfl⟩:=HMN;have HM64:=zh hn;have HCH:=zh ((((Ch.refl M w).alloc (.cells #[.int .i64 k,.int .i64 m,.string s,.slice a l.length cap] 27)).alloc (.cells #[.int .i64 0,.int .i64 0,.string ByteArray.empty,.slice none 0 0] 27)).alloc (.cells #[.int .i64 k,.int .i64 m,.string s,.slice none 0 0] 27));have HST1:=zh (HI.o.keeps _ _ _ (((w.alloc (.cells #[.int .i64 k,.int .i64 m,.string s,.slice a l.length cap] 27)).alloc (.cells #[.int .i64 0,.int .i64 0,.string ByteArray.empty,.slice none 0 0] 27)).alloc (.cells #[.int .i64 k,.int .i64 m,.string s,.slice none 0 0] 27)) HST.o (((Keeps.alloc _ _ _).trans (Keeps.alloc _ _ _)).trans (Keeps.alloc _ _ _)));have HS4:Hd (st1.length<=st1.length+1):=Nat.le_succ _;clear HST;go_loopw[20](fun i wr=>∃(j:Nat)(v:Value)(sj:List Int)(Mj:Nat->Prop),j<=l.length/\i= .int .i64 j/\w.heap.size+3<=wr.heap.size/\Ch M w wr/\(∀b,Mj b->M b\/w.heap.size+3<=b)/\TdInv pb bs bw sj Mj wr/\wr.heap[w.heap.size+1]?=some (.cells #[.int .i64 0,.int .i64 0,.string ByteArray.empty,.slice none 0 0] 27 (0,0))/\wr.heap[w.heap.size+1+1]?=some (.cells #[.int .i64 k,.int .i64 m,.string s,v] 27 (0,0))/\sj=(Tm.renSL Zaq st1 (l.take j)).2/\(∀b,Zai v=some b->¬Mj b)/\OwnR wr (w.heap.size+3) 27 4 Tm.rep (fun b=>w.heap.size+3<=b/\¬Mj b) (Tm.renSL Zaq st1 (l.take j)).1 v)(fun i _=>l.length - (intOf i).toNat);case atStart=>exact⟨0,.slice none 0 0,st1,M,Nat.zero_le _,rfl,by simp,HCH.o,fun b hb=> .inl hb,HST1.o,HB2.o,HB1.o,by simp[Tm.renSL],by simp[Zai],by simpa[Tm.renSL]using OwnR.nil ..⟩
  case round=>
   obtain⟨j,v,sj,Mj,hj,rfl,hz,hch,hMj,hst,hB2,hB1,hsj,hob,hown⟩:=hrel;have hvl:(Tm.renSL Zaq st1 (l.take j)).1.length=j:=by rw[Tm.renSL_length];simp;omega
   obtain⟨va,vc,hv,hvc⟩:=hown.val;rw[hvl]at hv;subst hv;have HCJ:=zh hch;have HB1J:=zh hB1;have HB2J:=zh hB2;have HMJ:=zh hMj;have HSTJ:=zh hst;have HSJ:=zh hsj;have HOB:=zh hob;have HO:=zh hown;have HVL:=zh hvl;obtain⟨g0,g1,g2,g3,gf⟩:=Zbo HB1J.o;clear hch hMj hst hB2 hB1 hsj hob hown hvl;by_cases hlt:j<l.length
   ·obtain⟨rfl,hAb⟩:=HA.o (by omega);obtain⟨sa,sc,c0,c1,c2,c3,hr⟩:=ZbD HE.o hAb (HCJ.o.keeps fun b _ h=>(HAM.o b h).2) hlt;have HR:=zh hr;have lb:b<wr.heap.size:=World.block_lt_of_cell? wr _ c0;clear hr;try clear HB0
    try clear HB1 HB2 HCH HST1
    try clear x0 x1 x2 x3 xf z0 z1 z2 z3 zf hcs
    go_wp2_with fail;generalize hW:wr.alloc (.cells #[.int .i64 l[j].kind,.int .i64 l[j].n,.string l[j].s,.slice sa l[j].args.length sc] 27)=W0;have hW1:W0.drew.cell? ⟨w.heap.size+1+1,3,none⟩=some (.slice va j vc):=by subst hW;exact(Keeps.alloc (fun _=>True) _ _).cell trivial g3
    obtain⟨hx0,hx1,hx2,hx3, -⟩:=Zbo (show W0.drew.heap[wr.heap.size]?=_ by subst hW;exact Zar _ _);have hxw:W0.drew.cell? ⟨bw,0,none⟩=some (.func (.func 19) #[] #[.pointer (some ⟨bs,0,none⟩),.pointer (some ⟨bw,0,none⟩)]):=by subst hW;exact(Keeps.alloc (fun _=>True) _ _).cell trivial HSTJ.o.cw
    refine ZaF (F:=fun k w'=>(k=1\/k=2\/k=3)->w'.cell? ⟨w.heap.size+1+1,3,none⟩=some (.slice va j vc)/\w'.cell? ⟨wr.heap.size,0,none⟩=some (.int .i64 l[j].kind)/\w'.cell? ⟨wr.heap.size,1,none⟩=some (.int .i64 l[j].n)/\w'.cell? ⟨wr.heap.size,2,none⟩=some (.string l[j].s)/\w'.cell? ⟨wr.heap.size,3,none⟩=some (.slice sa l[j].args.length sc)/\w'.cell? ⟨bw,0,none⟩=some (.func (.func 19) #[] #[.pointer (some ⟨bs,0,none⟩),.pointer (some ⟨bw,0,none⟩)])) (by kernel_rfl) ?_;refine ZaO (i:=0) (v:=?_) rfl (Or.inl ⟨by rfl,?_⟩) (fun _=>⟨hW1,hx0,hx1,hx2,hx3,hxw⟩) ?_;rotate_left;·(intro w' hw;clear hw;go_simp<;>with_reducible rfl)
    try simp only[zP]
    refine ZaO (i:=1) (v:=?_) rfl (Or.inl ⟨by rfl,?_⟩) (fun _=>⟨hW1,hx0,hx1,hx2,hx3,hxw⟩) ?_;rotate_left;·(intro w' hw;obtain⟨q0,q1,q2,q3,q4,q5⟩:=hw (by omega);go_simp<;>with_reducible rfl)
    try simp only[zP]
    refine ZaO (i:=2) (v:=?_) rfl (Or.inl ⟨by rfl,?_⟩) (fun _=>⟨hW1,hx0,hx1,hx2,hx3,hxw⟩) ?_;rotate_left;·(intro w' hw;obtain⟨q0,q1,q2,q3,q4,q5⟩:=hw (by omega);go_simp<;>with_reducible rfl)
    try simp only[zP]
    refine ZaO (i:=3) (v:=?_) rfl (Or.inl ⟨by rfl,?_⟩) (fun _=>⟨hW1,hx0,hx1,hx2,hx3,hxw⟩) ?_;rotate_left;·(intro w' hw;obtain⟨q0,q1,q2,q3,q4,q5⟩:=hw (by omega);go_simp<;>with_reducible rfl)
    try simp only[zP]
    refine Zac (i:=4) (by kernel_rfl) (Zae rfl (by rfl) ?_);go_simp;have hKd:Keeps (fun _=>True) wr W0.drew:=by subst hW;exact(Keeps.alloc _ _ _).trans (Keeps.drew _ _)
    have hsW:W0.heap.size=wr.heap.size+1:=by subst hW;simp
    have hrd:Tm.rep A W0.drew l[j] _:=Tm.rep_lasts.1 _ _ _ _ _ HR.o (hKd.mono fun _ _ _=>trivial);have hnd:(Tm.renS Zaq sj l[j]).2.length<=4194303:=by have h1:=Tm.renSL_part l st1 j hlt;have h3:=HND.o;simp only[Tm.renS]at h3;rw[<-HM.o]at h3;dsimp only at h3;rw[HSJ.o];omega
    have hMA:∀b,A b->b<W0.drew.heap.size/\¬Mj b:=fun b hb=>by
     have h1:=HAM.o b hb;refine⟨by simp only[World.size_drew];omega,fun h2=>?_⟩;rcases HMJ.o b h2 with h3|h3;·exact h1.2 h3
     ·omega
    refine(IH.out _ (List.getElem_mem hlt) sj Mj A _ _ (HI.o.keeps _ _ _ _ HSTJ.o (hKd.mono fun _ _ _=>trivial)) hnd hrd hMA).mono ?_;rintro e w1⟨us,M2,rfl,hch1,hM2,hst2,hr⟩;obtain⟨sa',sc',rfl, -⟩:=Tm.rep4 hr;have hsz:=hch1.size;simp only[World.size_drew]at hsz hM2 hr;have hlt2:=HO.o.lt;have hM2l:=HI.o.lt _ _ _ hst2;have hMM:∀b,M2 b->M b\/w.heap.size+3<=b:=fun b hb=>by
     rcases hM2 b hb with h1|h1;·exact HMJ.o b h1
     ·exact .inr (by omega)
    have hn2:∀b,b<W0.heap.size->¬Mj b->¬M2 b:=fun b hb hn h=>by
     rcases hM2 b h with h1|h1;·exact hn h1
     ·omega
    have hHO:OwnR W0.drew _ _ _ _ _ _ _:=HO.o.keeps Tm.rep_lasts hKd (fun _ _=>trivial) (fun _ _=>trivial);have hHO2:OwnR w1 _ _ _ _ (fun b=>w.heap.size+3<=b/\¬M2 b) _ _:=((hHO.mono (A':=fun b=>w.heap.size+3<=b/\¬M2 b/\¬Mj b) Tm.rep_lasts (fun b hb hb'=>⟨hb'.1,hn2 b hb hb'.2,hb'.2⟩)).keeps (B:=fun b=>¬Mj b) Tm.rep_lasts (hch1.keeps fun _ _ h=>h) (fun _ h=>h.2.2) HOB.o).mono Tm.rep_lasts (fun b _ hb=>⟨hb.1,hb.2.1⟩);have HO1:=zh hHO2;have HOB2:Hd (∀b,Zai (.slice va j vc)=some b->¬M2 b):=fun b hb=>hn2 b (by have :=(hlt2 b hb).2;omega) (HOB.o b hb);have HN:=zh (show Tm.rep (fun b=>(w.heap.size+3<=b/\¬M2 b)/\Zai (.slice va j vc)≠some b) w1 _ _ from Tm.rep_lasts.2.1 _ _ _ _ _ hr fun b _ hb=>⟨⟨by omega,hb.2⟩,fun e=>by have :=(hlt2 b e).2;omega⟩);have HL:=zh (show(Tm.renSL Zaq st1 (l.take j)).1.length<4194304/\w.heap.size+3<=w1.heap.size by rw[HVL.o];omega);have hnb:∀b,b<w.heap.size+3->w.heap.size<=b->¬Mj b:=fun b h1 h2 h3=>by
     rcases HMJ.o b h3 with h4|h4;·have :=HMlt.o b h4;omega
     ·omega
    have HCH2:Hd (Ch M w w1):=zh (((show Ch M w W0.drew by subst hW;exact(HCJ.o.alloc _).drew)).trans hch1 (fun b hb=>by rcases HMJ.o b hb with h|h;exact .inl h;exact .inr (by omega)));have hkj:=hch1.keeps (A:=fun b=>¬Mj b) (fun _ _ h=>h);have nwr:¬Mj wr.heap.size:=fun h=>by have :=HI.o.lt _ _ _ HSTJ.o _ h;omega
    have HQ:=zh (show w1.cell? ⟨w.heap.size+1+1,3,none⟩=some (.slice va j vc)/\w1.cell? ⟨wr.heap.size,0,none⟩=some (.int .i64 l[j].kind)/\w1.cell? ⟨wr.heap.size,1,none⟩=some (.int .i64 l[j].n)/\w1.cell? ⟨wr.heap.size,2,none⟩=some (.string l[j].s)/\w1.cell? ⟨wr.heap.size,3,none⟩=some (.slice sa l[j].args.length sc)/\w1.cell? ⟨bw,0,none⟩=some (.func (.func 19) #[] #[.pointer (some ⟨bs,0,none⟩),.pointer (some ⟨bw,0,none⟩)])from⟨hkj.cell (hnb _ (by omega) (by omega)) hW1,hkj.cell nwr hx0,hkj.cell nwr hx1,hkj.cell nwr hx2,hkj.cell nwr hx3,hst2.cw⟩);have HB1':=zh (show w1.heap[w.heap.size+1+1]?=_ from Zaj (w:=W0.drew) (by subst hW;exact Zag HB1J.o _) hkj (hnb _ (by omega) (by omega)));have HB2':=zh (show w1.heap[w.heap.size+1]?=_ from Zaj (w:=W0.drew) (by subst hW;exact Zag HB2J.o _) hkj (hnb _ (by omega) (by omega)));have HST2:=zh hst2;have HM2l:=zh hM2l;have HMM:=zh hMM;clear hrd hr hch1 hHO hHO2 hst2 hM2l hMM hn2 hnb hkj nwr hM2 hMA hnd hKd;refine⟨fun _ _ _ _=>HQ.o,?_⟩;refine Zac (i:=5) (by kernel_rfl) (Zae rfl (by rfl) ?_);go_simp;refine⟨fun _ _ _ _=>?_,?_⟩;·obtain⟨q0,q1,q2,q3,q4,q5⟩:=HQ.o;have ka:=Keeps.alloc (fun _=>True) w1 (.cells #[.int .i64 (Tm.renS Zaq sj l[j]).1.kind,.int .i64 (Tm.renS Zaq sj l[j]).1.n,.string (Tm.renS Zaq sj l[j]).1.s,.slice sa' (Tm.renS Zaq sj l[j]).1.args.length sc'] 27);exact⟨ka.cell trivial q0,ka.cell trivial q1,ka.cell trivial q2,ka.cell trivial q3,ka.cell trivial q4,ka.cell trivial q5⟩
    refine Zac (i:=6) (by kernel_rfl) (Zae rfl (by rfl) ?_);refine Zce (.tmp 25) (.tmp 29) 22 rfl (w.heap.size+3) 27 4 56 Zfn Tm.rep_lasts _ _ rfl HO1.o (Tm.renS Zaq sj l[j]).1 [_,_,_,_] rfl rfl HN.o HL.o ?_;intro v2 w2 hown2 hgrew;have hk2:=hgrew.keeps (A:=fun b=>Zai (.slice va j vc)≠some b) (fun _ h=>h);have hka:=(Keeps.alloc (fun b=>Zai (.slice va j vc)≠some b) w1 (.cells #[.int .i64 (Tm.renS Zaq sj l[j]).1.kind,.int .i64 (Tm.renS Zaq sj l[j]).1.n,.string (Tm.renS Zaq sj l[j]).1.s,.slice sa' (Tm.renS Zaq sj l[j]).1.args.length sc'] 27)).trans hk2;have n1:Zai (.slice va j vc)≠some (w.heap.size+1+1):=fun e=>by have :=(hlt2 _ e).1;omega
    have n2:Zai (.slice va j vc)≠some wr.heap.size:=fun e=>by have :=(hlt2 _ e).2;omega
    have n3:Zai (.slice va j vc)≠some (w.heap.size+1):=fun e=>by have :=(hlt2 _ e).1;omega
    have n4:Zai (.slice va j vc)≠some bw:=fun e=>HOB.o bw e HSTJ.o.mw;have HB12:=zh (Zaj HB1'.o hka n1);have HB22:=zh (Zaj HB2'.o hka n3);have HCH3:=zh (hgrew.ch (HCH2.o.alloc (.cells #[.int .i64 (Tm.renS Zaq sj l[j]).1.kind,.int .i64 (Tm.renS Zaq sj l[j]).1.n,.string (Tm.renS Zaq sj l[j]).1.s,.slice sa' (Tm.renS Zaq sj l[j]).1.args.length sc'] 27)) (fun b hb=> .inr (by have :=(hlt2 b hb).1;omega)));have HST3:=zh (HI.o.keeps _ _ _ _ HST2.o (hka.mono fun b _ hb e=>HOB2.o b e hb));have HOB3:Hd (∀b,Zai v2=some b->¬M2 b):=fun b hb hm=>by
     have h1:=hgrew.block;rcases h1 with h1|h1;·exact HOB2.o b (h1.symm.trans hb) hm
     ·have h2:=h1 b hb;have h3:=HM2l.o b hm;simp only[World.size_alloc]at h2;omega
    obtain⟨va2,vc2,hv2,hvc2⟩:=hown2.val;rw[show((Tm.renSL Zaq st1 (l.take j)).1++[(Tm.renS Zaq sj l[j]).1]).length=j+1 by rw[List.length_append,HVL.o];rfl]at hv2;subst hv2;have hz2:=hgrew.size;have HO2:=zh hown2;simp only[World.size_alloc]at hz2;obtain⟨y0,y1,y2,y3,yf⟩:=Zbo HB12.o;refine⟨fun _ _ _ _=>?_,?_⟩;·obtain⟨q0,q1,q2,q3,q4,q5⟩:=HQ.o;exact⟨hka.cell n1 q0,hka.cell n2 q1,hka.cell n2 q2,hka.cell n2 q3,hka.cell n2 q4,hka.cell n4 q5⟩
    clear hown2 hka hk2;simp only[zP];refine ZaO (i:=7) (v:=?_) rfl (Or.inl ⟨by rfl,?_⟩) (fun h=>by omega) ?_;rotate_left;·(intro w' hw;clear hw;go_simp<;>with_reducible rfl)
    try simp only[zP]
    refine Zac (i:=8) (by kernel_rfl) (Zae rfl (by rfl) ?_);go_simp;refine⟨fun k0 hk0 _ h12=>?_,Zau (by kernel_rfl) ?_ _⟩
    ·rcases h12 with rfl|rfl|rfl;·exact absurd (show waits _ 8 1=true by kernel_rfl) (by rw[hk0];decide)
     ·exact absurd (show waits _ 8 2=true by kernel_rfl) (by rw[hk0];decide)
     ·exact absurd (show waits _ 8 3=true by kernel_rfl) (by rw[hk0];decide)
    have HB3:=zh (Zal HB12.o 3 (.slice va2 (j+1) vc2));have hz3:(w2.setCell ⟨w.heap.size+1+1,3,none⟩ (.slice va2 (j+1) vc2)).heap.size=w2.heap.size:=by simp
    have HK3:=zh (Keeps.setCell (fun b=>b≠w.heap.size+1+1) w2 ⟨w.heap.size+1+1,3,none⟩ (.slice va2 (j+1) vc2) (by simp));clear hgrew;go_wp2_with fail;go_roundw;case rel=>
     have hnw:∀b,M2 b->b≠w.heap.size+1+1:=fun b hb e=>by
      rcases HMM.o b hb with h|h;·have :=HMlt.o b h;omega
      ·omega
     refine⟨j+1,_,_,M2,by omega,by go_num,by omega,HCH3.o.setCell (.inr (by simp<;>omega)) _,HMM.o,HI.o.keeps _ _ _ _ HST3.o (HK3.o.mono fun b _ hb=>hnw b hb),Zaj HB22.o HK3.o (by omega),HB3.o,?_,HOB3.o,?_⟩;·rw[List.take_succ_eq_append_getElem hlt,Tm.renSL_snoc,<-HSJ.o]
     ·rw[List.take_succ_eq_append_getElem hlt,Tm.renSL_snoc,<-HSJ.o];exact HO2.o.keeps Tm.rep_lasts HK3.o (fun b hb=>by omega) (fun b hb=>by have :=(HO2.o.lt b hb).1;omega)
    case measure=>simp[intOf];omega
   ·have :j=l.length:=by omega
    subst this;try clear z0 z1 z2 z3 zf
    obtain⟨z0,z1,z2,z3,zf⟩:=Zbo HB2J.o;try clear hcs
    have hcs:=Zap;try clear HB0
    try clear HB1 HB2 HCH HST1
    try clear x0 x1 x2 x3 xf
    go_wp2_with fail;refine bodyPost_ret (v:= .agg #[.int .i64 k,.int .i64 m,.string s,.slice va l.length vc]) (by simp[results,Tryd.results19,go_sem,hcs,z0,z1,z2,z3]) rfl ⟨[_,_,_,_],Mj,rfl,?_,fun b hb=>?_,?_,?_⟩;·refine Ch.setCell (Ch.setCell (Ch.setCell (Ch.setCell HCJ.o ?_ _) ?_ _) ?_ _) ?_ _<;>simp
    ·rcases HMJ.o b hb with h|h;·exact .inl h
     ·exact .inr (by omega)
    ·have hs2:=HSJ.o;rw[List.take_length]at hs2;have h2:(Tm.renS Zaq st1 (.mk k m s l)).2=sj:=by rw[Tm.renS,<-HM.o];exact hs2.symm
     rw[h2];have hnw:∀b,Mj b->b≠w.heap.size+1:=fun b hb e=>by
      rcases HMJ.o b hb with h|h;·have :=HMlt.o b h;omega
      ·omega
     refine HI.o.keeps _ _ _ _ HSTJ.o (Keeps.trans (Keeps.trans (Keeps.trans (Keeps.setCell _ _ _ _ ?_) (Keeps.setCell _ _ _ _ ?_)) (Keeps.setCell _ _ _ _ ?_)) (Keeps.setCell _ _ _ _ ?_))<;>exact fun h=>hnw _ h rfl
    ·have hO:=HO.o;rw[List.take_length]at hO;have hsl:=(hO.mono (A':=fun b=>w.heap.size+3<=b/\¬Mj b) Tm.rep_lasts (fun b _ hb=>hb));have hsl2:SlR 4 Tm.rep (fun b=>w.heap.size+3<=b/\¬Mj b) wr (Tm.renSL Zaq st1 l).1 (.slice va l.length vc):=hO.sl' Tm.rep_lasts (by rw[Tm.renSL_length];exact hlb) (fun b hb=>⟨by have :=(HO.o.lt b hb).1;omega,HOB.o b hb⟩);rw[Tm.renS,<-HM.o];rw[Tm.rep_iff];refine⟨hk,HM64.o,hs,_,rfl,?_⟩;refine SlR.mono Tm.rep_lasts (by omega) (SlR.keeps Tm.rep_lasts hsl2 ?_) (fun b _ hb=>⟨by omega,hb.2⟩);refine Keeps.trans (Keeps.trans (Keeps.trans (Keeps.setCell _ _ _ _ ?_) (Keeps.setCell _ _ _ _ ?_)) (Keeps.setCell _ _ _ _ ?_)) (Keeps.setCell _ _ _ _ ?_)<;>simp
theorem ZnN(pb bs bw:Nat):∀t,Zjm pb bs bw t:=by intro t;induction t using Tm.induct with|h k n s l ih=>exact ZnM pb bs bw k n s l ih
theorem ZnO(l:List Tm)(hnd:(Tm.renSL Zaq [] l).2.length<=4194303)(A:Nat->Prop)(w:World)(v:Value)(hv:TmsR A w l v):Calls Tryd.prog 7 #[v] w (Pure w fun v' w'=>TmsR (New w) w' (Tm.renSL Zaq [] l).1 v'):=by
 obtain⟨a,cap,b,off,rfl,hlc,hcm,hlb,ha,he⟩:=hv.at;have HE:=zh he;have HA:=zh ha;have HV:=zh hv;clear hv he ha;go_enter Tryd.func7,Tryd.ntmps7;go_wp2_with fail;go_loopw[5,11](fun v i wr=>∃(j:Nat)(sj:List Int)(Mj:Nat->Prop),j<=l.length/\i= .int .i64 j/\w.heap.size+2<=wr.heap.size/\Below w.heap.size w wr/\(∀b,Mj b->w.heap.size<=b)/\TdInv (w.heap.size+2) w.heap.size (w.heap.size+1) sj Mj wr/\sj=(Tm.renSL Zaq [] (l.take j)).2/\(∀b,Zai v=some b->¬Mj b)/\OwnR wr (w.heap.size+2) 27 4 Tm.rep (fun b=>w.heap.size+2<=b/\¬Mj b) (Tm.renSL Zaq [] (l.take j)).1 v)(fun _ i _=>l.length - (intOf i).toNat);case atStart=>
  have hq:=Zdc w (.cells #[.slice none 0 0] 43) (.cells #[.func (.func 19) #[] #[.pointer (some ⟨w.heap.size,0,none⟩),.pointer (some ⟨w.heap.size+1,0,none⟩)]] 44);refine⟨0,[],fun b=>(b=w.heap.size\/Zai (.slice none 0 0)=some b)\/b=w.heap.size+1,Nat.zero_le _,rfl,by simp,ZaA (ZaA (zB _ _)),fun b hb=>?_,⟨_,⟨_,hq.1,OwnR.nil ..,by simp,by omega,fun b=>Iff.rfl⟩,(Zao hq.2 0).trans rfl,fun b=>Iff.rfl,fun h=>?_⟩,by simp[Tm.renSL],by simp[Zai],by simpa[Tm.renSL]using OwnR.nil ..⟩
  ·rcases hb with(rfl|hb)|rfl;·omega
   ·simp[Zai]at hb
   ·omega
  ·rcases h with h|h;·omega
   ·simp[Zai]at h
 case round=>
  obtain⟨j,sj,Mj,hj,rfl,hz,hb,hMj,hst,hsj,hob,hown⟩:=hrel;have hvl:(Tm.renSL Zaq [] (l.take j)).1.length=j:=by rw[Tm.renSL_length];simp;omega
  have HB:=zh hb;have HMJ:=zh hMj;have HST:=zh hst;have HSJ:=zh hsj;have HOB:=zh hob;have HO:=zh hown;have HVL:=zh hvl;clear hb hMj hst hsj hob hown hvl;by_cases hlt:j<l.length
  ·obtain⟨rfl,hAb⟩:=HA.o (by omega);obtain⟨sa,sc,c0,c1,c2,c3,hr⟩:=ZbD HE.o hAb (Keeps.ob HB.o) hlt;have lb:b<wr.heap.size:=World.block_lt_of_cell? wr _ c0;have hr0:=HE.o;obtain⟨vs0,hl0,hrep0,hrow0⟩:=hr0 j _ (List.getElem?_eq_getElem hlt);obtain⟨sa0,sc0,rfl, -⟩:=Tm.rep4 hrep0;obtain⟨-, -, -,d3⟩:=Zn2 (RowAt.keeps hAb hrow0 (Keeps.ob (A:=A) HB.o));have hsame:Value.slice sa l[j].args.length sc=Value.slice sa0 l[j].args.length sc0:=zI (c3.symm.trans d3);simp only[Value.slice.injEq,true_and]at hsame;obtain⟨rfl,rfl⟩:=hsame;have hrep1:=Tm.rep_lasts.2.1 _ (fun b=>A b/\b<w.heap.size) _ _ _ hrep0 (fun b hb h=>⟨h,hb⟩);have HR:=zh (Tm.rep_lasts.1 _ _ wr _ _ hrep1 (Keeps.ob HB.o));clear hr hr0 hl0 hrep0 hrow0 d3 hrep1;have hcw:=fun o=>(Keeps.alloc (fun _=>True) wr o).cell trivial HST.o.cw;go_wp2_with fail;have hnd2:(Tm.renS Zaq sj l[j]).2.length<=4194303:=by have h1:=Tm.renSL_part l [] j hlt;rw[HSJ.o];omega
   refine(ZnN _ _ _ l[j] sj Mj (fun b=>A b/\b<w.heap.size) _ [_,_,_,_] ((ZdL _ _ _).keeps _ _ _ _ HST.o (Keeps.alloc _ _ _)) hnd2 (Tm.rep_lasts.1 _ _ _ _ _ HR.o (Keeps.alloc _ _ _)) (fun b hb=>⟨by simp;omega,fun h=>by have :=HMJ.o b h;omega⟩)).mono ?_;rintro e w1⟨us,M2,rfl,hch,hM2,hst2,hr⟩;obtain⟨sa',sc',rfl, -⟩:=Tm.rep4 hr;have hsz:=hch.size;simp only[World.size_alloc]at hsz hM2 hr;have hlt2:=HO.o.lt;have hM2l:=(ZdL _ _ _).lt _ _ _ hst2;have hMM:∀b,M2 b->w.heap.size<=b:=fun b hb=>by
    rcases hM2 b hb with h1|h1;·exact HMJ.o b h1
    ·omega
   have hn2:∀b,b<wr.heap.size+1->¬Mj b->¬M2 b:=fun b hb hn h=>by
    rcases hM2 b h with h1|h1;·exact hn h1
    ·omega
   have hHO:=HO.o.alloc Tm.rep_lasts (.cells #[.int .i64 l[j].kind,.int .i64 l[j].n,.string l[j].s,.slice sa l[j].args.length sc] 27);have HO1:=zh (((hHO.mono (A':=fun b=>w.heap.size+2<=b/\¬M2 b/\¬Mj b) Tm.rep_lasts (fun b hb hb'=>⟨hb'.1,hn2 b (by simpa using hb) hb'.2,hb'.2⟩)).keeps (B:=fun b=>¬Mj b) Tm.rep_lasts (hch.keeps fun _ _ h=>h) (fun _ h=>h.2.2) HOB.o).mono (A':=fun b=>w.heap.size+2<=b/\¬M2 b) Tm.rep_lasts (fun b _ hb=>⟨hb.1,hb.2.1⟩));have HOB2:Hd (∀b,Zai u5=some b->¬M2 b):=fun b hb=>hn2 b (by have :=(hlt2 b hb).2;omega) (HOB.o b hb);have HN:=zh (show Tm.rep (fun b=>(w.heap.size+2<=b/\¬M2 b)/\Zai u5≠some b) w1 _ _ from Tm.rep_lasts.2.1 _ _ _ _ _ hr fun b _ hb=>⟨⟨by omega,hb.2⟩,fun e=>by have :=(hlt2 b e).2;omega⟩);have HL:=zh (show(Tm.renSL Zaq [] (l.take j)).1.length<4194304/\w.heap.size+2<=w1.heap.size by rw[HVL.o];omega);have HB2:=zh (show Below w.heap.size w w1 from((Ch.of_below (M:=fun _=>False) (HB.o.alloc (by omega) _)).trans hch (fun b hb=> .inr (HMJ.o b hb))).below (fun _ _ h=>h));have HST2:=zh hst2;have HM2l:=zh hM2l;have HMM:=zh hMM;clear hr hch hHO hst2 hM2l hMM hn2 hM2;go_wp2_with(at_builtin;refine Zas rfl (.tmp 15) (.tmp 19) 22 rfl (w.heap.size+2) 27 4 56 Zfn Tm.rep_lasts u5 _ rfl HO1.o (Tm.renS Zaq sj l[j]).1 [_,_,_,_] rfl rfl HN.o HL.o ?_;intro v2 w2 hown2 hgrew);go_roundw;case rel=>
    have hk2:=hgrew.keeps (A:=fun b=>Zai u5≠some b) (fun _ h=>h);have hka:=(Keeps.alloc (fun b=>Zai u5≠some b) w1 (.cells #[.int .i64 (Tm.renS Zaq sj l[j]).1.kind,.int .i64 (Tm.renS Zaq sj l[j]).1.n,.string (Tm.renS Zaq sj l[j]).1.s,.slice sa' (Tm.renS Zaq sj l[j]).1.args.length sc'] 27)).trans hk2;refine⟨j+1,(Tm.renS Zaq sj l[j]).2,M2,by omega,by go_num,by have :=hgrew.size;simp only[World.size_alloc]at this;omega,hgrew.below (HB2.o.alloc (by omega) _) (by simp;omega) (fun b hb=>by have :=(hlt2 b hb).1;omega),HMM.o,(ZdL _ _ _).keeps _ _ _ _ HST2.o (hka.mono fun b _ hb e=>HOB2.o b e hb),?_,fun b hb hm=>?_,?_⟩;·rw[List.take_succ_eq_append_getElem hlt,Tm.renSL_snoc,<-HSJ.o]
    ·rcases hgrew.block with h1|h1;·exact HOB2.o b (h1.symm.trans hb) hm
     ·have h2:=h1 b hb;have h3:=HM2l.o b hm;simp only[World.size_alloc]at h2;omega
    ·rw[List.take_succ_eq_append_getElem hlt,Tm.renSL_snoc,<-HSJ.o];exact hown2
   case measure=>simp[intOf];omega
  ·have :j=l.length:=by omega
   subst this;go_wp2_with fail;go_ret;have hO:=HO.o;rw[List.take_length]at hO;exact⟨_,rfl,HB.o,(hO.mono Tm.rep_lasts (fun b _ hb=>show New w b by unfold New;omega)).sl Tm.rep_lasts (by rw[Tm.renSL_length];exact hlb) (fun b hb=>by unfold New;omega)⟩
theorem ZoN(l:List Tm)(hnd:Tm.nodesL l<=4194303)(A:Nat->Prop)(w:World)(v:Value)(hv:TmsR A w l v):Calls Tryd.prog 7 #[v] w (Pure w fun v' w'=>TmsR (New w) w' (Tm.renSL Zaq [] l).1 v'):=ZnO l (by have h1:=Tm.renSL_szL (sz:=List.length) ZjO l [];simp only[List.length_nil]at h1;omega) A w v hv
end Go.Proofs.YtlpmfkpefoegeacDoor
