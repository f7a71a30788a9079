import Derived.Test.YtlpmfkpefoegeacGreatDoorHMark
namespace Go.Proofs.YtlpmfkpefoegeacGreatDoor
set_option maxRecDepth 99999
set_option maxHeartbeats 0
set_option linter.all false
open Go.RowKit
theorem abp{w w1 w2:World}{g:Nat}(h:Below w.heap.size w w1)(hc:Ch (fun b=>b=g) w1 w2)(hg:w.heap.size<=g):Below w.heap.size w w2:=(Ch.trans (Ch.of_below (M:=fun b=>b=g) h) hc (fun _ h=> .inl h)).below (fun k hk e=>by omega)
def auX(A:Nat->Prop)(x:Tm×Int×Int)(r:Value)(w':World):Prop:=∃us,r= .tuple #[.agg us.toArray,.int .i64 x.2.1,.int .i64 x.2.2]/\Tm.rep A w' x.1 us
theorem auY(hq:Hp)(a most:Int)(ha:ah a)(ajD:ah most)(A:Nat->Prop)(w:World)(vs:List Value)(hh:Hp.rep A w hq vs):Calls Tryz.prog 62 #[.agg vs.toArray,.int .i64 a,.int .i64 most] w (Pure w (auX (New w) (dK hq a most))):=by
 obtain⟨va,cap,vb,aH,rfl,hc1,hc2,hc3,ht1,ht2,ht3,hc,ht⟩:=Hp.nS hh;have HH:=Y hh;have Ba:=Y ha;have HIM:=Y ajD;have kH:=Y (fun w'(hk:J A w w')=>Eh hq A w' _ (Hp.rep.keeps hh hk));obtain⟨L,hL⟩:=dH (show 0<=leftOf most by unfold leftOf;omega);have hL2:L<=65536:=by unfold leftOf at hL;omega
 have hLM:max 0 (min most 65536)=(L:Int):=by unfold leftOf at hL;omega
 have qp:=Y hL;clear hh hc ht ha ajD hL;go_enter Tryz.func62,Tryz.ntmps62;go_wp2_with fail;refine(kH.o _ ((J.alloc _ _ _).trans (J.alloc _ _ _))).mono ?_;rintro e w1⟨v,rfl,hb1,tt,rfl,ht⟩;have h2:=mi w (.cells #[.slice va hq.cells.length cap,.slice vb hq.trail.length aH] 59) (.cells #[.int .i64 0,.int .i64 0,.string .empty,.slice none 0 0] 34);have bK:=Y (aA h2.1 hb1);have bu:=Y (aA h2.2 hb1);have HB:=Y (show Below w.heap.size w w1 from iO (iO (hb1.mono (by simp))));have hz:w.heap.size+1<w1.heap.size:=by have :=hb1.size;simp at this;omega
 have hz':w.heap.size<w1.heap.size:=by omega
 have ng:=Y ht;have hcs:=bF;clear h2 hb1 ht;obtain⟨x0,x1,xf⟩:=dL bK.o;obtain⟨y0,y1,y2,y3,yf⟩:=aF bu.o;cases tt with
  |false=>
   have hg:¬hq.Good:=fun hg=>by have :=ng.o.2 hg;cases this
   go_wp2_with fail;refine bX (v:= .tuple #[.agg #[.int .i64 0,.int .i64 0,.string .empty,.slice none 0 0],.int .i64 0,.int .i64 1]) (by simp[results,Tryz.results62,go_sem,hcs,y0,y1,y2,y3];try rfl) rfl ?_;rw[dK,G hg];refine Pure.mk ?_ ⟨[_,_,_,_],rfl,Bo _ _⟩;repeat(with_reducible first|exact HB.o|refine bE ?_ (by simp) _)
  |true=>
   have HG:=Y (ng.o.1 rfl);clear ng;by_cases hin:Inb hq.cells a;case neg=>have fD:=Y hin;have hin':¬(0<=a/\a<(hq.cells.length:Int)):=hin;clear hin;go_wp2_with fail;all_goals first|(exfalso;omega)|(refine bX (v:= .tuple #[.agg #[.int .i64 0,.int .i64 0,.string .empty,.slice none 0 0],.int .i64 0,.int .i64 4]) (by simp[results,Tryz.results62,go_sem,hcs,y0,y1,y2,y3];try rfl) rfl ?_;rw[dK,O (dY HG.o),G fD.o];refine Pure.mk ?_ ⟨[_,_,_,_],rfl,Bo _ _⟩;repeat(with_reducible first|exact HB.o|refine bE ?_ (by simp) _))|go_ways
   case pos=>
    have fD:=Y hin;obtain⟨i0,i1⟩:=hin;have HT0:=Y (show dK hq a most=AY (L:Int) (jV hq.cells L a)by rw[dK,O (dY HG.o),O (dY fD.o),qp.o,dF]);have hcases:(most<=0/\(L:Int)=0)\/(0<most/\most<=65536/\(L:Int)=most)\/(65536<most/\(L:Int)=65536):=by have :=qp.o;unfold leftOf at this;omega
    rcases hcases with⟨m1,m2⟩|⟨m1,m3,m2⟩|⟨m1,m2⟩
    ·go_wp2_with fail;all_goals
      have xS:=Y (aI bK.o (.cells #[.int .i64 0] 3));have Ip:=Y (aI bu.o (.cells #[.int .i64 0] 3));have uS:=Y (show pQ w1.heap.size (L:Int) (w1.alloc (.cells #[.int .i64 0] 3))by rw[m2];exact bq _ _);have HB1:=Y (HB.o.alloc (by omega) (.cells #[.int .i64 0] 3));have hs1:(w1.alloc (.cells #[.int .i64 0] 3)).heap.size=w1.heap.size+1:=by simp
      have HR1:=Y (Hp.rep.keeps (Hp.rep.mono (A':=fun b=>b<w.heap.size) HH.o (fun b hb _=>hb)) (J.ob HB1.o));clear x0 x1 xf y0 y1 y2 y3 yf;refine(ZR L hq a w1.heap.size (fun b=>b<w.heap.size) _ [_,_] HG.o.1 Ba.o (by omega) HR1.o uS.o hL2).mono ?_;rintro e w2⟨us,t,k,rfl,hch,hr,hl,hres⟩;obtain⟨sa,sc,rfl, -⟩:=Tm.dV hr;have hsz2:=hch.size;have hkg:J (fun b=>b≠w1.heap.size) _ w2:=hch.keeps (A:=fun b=>b≠w1.heap.size) (fun b _ hb e=>hb e);have kM:=Y (bJ xS.o hkg (by omega));have xQ:=Y (bJ Ip.o hkg (by omega));have HB2:=Y (show Below w.heap.size w w2 from abp HB1.o hch (by omega));have HR:=Y hr;have HL:=Y hl;have gq:=Y hres;have hw2:w.heap.size+1<w2.heap.size:=by omega
      have Fy:w.heap.size<w2.heap.size:=by omega
      have hne:¬w1.heap.size=w.heap.size+1:=by omega
      have hne':¬w.heap.size+1=w1.heap.size:=by omega
      obtain⟨q0,qf,hgl⟩:=Il hl;obtain⟨y0,y1,y2,y3,yf⟩:=aF xQ.o;clear hch hr hl hres hkg;rcases gq.o with⟨r1,rfl⟩|⟨r1,r2⟩;·go_wp2_with fail;refine bX (v:= .tuple #[.agg #[.int .i64 0,.int .i64 0,.string .empty,.slice none 0 0],.int .i64 0,.int .i64 3]) (by simp[results,Tryz.results62,go_sem,hcs,y0,y1,y2,y3,hw2,Fy];try rfl) rfl ?_;rw[HT0.o,r1];refine Pure.mk ?_ ⟨[_,_,_,_],rfl,Bo _ _⟩;repeat(with_reducible first|exact HB2.o|refine Q0 ?_|refine QY ?_ (by simp only[oL,dG];omega) _|refine bE ?_ (by simp) _)
      ·obtain⟨k,rfl⟩:=dH r2;have HR1:=Y r1;have HK:=Y (He r1);have jS:=He r1;clear r1 gq r2;go_wp2_with fail;go_region;all_goals
        go_wp2_with fail;refine bX (v:= .tuple #[.agg #[.int .i64 t.kind,.int .i64 t.n,.string t.s,.slice sa t.args.length sc],.int .i64 (0 - (k:Int)),.int .i64 0]) (by simp[results,Tryz.results62,go_sem,hcs,y0,y1,y2,y3,hw2,Fy];try rfl) rfl ?_;rw[HT0.o,HR1.o];refine Pure.mk ?_ ⟨[.int .i64 t.kind,.int .i64 t.n,.string t.s,.slice sa t.args.length sc],by simp only[AY,dF,m2];try rfl,?_⟩;·repeat(with_reducible first|exact HB2.o|refine Q0 ?_|refine QY ?_ (by simp only[oL,dG];omega) _|refine bE ?_ (by simp) _)
        ·refine Tm.ae.2.1 _ _ _ _ _ (Tm.ae.1 _ _ _ _ _ HR.o ?_) (fun b _ hb=>by unfold New at hb ⊢;omega);repeat(with_reducible first|exact J.refl _ _|exact J.drew _ _|refine J.trans ?_ (J.alloc _ _ _)|refine J.trans ?_ (J.setCell _ _ _ _ (by simp[New];omega))|refine J.trans ?_ (J.drew _ _))
    ·go_wp2_with fail;all_goals
      have xS:=Y (aI bK.o (.cells #[.int .i64 most] 3));have Ip:=Y (aI bu.o (.cells #[.int .i64 most] 3));have uS:=Y (show pQ w1.heap.size (L:Int) (w1.alloc (.cells #[.int .i64 most] 3))by rw[m2];exact bq _ _);have HB1:=Y (HB.o.alloc (by omega) (.cells #[.int .i64 most] 3));have hs1:(w1.alloc (.cells #[.int .i64 most] 3)).heap.size=w1.heap.size+1:=by simp
      have HR1:=Y (Hp.rep.keeps (Hp.rep.mono (A':=fun b=>b<w.heap.size) HH.o (fun b hb _=>hb)) (J.ob HB1.o));clear x0 x1 xf y0 y1 y2 y3 yf;refine(ZR L hq a w1.heap.size (fun b=>b<w.heap.size) _ [_,_] HG.o.1 Ba.o (by omega) HR1.o uS.o hL2).mono ?_;rintro e w2⟨us,t,k,rfl,hch,hr,hl,hres⟩;obtain⟨sa,sc,rfl, -⟩:=Tm.dV hr;have hsz2:=hch.size;have hkg:J (fun b=>b≠w1.heap.size) _ w2:=hch.keeps (A:=fun b=>b≠w1.heap.size) (fun b _ hb e=>hb e);have kM:=Y (bJ xS.o hkg (by omega));have xQ:=Y (bJ Ip.o hkg (by omega));have HB2:=Y (show Below w.heap.size w w2 from abp HB1.o hch (by omega));have HR:=Y hr;have HL:=Y hl;have gq:=Y hres;have hw2:w.heap.size+1<w2.heap.size:=by omega
      have Fy:w.heap.size<w2.heap.size:=by omega
      have hne:¬w1.heap.size=w.heap.size+1:=by omega
      have hne':¬w.heap.size+1=w1.heap.size:=by omega
      obtain⟨q0,qf,hgl⟩:=Il hl;obtain⟨y0,y1,y2,y3,yf⟩:=aF xQ.o;clear hch hr hl hres hkg;rcases gq.o with⟨r1,rfl⟩|⟨r1,r2⟩;·go_wp2_with fail;refine bX (v:= .tuple #[.agg #[.int .i64 0,.int .i64 0,.string .empty,.slice none 0 0],.int .i64 0,.int .i64 3]) (by simp[results,Tryz.results62,go_sem,hcs,y0,y1,y2,y3,hw2,Fy];try rfl) rfl ?_;rw[HT0.o,r1];refine Pure.mk ?_ ⟨[_,_,_,_],rfl,Bo _ _⟩;repeat(with_reducible first|exact HB2.o|refine Q0 ?_|refine QY ?_ (by simp only[oL,dG];omega) _|refine bE ?_ (by simp) _)
      ·obtain⟨k,rfl⟩:=dH r2;have HR1:=Y r1;have HK:=Y (He r1);have jS:=He r1;clear r1 gq r2;go_wp2_with fail;go_region;all_goals
        go_wp2_with fail;refine bX (v:= .tuple #[.agg #[.int .i64 t.kind,.int .i64 t.n,.string t.s,.slice sa t.args.length sc],.int .i64 (most - (k:Int)),.int .i64 0]) (by simp[results,Tryz.results62,go_sem,hcs,y0,y1,y2,y3,hw2,Fy];try rfl) rfl ?_;rw[HT0.o,HR1.o];refine Pure.mk ?_ ⟨[.int .i64 t.kind,.int .i64 t.n,.string t.s,.slice sa t.args.length sc],by simp only[AY,dF,m2];try rfl,?_⟩;·repeat(with_reducible first|exact HB2.o|refine Q0 ?_|refine QY ?_ (by simp only[oL,dG];omega) _|refine bE ?_ (by simp) _)
        ·refine Tm.ae.2.1 _ _ _ _ _ (Tm.ae.1 _ _ _ _ _ HR.o ?_) (fun b _ hb=>by unfold New at hb ⊢;omega);repeat(with_reducible first|exact J.refl _ _|exact J.drew _ _|refine J.trans ?_ (J.alloc _ _ _)|refine J.trans ?_ (J.setCell _ _ _ _ (by simp[New];omega))|refine J.trans ?_ (J.drew _ _))
    ·go_wp2_with fail;all_goals
      have xS:=Y (aI bK.o (.cells #[.int .i64 65536] 3));have Ip:=Y (aI bu.o (.cells #[.int .i64 65536] 3));have uS:=Y (show pQ w1.heap.size (L:Int) (w1.alloc (.cells #[.int .i64 65536] 3))by rw[m2];exact bq _ _);have HB1:=Y (HB.o.alloc (by omega) (.cells #[.int .i64 65536] 3));have hs1:(w1.alloc (.cells #[.int .i64 65536] 3)).heap.size=w1.heap.size+1:=by simp
      have HR1:=Y (Hp.rep.keeps (Hp.rep.mono (A':=fun b=>b<w.heap.size) HH.o (fun b hb _=>hb)) (J.ob HB1.o));clear x0 x1 xf y0 y1 y2 y3 yf;refine(ZR L hq a w1.heap.size (fun b=>b<w.heap.size) _ [_,_] HG.o.1 Ba.o (by omega) HR1.o uS.o hL2).mono ?_;rintro e w2⟨us,t,k,rfl,hch,hr,hl,hres⟩;obtain⟨sa,sc,rfl, -⟩:=Tm.dV hr;have hsz2:=hch.size;have hkg:J (fun b=>b≠w1.heap.size) _ w2:=hch.keeps (A:=fun b=>b≠w1.heap.size) (fun b _ hb e=>hb e);have kM:=Y (bJ xS.o hkg (by omega));have xQ:=Y (bJ Ip.o hkg (by omega));have HB2:=Y (show Below w.heap.size w w2 from abp HB1.o hch (by omega));have HR:=Y hr;have HL:=Y hl;have gq:=Y hres;have hw2:w.heap.size+1<w2.heap.size:=by omega
      have Fy:w.heap.size<w2.heap.size:=by omega
      have hne:¬w1.heap.size=w.heap.size+1:=by omega
      have hne':¬w.heap.size+1=w1.heap.size:=by omega
      obtain⟨q0,qf,hgl⟩:=Il hl;obtain⟨y0,y1,y2,y3,yf⟩:=aF xQ.o;clear hch hr hl hres hkg;rcases gq.o with⟨r1,rfl⟩|⟨r1,r2⟩;·go_wp2_with fail;refine bX (v:= .tuple #[.agg #[.int .i64 0,.int .i64 0,.string .empty,.slice none 0 0],.int .i64 0,.int .i64 3]) (by simp[results,Tryz.results62,go_sem,hcs,y0,y1,y2,y3,hw2,Fy];try rfl) rfl ?_;rw[HT0.o,r1];refine Pure.mk ?_ ⟨[_,_,_,_],rfl,Bo _ _⟩;repeat(with_reducible first|exact HB2.o|refine Q0 ?_|refine QY ?_ (by simp only[oL,dG];omega) _|refine bE ?_ (by simp) _)
      ·obtain⟨k,rfl⟩:=dH r2;have HR1:=Y r1;have HK:=Y (He r1);have jS:=He r1;clear r1 gq r2;go_wp2_with fail;go_region;all_goals
        go_wp2_with fail;refine bX (v:= .tuple #[.agg #[.int .i64 t.kind,.int .i64 t.n,.string t.s,.slice sa t.args.length sc],.int .i64 (65536 - (k:Int)),.int .i64 0]) (by simp[results,Tryz.results62,go_sem,hcs,y0,y1,y2,y3,hw2,Fy];try rfl) rfl ?_;rw[HT0.o,HR1.o];refine Pure.mk ?_ ⟨[.int .i64 t.kind,.int .i64 t.n,.string t.s,.slice sa t.args.length sc],by simp only[AY,dF,m2];try rfl,?_⟩;·repeat(with_reducible first|exact HB2.o|refine Q0 ?_|refine QY ?_ (by simp only[oL,dG];omega) _|refine bE ?_ (by simp) _)
        ·refine Tm.ae.2.1 _ _ _ _ _ (Tm.ae.1 _ _ _ _ _ HR.o ?_) (fun b _ hb=>by unfold New at hb ⊢;omega);repeat(with_reducible first|exact J.refl _ _|exact J.drew _ _|refine J.trans ?_ (J.alloc _ _ _)|refine J.trans ?_ (J.setCell _ _ _ _ (by simp[New];omega))|refine J.trans ?_ (J.drew _ _))
theorem auZ{w:World}{g:Nat}{E:TypeId}{c:Array Value}(h:w.heap[g]?=some (.cells c E (0,0)))(o:Nat):w.frozen? ⟨g,o,none⟩=false:=by simp[World.frozen?,h]
theorem az.elems{α:Type}{w:World}{base:Nat}{E:TypeId}{size:Nat}{R:(Nat->Prop)->World->α->List Value->Prop}{A:Nat->Prop}{xs:List α}{v:Value}(hR:iy R)(h:az w base E size R A xs v):∃b off,(0<xs.length->∃cap,v= .slice (some ⟨b,off,none⟩) xs.length cap)/\nE A w size R xs b off:=by
 obtain⟨vals,hl,ho,he⟩:=h;have hsz:∀(i:Nat)(vs:List Value),vals[i]?=some vs->vs.length=size:=fun i vs hv=>by
  have hi:i<xs.length:=by have :=(jQ.1 hv).1;omega
  exact(he i _ vs (aJ hi) hv).1
 rcases ho.2 with⟨h0,a,rfl⟩|⟨g,cap,cur,rfl,hc,hb,hg,hnc,hcm,hcs,htake⟩;·have :xs=[]:=F5 h0;subst this;exact⟨0,0,fun h=>by simp at h,fun i x hx=>by simp at hx⟩
 ·refine⟨g,0,fun _=>⟨cap,rfl⟩,fun i x hx=>?_⟩;have hi:i<vals.length:=by have :=(jQ.1 hx).1;omega
  have hv:=aJ hi;obtain⟨h1,h2⟩:=he i x _ hx hv;refine⟨vals[i],h1,hR.2.1 _ _ w x _ h2 (fun b _ hb=>hb.1),fun j u hj=>?_⟩;have hjl:j<size:=by have :=(jQ.1 hj).1;omega
  rw[qH];exact ho.cells rfl hc _ u (by rw[Jh vals hsz i j _ hv hjl];exact hj)
def ajE(_:Nat->Prop)(_:World)(n:Int)(vs:List Value):Prop:=vs=[.int .i64 n]/\ah n
theorem ajF:iy ajE:=⟨fun _ _ _ _ _ h _=>h,fun _ _ _ _ _ h _=>h,fun _ _ _ _ h u hu=>by obtain⟨rfl,_⟩:=h;simp at hu;subst hu;rfl⟩
theorem au0:oU Tryz.prog 57 3 1 8:= .mk' (z:= .int .i64 0) Tryz.underlying57 (by kernel_rfl) rfl (by omega) (by omega)
def UT(base bs:Nat)(st:List Int)(M:Nat->Prop)(w:World):Prop:=∃v,w.heap[bs]?=some (.cells #[v] 57 (0,0))/\az w base 3 1 ajE (fun _=>True) st v/\base<=w.heap.size/\bs<base/\(∀b,M b↔(b=bs\/ownB v=some b))
theorem ajG(base bs:Nat):ad5 (UT base bs):=by
 refine⟨fun st M w h b hb=>?_,fun st M w w' h hk=>?_⟩
 ·obtain⟨v,h1,h2,h3,h4,h5⟩:=h;rcases(h5 b).1 hb with rfl|h6;·exact ax h1
  ·exact(h2.lt b h6).2
 ·obtain⟨v,h1,h2,h3,h4,h5⟩:=h;exact⟨v,bJ h1 hk ((h5 _).2 (.inl rfl)),by obtain⟨vals,k1,k2,k3⟩:=h2;exact⟨vals,k1,k2.keeps hk (fun b hb=>(h5 b).2 (.inr hb)),k3⟩,dm h3 hk.size,h4,h5⟩
theorem au1{st:List Int}{n:Int}{k:Nat}(hk:k<st.length)(h:st[k]=n)(hb:∀i(hi:i<k),st[i]'(by omega)≠n):n∈st/\st.idxOf n=k:=by
 have hm:n∈st:=h▸bN hk;refine⟨hm,?_⟩;have h1:=aAr hm;have h2:st[st.idxOf n]=n:=List.getElem_idxOf h1;rcases am6 (st.idxOf n) k with h3|h3|h3;·exact absurd h2 (hb _ h3)
 ·exact h3
 ·have h4:=List.not_of_lt_findIdx (p:=(· ==n)) (xs:=st) (i:=k) (by simpa[List.idxOf]using h3);simp[h]at h4
theorem au2(base bs:Nat)(st:List Int)(M:Nat->Prop)(w:World)(n:Int)(hi:UT base bs st M w)(hsz:st.length<4194304)(hn:ah n):Calls Tryz.prog 104 #[.pointer (some ⟨bs,0,none⟩),.int .i64 n] w (ad6 (UT base bs) M w (aL st n)):=by
 have HI:=Y hi;obtain⟨v,hblk,hown,hbase,hbs,hM⟩:=hi;obtain⟨va,vc,rfl,yE⟩:=hown.val;have HO:=Y hown;have HM:=Y hM;have hc0:w.cell? ⟨bs,0,none⟩=some (.slice va st.length vc):=by rw[bY hblk];rfl
 have hf0:w.frozen? ⟨bs,0,none⟩=false:=by simp[World.frozen?,hblk]
 have HB:=Y hblk;have HE:=Y (show ∃b off,(0<st.length->va=some ⟨b,off,none⟩)/\∀i(hi:i<st.length),w.cell? ⟨b,off+i,none⟩=some (.int .i64 st[i])by obtain⟨b,off,h1,h2⟩:=hown.elems ajF;refine⟨b,off,fun h0=>by have :=h1 h0;simpa using this,fun i hi=>?_⟩;obtain⟨vs, -,⟨rfl, -⟩,h3⟩:=h2 i _ (aJ hi);have :=h3 0 _ rfl;simpa using this);clear hown hM hblk;obtain⟨b,off,hva,hel⟩:=HE.o;have OB:=Y hva;have wm:=Y hel;clear hva hel HE;go_enter Tryz.func104,Tryz.ntmps104;go_wp2_with fail;go_loopw[11](fun i wr=>∃j:Nat,j<=st.length/\i= .int .i64 j/\w=wr/\∀i(hi:i<j)(hj:j<=st.length),st[i]'(by omega)≠n)(fun i _=>st.length - (intOf i).toNat);case atStart=>exact⟨0,dA _,rfl,rfl,fun i hi=>by omega⟩
 case round=>
  obtain⟨j,hj,rfl,rfl,hpre⟩:=hrel;have HP:=Y hpre;clear hpre;by_cases hlt:j<st.length
  ·obtain rfl:=OB.o (by omega);have hcell:=wm.o j hlt;by_cases he:st[j]=n
   ·have he':(st[j]==n)=true:=by simpa using he
    have Dx:=Y he;clear he;go_wp2_with fail;go_ret;obtain⟨h1,h2⟩:=au1 hlt Dx.o (fun i hi=>HP.o i hi hj);refine⟨by simp[aL,h1,h2],by simp only[aL,h1,if_true,h2];exact aeX (by omega),M,Ch.refl M _,fun b hb=> .inl hb,by simpa[aL,h1]using HI.o⟩
   ·have he':(st[j]==n)=false:=by simpa using he
    have Dx:=Y he;clear he;go_wp2_with fail;go_roundw;case rel=>
     refine⟨j+1,by omega,by go_num,(by first|rfl|trivial),fun i hi hj'=>?_⟩;by_cases hij:i=j;·subst hij;exact Dx.o
     ·exact HP.o i (by omega) hj
    case measure=>simp[intOf];omega
  ·have :j=st.length:=by omega
   subst this;have ajH:n∉st:=fun h=>by obtain⟨i,hi,he⟩:=vH.1 h;exact HP.o i hi (zL _) he
   have au3:=Y ajH;have HL:=Y (show st.length<4194304/\base<=w.heap.size from⟨hsz,hbase⟩);have hlt2:=HO.o.lt;have au4:ownB (.slice va st.length vc)≠some bs:=fun e=>by have :=(hlt2 _ e).1;omega
   clear ajH;go_wp2_with(at_builtin;go_must(refine ja rfl (.tmp 24) (.tmp 26) 57 rfl base 3 1 8 au0 ajF (.slice va st.length vc) st rfl HO.o n [.int .i64 n] rfl rfl ⟨rfl,hn⟩ HL.o ?_);go_must(intro v2 w2 hown2 aj;obtain⟨aS,aT,hv2,Gi⟩:=hown2.val;rw[show(st++[n]).length=st.length+1 by simp]at hv2;subst hv2;have hB2:=bJ HB.o ((J.alloc (fun b=>ownB (.slice va st.length vc)≠some b) w (.cells #[.int .i64 n] 3)).trans (aj.keeps (fun _ h=>h))) au4;have hcs:=bF;have hc2:w2.cell? ⟨bs,0,none⟩=some (.slice va st.length vc):=(bY hB2 0).trans rfl;have hf2:=auZ hB2 0;have HB2:=Y hB2;have bA:=Y hown2;have HG:=Y aj;clear hB2 hown2 aj));go_ret;have hs1:(aL st n)=(((st.length:Nat):Int),st++[n]):=by simp[aL,au3.o]
   rw[hs1];have hG:=HG.o;have hz2:=hG.size;simp only[bO]at hz2;have hlt3:=bA.o.lt;have au5:ownB (.slice aS (st.length+1) aT)≠some bs:=fun e=>by have :=(hlt3 _ e).1;omega
   refine⟨rfl,aeX (by omega),fun b=>b=bs\/ownB (.slice aS (st.length+1) aT)=some b,?_,fun b hb=>?_,?_⟩;·exact(hG.ch ((Ch.refl M w).alloc _) (fun b hb=> .inl ((HM.o b).2 (.inr hb)))).setCell (.inl ((HM.o bs).2 (.inl rfl))) _
   ·rcases hb with rfl|hb;·exact .inl ((HM.o _).2 (.inl rfl))
    ·rcases hG.block with h1|h1;·exact .inl ((HM.o b).2 (.inr (h1.symm.trans hb)))
     ·have :=h1 b hb;simp only[bO]at this;exact .inr (by omega)
   ·refine⟨_,aX HB2.o 0 _,?_,by simp;omega,hbs,fun b=>Mk⟩;obtain⟨vals,k1,k2,k3⟩:=bA.o;exact⟨vals,k1,k2.keeps (J.setCell (fun b=>b≠bs) w2 ⟨bs,0,none⟩ _ (by simp)) (fun k hk e=>au5 (e▸hk)),k3⟩
def zU(pb bs bw:Nat)(st:List Int)(M:Nat->Prop)(w:World):Prop:=∃M0,UT pb bs st M0 w/\w.cell? ⟨bw,0,none⟩=some (.func (.func 103) #[] #[.pointer (some ⟨bs,0,none⟩),.pointer (some ⟨bw,0,none⟩)])/\(∀b,M b↔(M0 b\/b=bw))/\¬M0 bw
theorem zU.cw{pb bs bw:Nat}{st:List Int}{M:Nat->Prop}{w:World}(h:zU pb bs bw st M w):w.cell? ⟨bw,0,none⟩=some (.func (.func 103) #[] #[.pointer (some ⟨bs,0,none⟩),.pointer (some ⟨bw,0,none⟩)]):=by obtain⟨_,_,h,_⟩:=h;exact h
theorem zU.mw{pb bs bw:Nat}{st:List Int}{M:Nat->Prop}{w:World}(h:zU pb bs bw st M w):M bw:=by obtain⟨_,_,_,h,_⟩:=h;exact(h bw).2 (.inr rfl)
theorem PM(pb bs bw:Nat):ad5 (zU pb bs bw):=by
 refine⟨fun st M w h b hb=>?_,fun st M w w' h hk=>?_⟩
 ·obtain⟨M0,h1,h2,h3,h4⟩:=h;rcases(h3 b).1 hb with h5|rfl;·exact(ajG pb bs).lt _ _ _ h1 b h5
  ·exact iW w _ h2
 ·obtain⟨M0,h1,h2,h3,h4⟩:=h;exact⟨M0,(ajG pb bs).keeps _ _ _ _ h1 (hk.mono fun b _ hb=>(h3 b).2 (.inl hb)),hk.cell ((h3 bw).2 (.inr rfl)) h2,h3,h4⟩
theorem au6(pb bs bw:Nat)(st:List Int)(M:Nat->Prop)(w:World)(n:Int)(hi:zU pb bs bw st M w)(hsz:st.length<4194304)(hn:ah n):Calls Tryz.prog 104 #[.pointer (some ⟨bs,0,none⟩),.int .i64 n] w (ad6 (zU pb bs bw) M w (aL st n)):=by
 obtain⟨M0,h1,h2,h3,h4⟩:=hi;refine(au2 pb bs st M0 w n h1 hsz hn).mono ?_;rintro e w'⟨rfl,h5,M1,h6,h7,h8⟩;have hbw:bw<w.heap.size:=iW w ⟨bw,0,none⟩ h2;refine⟨rfl,h5,fun b=>M1 b\/b=bw,h6.mono (fun b _ hb=>(h3 b).2 (.inl hb)),fun b hb=>?_,⟨M1,h8,?_,fun b=>Mk,fun hb=>?_⟩⟩
 ·rcases hb with hb|rfl
  ·rcases h7 b hb with h9|h9;·exact .inl ((h3 b).2 (.inl h9))
   ·exact .inr h9
  ·exact .inl ((h3 _).2 (.inr rfl))
 ·rw[<-h2];exact am3 (h6.block _ hbw h4)
 ·rcases h7 bw hb with h9|h9;·exact h4 h9
  ·omega
namespace Tm
theorem au7(st:List Int)(n:Int):st.length<=(aL st n).2.length:=by unfold aL;split<;>simp
theorem au8(st:List Int)(k n:Int):st.length<=(num aL st k n).2.length:=by
 unfold num;split;·exact au7 st n
 ·exact zL _
theorem ajI:∀(t:Tm)(st:List Int),st.length<=(cZ aL st t).2.length:=by
 intro t;induction t using induct with
  |h k n s l ih=>
   intro st;have hL:∀(r:List Tm),(∀t∈r,t∈l)->∀st:List Int,st.length<=(aZ aL st r).2.length:=by intro r;induction r with|nil=>intro _ st;simp[aZ]|cons x r ihr=>intro hm st;simp only[aZ];exact dm (ih x (hm x (rA ..)) st) (ihr (fun t ht=>hm t (sD _ ht)) _)
   simp only[cZ];exact dm (au8 st k n) (hL l (fun _ h=>h) _)
theorem ajJ:∀(l:List Tm)(st:List Int),st.length<=(aZ aL st l).2.length|[],st=>by simp[aZ]|x::r,st=>by simp only[aZ];exact dm (ajI x st) (ajJ r _)
theorem abq:∀(l:List Tm)(st:List Int)(j:Nat)(hj:j<l.length),(cZ aL (aZ aL st (l.take j)).2 l[j]).2.length<=(aZ aL st l).2.length|x::r,st,0,_=>by simp only[nD,aZ,BV];exact ajJ r _|x::r,st,j+1,hj=>by simp only[Al,aZ,Mc];exact abq r _ j (by simpa using hj)
end Tm
def abr(pb bs bw:Nat)(t:Tm):Prop:=∀(st:List Int)(M A:Nat->Prop)(w:World)(vs:List Value),zU pb bs bw st M w->(t.cZ aL st).2.length<=4194303->Tm.rep A w t vs->(∀b,A b->b<w.heap.size/\¬M b)->Calls Tryz.prog 103 #[.agg vs.toArray,.pointer (some ⟨bs,0,none⟩),.pointer (some ⟨bw,0,none⟩)] w (anG (zU pb bs bw) M w (t.cZ aL st))
theorem au9(pb bs bw:Nat)(k n:Int)(s:ByteArray)(l:List Tm)(ih:∀t∈l,abr pb bs bw t):abr pb bs bw (.mk k n s l):=by
 intro st M A w vs hst hnd hv hA;rw[Tm.jv]at hv;obtain⟨hk,hn,hs,v,rfl,hl⟩:=hv;obtain⟨a,cap,b,off,rfl,hlc,hcm,hlb,ha,he⟩:=hl.at;have HE:=Y he;have HA:=Y ha;have IH:=Y ih;have HI:=Y (PM pb bs bw);have zq:=Y aeW;have HST:=Y hst;have HAM:=Y hA;have nG:=Y hnd;have Lg:=Y ((PM pb bs bw).lt _ _ _ hst);clear he ha hl ih hst hA hnd;obtain⟨m,st1,hm⟩:∃m st1,(m,st1)=Tm.num aL st k n:=⟨_,_,rfl⟩;have HM:=Y hm;clear hm;by_cases e:k=0;all_goals
  try have e':(k==0)=false:=by simpa using e
  try have e':(k==0)=true:=by simpa using e
  have xm:=Y e;clear e;go_enter Tryz.func103,Tryz.ntmps103;go_wp2_with fail
 case' _=>
  have T9:=HI.o.keeps _ _ _ (((w.alloc (.cells #[.int .i64 k,.int .i64 n,.string s,.slice a l.length cap] 34)).alloc (.cells #[.int .i64 0,.int .i64 0,.string .empty,.slice none 0 0] 34)).alloc (.cells #[.int .i64 k,.int .i64 n,.string s,.slice a l.length cap] 34)) HST.o (((J.alloc _ _ _).trans (J.alloc _ _ _)).trans (J.alloc _ _ _));have hcl:=au6 pb bs bw st M _ n T9 (by have h1:=nG.o;have h2:=Tm.ajI (.mk k n s l) st;omega) hn;rw[show aL st n=(m,st1)by rw[HM.o,Tm.num,G xm.o]]at hcl;refine hcl.mono ?_;rintro e w1⟨rfl,ajL,M1,hch,hM1,PN⟩;have hq1:=Ml w (.cells #[.int .i64 k,.int .i64 n,.string s,.slice a l.length cap] 34) (.cells #[.int .i64 0,.int .i64 0,.string .empty,.slice none 0 0] 34) (.cells #[.int .i64 k,.int .i64 n,.string s,.slice a l.length cap] 34);have UU:=Lg.o;have hz1:=hch.size;simp only[bO]at hz1;have HB0:=Y ((hch.block _ (by simp<;>omega) (fun h=>by have :=UU _ h;omega)).trans hq1.1);have HB2:=Y ((hch.block _ (by simp<;>omega) (fun h=>by have :=UU _ h;omega)).trans hq1.2.1);have HB1:=Y ((hch.block _ (by simp<;>omega) (fun h=>by have :=UU _ h;omega)).trans hq1.2.2);have gK:Hd (∀b,M1 b->M b\/w.heap.size+3<=b):=fun b hb=>by have :=hM1 b hb;simpa[adQ]using this
  have aM:=Y (((((Ch.refl M w).alloc _).alloc _).alloc _).trans hch (fun b hb=> .inl hb));have xL:=Y PN;have ajM:=Y (show ah m from ajL);obtain⟨x0,x1,x2,x3,xf⟩:=aF HB1.o;obtain⟨z0,z1,z2,z3,zf⟩:=aF HB0.o;have hcs:=bF;have TL:Hd (st1.length<=st.length+1):=by have h5:=congrArg Prod.snd HM.o;simp only[Tm.num,G xm.o]at h5;rw[h5];exact zq.o st n
  clear T9 hq1 UU hch hM1 PN ajL hcl HST;go_wp2_with fail
 rotate_left;case' _=>
  have HB1:=Y (Ml w (.cells #[.int .i64 k,.int .i64 n,.string s,.slice a l.length cap] 34) (.cells #[.int .i64 0,.int .i64 0,.string .empty,.slice none 0 0] 34) (.cells #[.int .i64 k,.int .i64 n,.string s,.slice none 0 0] 34)).2.2;have HB2:=Y (Ml w (.cells #[.int .i64 k,.int .i64 n,.string s,.slice a l.length cap] 34) (.cells #[.int .i64 0,.int .i64 0,.string .empty,.slice none 0 0] 34) (.cells #[.int .i64 k,.int .i64 n,.string s,.slice none 0 0] 34)).2.1;have IC:m=n/\st1=st:=by have :=HM.o;rw[Tm.num,O xm.o]at this;simpa using this
  obtain⟨rfl,rfl⟩:=IC;have ajM:=Y hn;have aM:=Y ((((Ch.refl M w).alloc (.cells #[.int .i64 k,.int .i64 m,.string s,.slice a l.length cap] 34)).alloc (.cells #[.int .i64 0,.int .i64 0,.string .empty,.slice none 0 0] 34)).alloc (.cells #[.int .i64 k,.int .i64 m,.string s,.slice none 0 0] 34));have xL:=Y (HI.o.keeps _ _ _ (((w.alloc (.cells #[.int .i64 k,.int .i64 m,.string s,.slice a l.length cap] 34)).alloc (.cells #[.int .i64 0,.int .i64 0,.string .empty,.slice none 0 0] 34)).alloc (.cells #[.int .i64 k,.int .i64 m,.string s,.slice none 0 0] 34)) HST.o (((J.alloc _ _ _).trans (J.alloc _ _ _)).trans (J.alloc _ _ _)));have TL:Hd (st1.length<=st1.length+1):=Nat.le_succ _;clear HST
 rotate_left;all_goals
  go_loopw[20](fun i wr=>∃(j:Nat)(v:Value)(sj:List Int)(Mj:Nat->Prop),j<=l.length/\i= .int .i64 j/\w.heap.size+3<=wr.heap.size/\Ch M w wr/\(∀b,Mj b->M b\/w.heap.size+3<=b)/\zU pb bs bw sj Mj wr/\wr.heap[w.heap.size+1]?=some (.cells #[.int .i64 0,.int .i64 0,.string .empty,.slice none 0 0] 34 (0,0))/\wr.heap[w.heap.size+1+1]?=some (.cells #[.int .i64 k,.int .i64 m,.string s,v] 34 (0,0))/\sj=(Tm.aZ aL st1 (l.take j)).2/\(∀b,ownB v=some b->¬Mj b)/\az wr (w.heap.size+3) 34 4 Tm.rep (fun b=>w.heap.size+3<=b/\¬Mj b) (Tm.aZ aL st1 (l.take j)).1 v)(fun i _=>l.length - (intOf i).toNat);case atStart=>
   first
    |
     (
      refine⟨0,.slice none 0 0,st1,M1,dA _,rfl,by simp;omega,(aM.o.setCell (by simp<;>omega) _).setCell (by simp<;>omega) _,gK.o,HI.o.keeps _ _ _ _ xL.o ((J.setCell _ _ _ _ ?_).trans (J.setCell _ _ _ _ ?_)),?_,?_,by simp[Tm.aZ],by simp[ownB],by simpa[Tm.aZ]using az.nil ..⟩;·exact fun(h:M1 (w.heap.size+1+1))=>(gK.o _ h).elim (fun h1=>by have :=Lg.o _ h1;omega) (fun h1=>by omega)
      ·exact fun(h:M1 (w.heap.size+1+1))=>(gK.o _ h).elim (fun h1=>by have :=Lg.o _ h1;omega) (fun h1=>by omega)
      ·exact bJ (A:=fun b=>b≠w.heap.size+1+1) HB2.o ((J.setCell _ _ _ _ (by simp)).trans (J.setCell _ _ _ _ (by simp))) (by omega)
      ·exact aX (aX HB1.o 1 _) 3 _)
    |(exact⟨0,.slice none 0 0,st1,M,dA _,rfl,by simp,aM.o,fun b hb=> .inl hb,xL.o,HB2.o,HB1.o,by simp[Tm.aZ],by simp[ownB],by simpa[Tm.aZ]using az.nil ..⟩)
  case round=>
   obtain⟨j,v,sj,Mj,hj,rfl,hz,hch,hMj,hst,hB2,hB1,hsj,cO,hown⟩:=hrel;have hvl:(Tm.aZ aL st1 (l.take j)).1.length=j:=by rw[Tm.Gj];simp;omega
   obtain⟨va,vc,hv,yE⟩:=hown.val;rw[hvl]at hv;subst hv;have Ng:=Y hch;have ajN:=Y hB1;have ajO:=Y hB2;have BD:=Y hMj;have PO:=Y hst;have Fz:=Y hsj;have kU:=Y cO;have HO:=Y hown;have UW:=Y hvl;obtain⟨g0,g1,g2,g3,gf⟩:=aF ajN.o;clear hch hMj hst hB2 hB1 hsj cO hown hvl;by_cases hlt:j<l.length
   ·obtain⟨rfl,bQ⟩:=HA.o (by omega);obtain⟨sa,sc,c0,c1,c2,c3,hr⟩:=lJ HE.o bQ (Ng.o.keeps fun b _ h=>(HAM.o b h).2) hlt;have HR:=Y hr;have lb:b<wr.heap.size:=iW wr _ c0;clear hr;try clear HB0
    try clear HB1 HB2 aM xL
    try clear x0 x1 x2 x3 xf z0 z1 z2 z3 zf hcs
    go_wp2_with fail;generalize hW:wr.alloc (.cells #[.int .i64 l[j].kind,.int .i64 l[j].n,.string l[j].s,.slice sa l[j].args.length sc] 34)=W0;have hW1:W0.drew.cell? ⟨w.heap.size+1+1,3,none⟩=some (.slice va j vc):=by subst hW;exact(J.alloc (fun _=>True) _ _).cell trivial g3
    obtain⟨hx0,hx1,hx2,hx3, -⟩:=aF (show W0.drew.heap[wr.heap.size]?=_ by subst hW;exact bq _ _);have FB:W0.drew.cell? ⟨bw,0,none⟩=some (.func (.func 103) #[] #[.pointer (some ⟨bs,0,none⟩),.pointer (some ⟨bw,0,none⟩)]):=by subst hW;exact(J.alloc (fun _=>True) _ _).cell trivial PO.o.cw
    refine jd (F:=fun k w'=>(k=1\/k=2\/k=3)->w'.cell? ⟨w.heap.size+1+1,3,none⟩=some (.slice va j vc)/\w'.cell? ⟨wr.heap.size,0,none⟩=some (.int .i64 l[j].kind)/\w'.cell? ⟨wr.heap.size,1,none⟩=some (.int .i64 l[j].n)/\w'.cell? ⟨wr.heap.size,2,none⟩=some (.string l[j].s)/\w'.cell? ⟨wr.heap.size,3,none⟩=some (.slice sa l[j].args.length sc)/\w'.cell? ⟨bw,0,none⟩=some (.func (.func 103) #[] #[.pointer (some ⟨bs,0,none⟩),.pointer (some ⟨bw,0,none⟩)])) (by kernel_rfl) ?_;refine zT 0 (fun _=>⟨hW1,hx0,hx1,hx2,hx3,FB⟩) ?_;try simp only[U]
    refine zY 1 (fun _=>⟨hW1,hx0,hx1,hx2,hx3,FB⟩) ?_ (z:=by intro w' hw;obtain⟨q0,q1,q2,q3,q4,q5⟩:=hw (by omega);go_simp<;>with_reducible rfl);try simp only[U]
    refine zY 2 (fun _=>⟨hW1,hx0,hx1,hx2,hx3,FB⟩) ?_ (z:=by intro w' hw;obtain⟨q0,q1,q2,q3,q4,q5⟩:=hw (by omega);go_simp<;>with_reducible rfl);try simp only[U]
    refine zY 3 (fun _=>⟨hW1,hx0,hx1,hx2,hx3,FB⟩) ?_ (z:=by intro w' hw;obtain⟨q0,q1,q2,q3,q4,q5⟩:=hw (by omega);go_simp<;>with_reducible rfl);try simp only[U]
    refine zO 4 ?_;go_simp;have UX:J (fun _=>True) wr W0.drew:=by subst hW;exact(J.alloc _ _ _).trans (J.drew _ _)
    have hsW:W0.heap.size=wr.heap.size+1:=by subst hW;simp
    have hrd:Tm.rep A W0.drew l[j] _:=Tm.ae.1 _ _ _ _ _ HR.o (UX.mono fun _ _ _=>trivial);have hnd:(Tm.cZ aL sj l[j]).2.length<=4194303:=by have h1:=Tm.abq l st1 j hlt;have h3:=nG.o;simp only[Tm.cZ]at h3;rw[<-HM.o]at h3;dsimp only at h3;rw[Fz.o];omega
    have O9:∀b,A b->b<W0.drew.heap.size/\¬Mj b:=fun b hb=>by
     have h1:=HAM.o b hb;refine⟨by simp only[dG];omega,fun h2=>?_⟩;rcases BD.o b h2 with h3|h3;·exact h1.2 h3
     ·omega
    refine(IH.out _ (bN hlt) sj Mj A _ _ (HI.o.keeps _ _ _ _ PO.o (UX.mono fun _ _ _=>trivial)) hnd hrd O9).mono ?_;rintro e w1⟨us,M2,rfl,il,hM2,gu,hr⟩;obtain⟨sa',sK,rfl, -⟩:=Tm.dV hr;have hsz:=il.size;simp only[dG]at hsz hM2 hr;have hlt2:=HO.o.lt;have PQ:=HI.o.lt _ _ _ gu;have PR:∀b,M2 b->M b\/w.heap.size+3<=b:=fun b hb=>by
     rcases hM2 b hb with h1|h1;·exact BD.o b h1
     ·exact .inr (by omega)
    have hn2:∀b,b<W0.heap.size->¬Mj b->¬M2 b:=fun b hb hn h=>by
     rcases hM2 b h with h1|h1;·exact hn h1
     ·omega
    have Cg:az W0.drew _ _ _ _ _ _ _:=HO.o.keeps Tm.ae UX (fun _ _=>trivial) (fun _ _=>trivial);have ajP:az w1 _ _ _ _ (fun b=>w.heap.size+3<=b/\¬M2 b) _ _:=((Cg.mono (A':=fun b=>w.heap.size+3<=b/\¬M2 b/\¬Mj b) Tm.ae (fun b hb hb'=>⟨hb'.1,hn2 b hb hb'.2,hb'.2⟩)).keeps (B:=fun b=>¬Mj b) Tm.ae (il.keeps fun _ _ h=>h) (fun _ h=>h.2.2) kU.o).mono Tm.ae (fun b _ hb=>⟨hb.1,hb.2.1⟩);have fH:=Y ajP;have PS:Hd (∀b,ownB (.slice va j vc)=some b->¬M2 b):=fun b hb=>hn2 b (by have :=(hlt2 b hb).2;omega) (kU.o b hb);have HN:=Y (show Tm.rep (fun b=>(w.heap.size+3<=b/\¬M2 b)/\ownB (.slice va j vc)≠some b) w1 _ _ from Tm.ae.2.1 _ _ _ _ _ hr fun b _ hb=>⟨⟨by omega,hb.2⟩,fun e=>by have :=(hlt2 b e).2;omega⟩);have HL:=Y (show(Tm.aZ aL st1 (l.take j)).1.length<4194304/\w.heap.size+3<=w1.heap.size by rw[UW.o];omega);have hnb:∀b,b<w.heap.size+3->w.heap.size<=b->¬Mj b:=fun b h1 h2 h3=>by
     rcases BD.o b h3 with h4|h4;·have :=Lg.o b h4;omega
     ·omega
    have CJ:Hd (Ch M w w1):=Y (((show Ch M w W0.drew by subst hW;exact(Ng.o.alloc _).drew)).trans il (fun b hb=>by rcases BD.o b hb with h|h;exact .inl h;exact .inr (by omega)));have hkj:=il.keeps (A:=fun b=>¬Mj b) (fun _ _ h=>h);have PT:¬Mj wr.heap.size:=fun h=>by have :=HI.o.lt _ _ _ PO.o _ h;omega
    have HQ:=Y (show w1.cell? ⟨w.heap.size+1+1,3,none⟩=some (.slice va j vc)/\w1.cell? ⟨wr.heap.size,0,none⟩=some (.int .i64 l[j].kind)/\w1.cell? ⟨wr.heap.size,1,none⟩=some (.int .i64 l[j].n)/\w1.cell? ⟨wr.heap.size,2,none⟩=some (.string l[j].s)/\w1.cell? ⟨wr.heap.size,3,none⟩=some (.slice sa l[j].args.length sc)/\w1.cell? ⟨bw,0,none⟩=some (.func (.func 103) #[] #[.pointer (some ⟨bs,0,none⟩),.pointer (some ⟨bw,0,none⟩)])from⟨hkj.cell (hnb _ (by omega) (by omega)) hW1,hkj.cell PT hx0,hkj.cell PT hx1,hkj.cell PT hx2,hkj.cell PT hx3,gu.cw⟩);have WQ:=Y (show w1.heap[w.heap.size+1+1]?=_ from bJ (w:=W0.drew) (by subst hW;exact aI ajN.o _) hkj (hnb _ (by omega) (by omega)));have yF:=Y (show w1.heap[w.heap.size+1]?=_ from bJ (w:=W0.drew) (by subst hW;exact aI ajO.o _) hkj (hnb _ (by omega) (by omega)));have abt:=Y gu;have abu:=Y PQ;have BF:=Y PR;clear hrd hr il Cg ajP gu PQ PR hn2 hnb hkj PT hM2 O9 hnd UX;refine⟨fun _ _ _ _=>HQ.o,?_⟩;refine zO 5 ?_;go_simp;refine⟨fun _ _ _ _=>?_,?_⟩;·obtain⟨q0,q1,q2,q3,q4,q5⟩:=HQ.o;have ka:=J.alloc (fun _=>True) w1 (.cells #[.int .i64 (Tm.cZ aL sj l[j]).1.kind,.int .i64 (Tm.cZ aL sj l[j]).1.n,.string (Tm.cZ aL sj l[j]).1.s,.slice sa' (Tm.cZ aL sj l[j]).1.args.length sK] 34);exact⟨ka.cell trivial q0,ka.cell trivial q1,ka.cell trivial q2,ka.cell trivial q3,ka.cell trivial q4,ka.cell trivial q5⟩
    refine zO 6 ?_;refine uC (.tmp 25) (.tmp 29) 23 rfl (w.heap.size+3) 34 4 56 Au Tm.ae _ _ rfl fH.o (Tm.cZ aL sj l[j]).1 [_,_,_,_] rfl rfl HN.o HL.o ?_;intro v2 w2 hown2 aj;have hk2:=aj.keeps (A:=fun b=>ownB (.slice va j vc)≠some b) (fun _ h=>h);have hka:=(J.alloc (fun b=>ownB (.slice va j vc)≠some b) w1 (.cells #[.int .i64 (Tm.cZ aL sj l[j]).1.kind,.int .i64 (Tm.cZ aL sj l[j]).1.n,.string (Tm.cZ aL sj l[j]).1.s,.slice sa' (Tm.cZ aL sj l[j]).1.args.length sK] 34)).trans hk2;have n1:ownB (.slice va j vc)≠some (w.heap.size+1+1):=fun e=>by have :=(hlt2 _ e).1;omega
    have n2:ownB (.slice va j vc)≠some wr.heap.size:=fun e=>by have :=(hlt2 _ e).2;omega
    have n3:ownB (.slice va j vc)≠some (w.heap.size+1):=fun e=>by have :=(hlt2 _ e).1;omega
    have n4:ownB (.slice va j vc)≠some bw:=fun e=>kU.o bw e PO.o.mw;have Gh:=Y (bJ WQ.o hka n1);have Q7:=Y (bJ yF.o hka n3);have CK:=Y (aj.ch (CJ.o.alloc (.cells #[.int .i64 (Tm.cZ aL sj l[j]).1.kind,.int .i64 (Tm.cZ aL sj l[j]).1.n,.string (Tm.cZ aL sj l[j]).1.s,.slice sa' (Tm.cZ aL sj l[j]).1.args.length sK] 34)) (fun b hb=> .inr (by have :=(hlt2 b hb).1;omega)));have ava:=Y (HI.o.keeps _ _ _ _ abt.o (hka.mono fun b _ hb e=>PS.o b e hb));have avb:Hd (∀b,ownB v2=some b->¬M2 b):=fun b hb hm=>by
     have h1:=aj.block;rcases h1 with h1|h1;·exact PS.o b (h1.symm.trans hb) hm
     ·have h2:=h1 b hb;have h3:=abu.o b hm;simp only[bO]at h2;omega
    obtain⟨aS,aT,hv2,Gi⟩:=hown2.val;rw[show((Tm.aZ aL st1 (l.take j)).1++[(Tm.cZ aL sj l[j]).1]).length=j+1 by rw[bB,UW.o];rfl]at hv2;subst hv2;have hz2:=aj.size;have bA:=Y hown2;simp only[bO]at hz2;obtain⟨y0,y1,y2,y3,yf⟩:=aF Gh.o;refine⟨fun _ _ _ _=>?_,?_⟩;·obtain⟨q0,q1,q2,q3,q4,q5⟩:=HQ.o;exact⟨hka.cell n1 q0,hka.cell n2 q1,hka.cell n2 q2,hka.cell n2 q3,hka.cell n2 q4,hka.cell n4 q5⟩
    clear hown2 hka hk2;simp only[U];refine zT 7 (fun h=>by omega) ?_;try simp only[U]
    refine zO 8 ?_;go_simp;refine⟨fun k0 hk0 _ h12=>?_,zQ ?_⟩
    ·rcases h12 with rfl|rfl|rfl;·exact absurd (show waits _ 8 1=true by kernel_rfl) (by rw[hk0];decide)
     ·exact absurd (show waits _ 8 2=true by kernel_rfl) (by rw[hk0];decide)
     ·exact absurd (show waits _ 8 3=true by kernel_rfl) (by rw[hk0];decide)
    have HB3:=Y (aX Gh.o 3 (.slice aS (j+1) aT));have hz3:(w2.setCell ⟨w.heap.size+1+1,3,none⟩ (.slice aS (j+1) aT)).heap.size=w2.heap.size:=by simp
    have uF:=Y (J.setCell (fun b=>b≠w.heap.size+1+1) w2 ⟨w.heap.size+1+1,3,none⟩ (.slice aS (j+1) aT) (by simp));clear aj;go_wp2_with fail;go_roundw;case rel=>
     have hnw:∀b,M2 b->b≠w.heap.size+1+1:=fun b hb e=>by
      rcases BF.o b hb with h|h;·have :=Lg.o b h;omega
      ·omega
     refine⟨j+1,_,_,M2,by omega,by go_num,by omega,CK.o.setCell (.inr (by simp<;>omega)) _,BF.o,HI.o.keeps _ _ _ _ ava.o (uF.o.mono fun b _ hb=>hnw b hb),bJ Q7.o uF.o (by omega),HB3.o,?_,avb.o,?_⟩;·rw[iq hlt,Tm.Q8,<-Fz.o]
     ·rw[iq hlt,Tm.Q8,<-Fz.o];exact bA.o.keeps Tm.ae uF.o (fun b hb=>by omega) (fun b hb=>by have :=(bA.o.lt b hb).1;omega)
    case measure=>simp[intOf];omega
   ·have :j=l.length:=by omega
    subst this;try clear z0 z1 z2 z3 zf
    obtain⟨z0,z1,z2,z3,zf⟩:=aF ajO.o;try clear hcs
    have hcs:=bF;try clear HB0
    try clear HB1 HB2 aM xL
    try clear x0 x1 x2 x3 xf
    go_wp2_with fail;refine bX (v:= .agg #[.int .i64 k,.int .i64 m,.string s,.slice va l.length vc]) (by simp[results,Tryz.results103,go_sem,hcs,z0,z1,z2,z3]) rfl ⟨[_,_,_,_],Mj,rfl,?_,fun b hb=>?_,?_,?_⟩;·refine Ch.setCell (Ch.setCell (Ch.setCell (Ch.setCell Ng.o ?_ _) ?_ _) ?_ _) ?_ _<;>simp
    ·rcases BD.o b hb with h|h;·exact .inl h
     ·exact .inr (by omega)
    ·have hs2:=Fz.o;rw[nQ]at hs2;rw[Tm.cZ,<-HM.o];dsimp only;rw[<-hs2];have hnw:∀b,Mj b->b≠w.heap.size+1:=fun b hb e=>by
      rcases BD.o b hb with h|h;·have :=Lg.o b h;omega
      ·omega
     refine HI.o.keeps _ _ _ _ PO.o (J.trans (J.trans (J.trans (J.setCell _ _ _ _ ?_) (J.setCell _ _ _ _ ?_)) (J.setCell _ _ _ _ ?_)) (J.setCell _ _ _ _ ?_))<;>exact fun h=>hnw _ h rfl
    ·have hO:=HO.o;rw[nQ]at hO;have hsl:=(hO.mono (A':=fun b=>w.heap.size+3<=b/\¬Mj b) Tm.ae (fun b _ hb=>hb));have hsl2:ag 4 Tm.rep (fun b=>w.heap.size+3<=b/\¬Mj b) wr (Tm.aZ aL st1 l).1 (.slice va l.length vc):=hO.sl' Tm.ae (by rw[Tm.Gj];exact hlb) (fun b hb=>⟨by have :=(HO.o.lt b hb).1;omega,kU.o b hb⟩);rw[Tm.cZ,<-HM.o];rw[Tm.jv];refine⟨hk,ajM.o,hs,_,rfl,?_⟩;refine ag.mono Tm.ae (by omega) (ag.keeps Tm.ae hsl2 ?_) (fun b _ hb=>⟨by omega,hb.2⟩);refine J.trans (J.trans (J.trans (J.setCell _ _ _ _ ?_) (J.setCell _ _ _ _ ?_)) (J.setCell _ _ _ _ ?_)) (J.setCell _ _ _ _ ?_)<;>simp
theorem avc(pb bs bw:Nat):∀t,abr pb bs bw t:=by intro t;induction t using Tm.induct with|h k n s l ih=>exact au9 pb bs bw k n s l ih
theorem avd(l:List Tm)(hnd:(Tm.aZ aL [] l).2.length<=4194303)(A:Nat->Prop)(w:World)(v:Value)(hv:iN A w l v):Calls Tryz.prog 64 #[v] w (Pure w fun v' w'=>iN (New w) w' (Tm.aZ aL [] l).1 v'):=by
 obtain⟨a,cap,b,off,rfl,hlc,hcm,hlb,ha,he⟩:=hv.at;have HE:=Y he;have HA:=Y ha;have HV:=Y hv;clear hv he ha;go_enter Tryz.func64,Tryz.ntmps64;go_wp2_with fail;go_loopw[5,11](fun v i wr=>∃(j:Nat)(sj:List Int)(Mj:Nat->Prop),j<=l.length/\i= .int .i64 j/\w.heap.size+2<=wr.heap.size/\Below w.heap.size w wr/\(∀b,Mj b->w.heap.size<=b)/\zU (w.heap.size+2) w.heap.size (w.heap.size+1) sj Mj wr/\sj=(Tm.aZ aL [] (l.take j)).2/\(∀b,ownB v=some b->¬Mj b)/\az wr (w.heap.size+2) 34 4 Tm.rep (fun b=>w.heap.size+2<=b/\¬Mj b) (Tm.aZ aL [] (l.take j)).1 v)(fun _ i _=>l.length - (intOf i).toNat);case atStart=>
  have hq:=mi w (.cells #[.slice none 0 0] 57) (.cells #[.func (.func 103) #[] #[.pointer (some ⟨w.heap.size,0,none⟩),.pointer (some ⟨w.heap.size+1,0,none⟩)]] 39);refine⟨0,[],fun b=>(b=w.heap.size\/ownB (.slice none 0 0)=some b)\/b=w.heap.size+1,dA _,rfl,by simp,iO (iO (Z _ _)),fun b hb=>?_,⟨_,⟨_,hq.1,az.nil ..,by simp,by omega,fun b=>Mk⟩,(bY hq.2 0).trans rfl,fun b=>Mk,fun h=>?_⟩,by simp[Tm.aZ],by simp[ownB],by simpa[Tm.aZ]using az.nil ..⟩
  ·rcases hb with(rfl|hb)|rfl;·omega
   ·simp[ownB]at hb
   ·omega
  ·rcases h with h|h;·omega
   ·simp[ownB]at h
 case round=>
  obtain⟨j,sj,Mj,hj,rfl,hz,hb,hMj,hst,hsj,cO,hown⟩:=hrel;have hvl:(Tm.aZ aL [] (l.take j)).1.length=j:=by rw[Tm.Gj];simp;omega
  have HB:=Y hb;have BD:=Y hMj;have HST:=Y hst;have Fz:=Y hsj;have kU:=Y cO;have HO:=Y hown;have UW:=Y hvl;clear hb hMj hst hsj cO hown hvl;by_cases hlt:j<l.length
  ·obtain⟨rfl,bQ⟩:=HA.o (by omega);obtain⟨sa,sc,c0,c1,c2,c3,hr⟩:=lJ HE.o bQ (J.ob HB.o) hlt;have lb:b<wr.heap.size:=iW wr _ c0;have hr0:=HE.o;obtain⟨vs0,hl0,abv,ajQ⟩:=hr0 j _ (aJ hlt);obtain⟨sa0,sc0,rfl, -⟩:=Tm.dV abv;obtain⟨-, -, -,d3⟩:=adY (qJ.keeps bQ ajQ (J.ob (A:=A) HB.o));have hsame:Value.slice sa l[j].args.length sc=Value.slice sa0 l[j].args.length sc0:=zI (c3.symm.trans d3);simp only[cK,dx]at hsame;obtain⟨rfl,rfl⟩:=hsame;have ajR:=Tm.ae.2.1 _ (fun b=>A b/\b<w.heap.size) _ _ _ abv (fun b hb h=>⟨h,hb⟩);have HR:=Y (Tm.ae.1 _ _ wr _ _ ajR (J.ob HB.o));clear hr hr0 hl0 abv ajQ d3 ajR;have hcw:=fun o=>(J.alloc (fun _=>True) wr o).cell trivial HST.o.cw;go_wp2_with fail;have YD:(Tm.cZ aL sj l[j]).2.length<=4194303:=by have h1:=Tm.abq l [] j hlt;rw[Fz.o];omega
   refine(avc _ _ _ l[j] sj Mj (fun b=>A b/\b<w.heap.size) _ [_,_,_,_] ((PM _ _ _).keeps _ _ _ _ HST.o (J.alloc _ _ _)) YD (Tm.ae.1 _ _ _ _ _ HR.o (J.alloc _ _ _)) (fun b hb=>⟨by simp;omega,fun h=>by have :=BD.o b h;omega⟩)).mono ?_;rintro e w1⟨us,M2,rfl,hch,hM2,gu,hr⟩;obtain⟨sa',sK,rfl, -⟩:=Tm.dV hr;have hsz:=hch.size;simp only[bO]at hsz hM2 hr;have hlt2:=HO.o.lt;have PQ:=(PM _ _ _).lt _ _ _ gu;have PR:∀b,M2 b->w.heap.size<=b:=fun b hb=>by
    rcases hM2 b hb with h1|h1;·exact BD.o b h1
    ·omega
   have hn2:∀b,b<wr.heap.size+1->¬Mj b->¬M2 b:=fun b hb hn h=>by
    rcases hM2 b h with h1|h1;·exact hn h1
    ·omega
   have Cg:=HO.o.alloc Tm.ae (.cells #[.int .i64 l[j].kind,.int .i64 l[j].n,.string l[j].s,.slice sa l[j].args.length sc] 34);have fH:=Y (((Cg.mono (A':=fun b=>w.heap.size+2<=b/\¬M2 b/\¬Mj b) Tm.ae (fun b hb hb'=>⟨hb'.1,hn2 b (by simpa using hb) hb'.2,hb'.2⟩)).keeps (B:=fun b=>¬Mj b) Tm.ae (hch.keeps fun _ _ h=>h) (fun _ h=>h.2.2) kU.o).mono (A':=fun b=>w.heap.size+2<=b/\¬M2 b) Tm.ae (fun b _ hb=>⟨hb.1,hb.2.1⟩));have PS:Hd (∀b,ownB u5=some b->¬M2 b):=fun b hb=>hn2 b (by have :=(hlt2 b hb).2;omega) (kU.o b hb);have HN:=Y (show Tm.rep (fun b=>(w.heap.size+2<=b/\¬M2 b)/\ownB u5≠some b) w1 _ _ from Tm.ae.2.1 _ _ _ _ _ hr fun b _ hb=>⟨⟨by omega,hb.2⟩,fun e=>by have :=(hlt2 b e).2;omega⟩);have HL:=Y (show(Tm.aZ aL [] (l.take j)).1.length<4194304/\w.heap.size+2<=w1.heap.size by rw[UW.o];omega);have HB2:=Y (show Below w.heap.size w w1 from((Ch.of_below (M:=fun _=>False) (HB.o.alloc (by omega) _)).trans hch (fun b hb=> .inr (BD.o b hb))).below (fun _ _ h=>h));have abt:=Y gu;have abu:=Y PQ;have BF:=Y PR;clear hr hch Cg gu PQ PR hn2 hM2;go_wp2_with(at_builtin;refine ja rfl (.tmp 15) (.tmp 19) 23 rfl (w.heap.size+2) 34 4 56 Au Tm.ae u5 _ rfl fH.o (Tm.cZ aL sj l[j]).1 [_,_,_,_] rfl rfl HN.o HL.o ?_;intro v2 w2 hown2 aj);go_roundw;case rel=>
    have hk2:=aj.keeps (A:=fun b=>ownB u5≠some b) (fun _ h=>h);have hka:=(J.alloc (fun b=>ownB u5≠some b) w1 (.cells #[.int .i64 (Tm.cZ aL sj l[j]).1.kind,.int .i64 (Tm.cZ aL sj l[j]).1.n,.string (Tm.cZ aL sj l[j]).1.s,.slice sa' (Tm.cZ aL sj l[j]).1.args.length sK] 34)).trans hk2;refine⟨j+1,(Tm.cZ aL sj l[j]).2,M2,by omega,by go_num,by have :=aj.size;simp only[bO]at this;omega,aj.below (HB2.o.alloc (by omega) _) (by simp;omega) (fun b hb=>by have :=(hlt2 b hb).1;omega),BF.o,(PM _ _ _).keeps _ _ _ _ abt.o (hka.mono fun b _ hb e=>PS.o b e hb),?_,fun b hb hm=>?_,?_⟩;·rw[iq hlt,Tm.Q8,<-Fz.o]
    ·rcases aj.block with h1|h1;·exact PS.o b (h1.symm.trans hb) hm
     ·have h2:=h1 b hb;have h3:=abu.o b hm;simp only[bO]at h2;omega
    ·rw[iq hlt,Tm.Q8,<-Fz.o];exact hown2
   case measure=>simp[intOf];omega
  ·have :j=l.length:=by omega
   subst this;go_wp2_with fail;go_ret;have hO:=HO.o;rw[nQ]at hO;exact⟨_,rfl,HB.o,(hO.mono Tm.ae (fun b _ hb=>show New w b by unfold New;omega)).sl Tm.ae (by rw[Tm.Gj];exact hlb) (fun b hb=>by unfold New;omega)⟩
theorem ajS(l:List Tm)(hnd:Tm.aC l<=4194303)(A:Nat->Prop)(w:World)(v:Value)(hv:iN A w l v):Calls Tryz.prog 64 #[v] w (Pure w fun v' w'=>iN (New w) w' (Tm.aZ aL [] l).1 v'):=avd l (by have h1:=Tm.anF (sz:=List.length) aeW l [];simp only[fT]at h1;omega) A w v hv
