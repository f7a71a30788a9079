import Derived.Test.YtlpmfkpefoegeacGreatDoorQMach4
namespace Go.Proofs.YtlpmfkpefoegeacGreatDoor
set_option maxRecDepth 99999
set_option maxHeartbeats 0
set_option linter.all false
open Go.RowKit
theorem VA{w w1 w2:World}{g:Nat}(h:Below w.heap.size w w1)(hc:Ch (fun b=>b=g) w1 w2)(hg:w.heap.size<=g):Below w.heap.size w w2:=(Ch.trans (Ch.of_below (M:=fun b=>b=g) h) hc (fun _ h=> .inl h)).below (fun k hk e=>by omega)
def anU(A:Nat->Prop)(x:Tm×Int×Int)(r:Value)(w':World):Prop:=∃us,r= .tuple #[.agg us.toArray,.int .i64 x.2.1,.int .i64 x.2.2]/\Tm.rep A w' x.1 us
theorem anV(hq:Hp)(a most:Int)(ha:au a)(anW:au most)(A:Nat->Prop)(w:World)(vs:List Value)(hh:Hp.rep A w hq vs):Calls Tryz.prog 62 #[.agg vs.toArray,.int .i64 a,.int .i64 most] w (Pure w (anU (New w) (dF hq a most))):=by
 obtain⟨va,cap,vb,aN,rfl,hc1,hc2,hc3,ht1,ht2,ht3,hc,ht⟩:=Hp.kY hh;have HH:=zh hh;have xP:=zh ha;have lZ:=zh (fun w'(hk:ag A w w')=>AQ hq A w' _ (Hp.rep.keeps hh hk));obtain⟨L,hL⟩:=eu (show 0<=leftOf most by unfold leftOf;omega);have hL2:L<=65536:=by unfold leftOf at hL;omega
 have hLM:max 0 (min most 65536)=(L:Int):=by unfold leftOf at hL;omega
 have vX:=zh hL;clear hh hc ht ha anW hL;go_enter Tryz.func62,Tryz.ntmps62;go_wp2_with fail;refine(lZ.o _ ((ag.alloc _ _ _).trans (ag.alloc _ _ _))).mono ?_;rintro e w1⟨v,rfl,hb1,tt,rfl,ht⟩;have h2:=mG w (.cells #[.slice va hq.cells.length cap,.slice vb hq.trail.length aN] 59) (.cells #[.int .i64 0,.int .i64 0,.string .empty,.slice none 0 0] 34);have bR:=zh (aL h2.1 hb1);have bG:=zh (aL h2.2 hb1);have HB:=zh (show Below w.heap.size w w1 from gU (gU (hb1.mono (by simp))));have hz:w.heap.size+1<w1.heap.size:=by have :=hb1.size;simp at this;omega
 have hz':w.heap.size<w1.heap.size:=by omega
 have kC:=zh ht;have hcs:=dz;clear h2 hb1 ht;obtain⟨x0,x1,xf⟩:=bM bR.o;obtain⟨y0,y1,y2,y3,yf⟩:=aW bG.o;cases tt with
  |false=>
   have hg:¬hq.Good:=fun hg=>by have :=kC.o.2 hg;cases this
   go_wp2_with fail;refine cK (v:= .tuple #[.agg #[.int .i64 0,.int .i64 0,.string .empty,.slice none 0 0],.int .i64 0,.int .i64 1]) (by simp[results,Tryz.results62,go_sem,hcs,y0,y1,y2,y3];try rfl) rfl ?_;rw[dF,ah hg];refine Pure.mk ?_ ⟨[_,_,_,_],rfl,BA _ _⟩;repeat(with_reducible first|exact HB.o|refine bH ?_ (by simp) _)
  |true=>
   have HG:=zh (kC.o.1 rfl);clear kC;by_cases hin:Inb hq.cells a;case neg=>have gW:=zh hin;clear hin;go_wp2_with fail;all_goals first|(exfalso;omega)|(refine cK (v:= .tuple #[.agg #[.int .i64 0,.int .i64 0,.string .empty,.slice none 0 0],.int .i64 0,.int .i64 4]) (by simp[results,Tryz.results62,go_sem,hcs,y0,y1,y2,y3];try rfl) rfl ?_;rw[dF,ae (dL HG.o),ah gW.o];refine Pure.mk ?_ ⟨[_,_,_,_],rfl,BA _ _⟩;repeat(with_reducible first|exact HB.o|refine bH ?_ (by simp) _))|go_ways
   case pos=>
    have gW:=zh hin;obtain⟨i0,i1⟩:=hin;have HT0:=zh (show dF hq a most=xM (L:Int) (iT hq.cells L a)by rw[dF,ae (dL HG.o),ae (dL gW.o),vX.o,dB]);have hcases:(most<=0/\(L:Int)=0)\/(0<most/\most<=65536/\(L:Int)=most)\/(65536<most/\(L:Int)=65536):=by have :=vX.o;unfold leftOf at this;omega
    rcases hcases with⟨m1,m2⟩|⟨m1,m3,m2⟩|⟨m1,m2⟩
    ·go_wp2_with fail;all_goals
      have DW:=zh (aX bG.o (.cells #[.int .i64 0] 3));have uL:=zh (show mq w1.heap.size (L:Int) (w1.alloc (.cells #[.int .i64 0] 3))by rw[m2];exact bV _ _);have HB1:=zh (HB.o.alloc (by omega) (.cells #[.int .i64 0] 3));have hs1:(w1.alloc (.cells #[.int .i64 0] 3)).heap.size=w1.heap.size+1:=by simp
      have HR1:=zh (Hp.rep.keeps (Hp.rep.mono (A':=fun b=>b<w.heap.size) HH.o (fun b hb _=>hb)) (ag.ob HB1.o));clear x0 x1 xf y0 y1 y2 y3 yf;refine(TS L hq a w1.heap.size (fun b=>b<w.heap.size) _ [_,_] HG.o.1 xP.o (by omega) HR1.o uL.o hL2).mono ?_;rintro e w2⟨us,t,k,rfl,hch,hr,hl,hres⟩;obtain⟨sa,sc,rfl, -⟩:=Tm.nk hr;have hsz2:=hch.size;have hkg:ag (fun b=>b≠w1.heap.size) _ w2:=hch.keeps (A:=fun b=>b≠w1.heap.size) (fun b _ hb e=>hb e);have uO:=zh (dE DW.o hkg (by omega));have HB2:=zh (show Below w.heap.size w w2 from VA HB1.o hch (by omega));have HR:=zh hr;have HL:=zh hl;have jy:=zh hres;have hw2:w.heap.size+1<w2.heap.size:=by omega
      have BQ:w.heap.size<w2.heap.size:=by omega
      have hne':¬w.heap.size+1=w1.heap.size:=by omega
      obtain⟨q0,qf,hgl⟩:=DL hl;obtain⟨y0,y1,y2,y3,yf⟩:=aW uO.o;clear hch hr hl hres hkg;rcases jy.o with⟨r1,rfl⟩|⟨r1,r2⟩;·go_wp2_with fail;refine cK (v:= .tuple #[.agg #[.int .i64 0,.int .i64 0,.string .empty,.slice none 0 0],.int .i64 0,.int .i64 3]) (by simp[results,Tryz.results62,go_sem,hcs,y0,y1,y2,y3,hw2,BQ];try rfl) rfl ?_;rw[HT0.o,r1];refine Pure.mk ?_ ⟨[_,_,_,_],rfl,BA _ _⟩;repeat(with_reducible first|exact HB2.o|refine LH ?_|refine LD ?_ (by simp only[mZ,ig];omega) _|refine bH ?_ (by simp) _)
      ·obtain⟨k,rfl⟩:=eu r2;have HR1:=zh r1;have kZ:=MX r1;clear r1 jy r2;go_wp2_with fail;go_region;all_goals
        go_wp2_with fail;refine cK (v:= .tuple #[.agg #[.int .i64 t.kind,.int .i64 t.n,.string t.s,.slice sa t.args.length sc],.int .i64 (0 - (k:Int)),.int .i64 0]) (by simp[results,Tryz.results62,go_sem,hcs,y0,y1,y2,y3,hw2,BQ];try rfl) rfl ?_;rw[HT0.o,HR1.o];refine Pure.mk ?_ ⟨[.int .i64 t.kind,.int .i64 t.n,.string t.s,.slice sa t.args.length sc],by simp only[xM,dB,m2];try rfl,?_⟩;·repeat(with_reducible first|exact HB2.o|refine LH ?_|refine LD ?_ (by simp only[mZ,ig];omega) _|refine bH ?_ (by simp) _)
        ·refine Tm.aA.2.1 _ _ _ _ _ (Tm.aA.1 _ _ _ _ _ HR.o ?_) (fun b _ hb=>by unfold New at hb ⊢;omega);repeat(with_reducible first|exact ag.refl _ _|exact ag.drew _ _|refine ag.trans ?_ (ag.alloc _ _ _)|refine ag.trans ?_ (ag.setCell _ _ _ _ (by simp[New];omega))|refine ag.trans ?_ (ag.drew _ _))
    ·go_wp2_with fail;all_goals
      have DW:=zh (aX bG.o (.cells #[.int .i64 most] 3));have uL:=zh (show mq w1.heap.size (L:Int) (w1.alloc (.cells #[.int .i64 most] 3))by rw[m2];exact bV _ _);have HB1:=zh (HB.o.alloc (by omega) (.cells #[.int .i64 most] 3));have hs1:(w1.alloc (.cells #[.int .i64 most] 3)).heap.size=w1.heap.size+1:=by simp
      have HR1:=zh (Hp.rep.keeps (Hp.rep.mono (A':=fun b=>b<w.heap.size) HH.o (fun b hb _=>hb)) (ag.ob HB1.o));clear x0 x1 xf y0 y1 y2 y3 yf;refine(TS L hq a w1.heap.size (fun b=>b<w.heap.size) _ [_,_] HG.o.1 xP.o (by omega) HR1.o uL.o hL2).mono ?_;rintro e w2⟨us,t,k,rfl,hch,hr,hl,hres⟩;obtain⟨sa,sc,rfl, -⟩:=Tm.nk hr;have hsz2:=hch.size;have hkg:ag (fun b=>b≠w1.heap.size) _ w2:=hch.keeps (A:=fun b=>b≠w1.heap.size) (fun b _ hb e=>hb e);have uO:=zh (dE DW.o hkg (by omega));have HB2:=zh (show Below w.heap.size w w2 from VA HB1.o hch (by omega));have HR:=zh hr;have HL:=zh hl;have jy:=zh hres;have hw2:w.heap.size+1<w2.heap.size:=by omega
      have BQ:w.heap.size<w2.heap.size:=by omega
      have hne':¬w.heap.size+1=w1.heap.size:=by omega
      obtain⟨q0,qf,hgl⟩:=DL hl;obtain⟨y0,y1,y2,y3,yf⟩:=aW uO.o;clear hch hr hl hres hkg;rcases jy.o with⟨r1,rfl⟩|⟨r1,r2⟩;·go_wp2_with fail;refine cK (v:= .tuple #[.agg #[.int .i64 0,.int .i64 0,.string .empty,.slice none 0 0],.int .i64 0,.int .i64 3]) (by simp[results,Tryz.results62,go_sem,hcs,y0,y1,y2,y3,hw2,BQ];try rfl) rfl ?_;rw[HT0.o,r1];refine Pure.mk ?_ ⟨[_,_,_,_],rfl,BA _ _⟩;repeat(with_reducible first|exact HB2.o|refine LH ?_|refine LD ?_ (by simp only[mZ,ig];omega) _|refine bH ?_ (by simp) _)
      ·obtain⟨k,rfl⟩:=eu r2;have HR1:=zh r1;have kZ:=MX r1;clear r1 jy r2;go_wp2_with fail;go_region;all_goals
        go_wp2_with fail;refine cK (v:= .tuple #[.agg #[.int .i64 t.kind,.int .i64 t.n,.string t.s,.slice sa t.args.length sc],.int .i64 (most - (k:Int)),.int .i64 0]) (by simp[results,Tryz.results62,go_sem,hcs,y0,y1,y2,y3,hw2,BQ];try rfl) rfl ?_;rw[HT0.o,HR1.o];refine Pure.mk ?_ ⟨[.int .i64 t.kind,.int .i64 t.n,.string t.s,.slice sa t.args.length sc],by simp only[xM,dB,m2];try rfl,?_⟩;·repeat(with_reducible first|exact HB2.o|refine LH ?_|refine LD ?_ (by simp only[mZ,ig];omega) _|refine bH ?_ (by simp) _)
        ·refine Tm.aA.2.1 _ _ _ _ _ (Tm.aA.1 _ _ _ _ _ HR.o ?_) (fun b _ hb=>by unfold New at hb ⊢;omega);repeat(with_reducible first|exact ag.refl _ _|exact ag.drew _ _|refine ag.trans ?_ (ag.alloc _ _ _)|refine ag.trans ?_ (ag.setCell _ _ _ _ (by simp[New];omega))|refine ag.trans ?_ (ag.drew _ _))
    ·go_wp2_with fail;all_goals
      have DW:=zh (aX bG.o (.cells #[.int .i64 65536] 3));have uL:=zh (show mq w1.heap.size (L:Int) (w1.alloc (.cells #[.int .i64 65536] 3))by rw[m2];exact bV _ _);have HB1:=zh (HB.o.alloc (by omega) (.cells #[.int .i64 65536] 3));have hs1:(w1.alloc (.cells #[.int .i64 65536] 3)).heap.size=w1.heap.size+1:=by simp
      have HR1:=zh (Hp.rep.keeps (Hp.rep.mono (A':=fun b=>b<w.heap.size) HH.o (fun b hb _=>hb)) (ag.ob HB1.o));clear x0 x1 xf y0 y1 y2 y3 yf;refine(TS L hq a w1.heap.size (fun b=>b<w.heap.size) _ [_,_] HG.o.1 xP.o (by omega) HR1.o uL.o hL2).mono ?_;rintro e w2⟨us,t,k,rfl,hch,hr,hl,hres⟩;obtain⟨sa,sc,rfl, -⟩:=Tm.nk hr;have hsz2:=hch.size;have hkg:ag (fun b=>b≠w1.heap.size) _ w2:=hch.keeps (A:=fun b=>b≠w1.heap.size) (fun b _ hb e=>hb e);have uO:=zh (dE DW.o hkg (by omega));have HB2:=zh (show Below w.heap.size w w2 from VA HB1.o hch (by omega));have HR:=zh hr;have HL:=zh hl;have jy:=zh hres;have hw2:w.heap.size+1<w2.heap.size:=by omega
      have BQ:w.heap.size<w2.heap.size:=by omega
      have hne':¬w.heap.size+1=w1.heap.size:=by omega
      obtain⟨q0,qf,hgl⟩:=DL hl;obtain⟨y0,y1,y2,y3,yf⟩:=aW uO.o;clear hch hr hl hres hkg;rcases jy.o with⟨r1,rfl⟩|⟨r1,r2⟩;·go_wp2_with fail;refine cK (v:= .tuple #[.agg #[.int .i64 0,.int .i64 0,.string .empty,.slice none 0 0],.int .i64 0,.int .i64 3]) (by simp[results,Tryz.results62,go_sem,hcs,y0,y1,y2,y3,hw2,BQ];try rfl) rfl ?_;rw[HT0.o,r1];refine Pure.mk ?_ ⟨[_,_,_,_],rfl,BA _ _⟩;repeat(with_reducible first|exact HB2.o|refine LH ?_|refine LD ?_ (by simp only[mZ,ig];omega) _|refine bH ?_ (by simp) _)
      ·obtain⟨k,rfl⟩:=eu r2;have HR1:=zh r1;have kZ:=MX r1;clear r1 jy r2;go_wp2_with fail;go_region;all_goals
        go_wp2_with fail;refine cK (v:= .tuple #[.agg #[.int .i64 t.kind,.int .i64 t.n,.string t.s,.slice sa t.args.length sc],.int .i64 (65536 - (k:Int)),.int .i64 0]) (by simp[results,Tryz.results62,go_sem,hcs,y0,y1,y2,y3,hw2,BQ];try rfl) rfl ?_;rw[HT0.o,HR1.o];refine Pure.mk ?_ ⟨[.int .i64 t.kind,.int .i64 t.n,.string t.s,.slice sa t.args.length sc],by simp only[xM,dB,m2];try rfl,?_⟩;·repeat(with_reducible first|exact HB2.o|refine LH ?_|refine LD ?_ (by simp only[mZ,ig];omega) _|refine bH ?_ (by simp) _)
        ·refine Tm.aA.2.1 _ _ _ _ _ (Tm.aA.1 _ _ _ _ _ HR.o ?_) (fun b _ hb=>by unfold New at hb ⊢;omega);repeat(with_reducible first|exact ag.refl _ _|exact ag.drew _ _|refine ag.trans ?_ (ag.alloc _ _ _)|refine ag.trans ?_ (ag.setCell _ _ _ _ (by simp[New];omega))|refine ag.trans ?_ (ag.drew _ _))
theorem anX{w:World}{g:Nat}{E:TypeId}{c:Array Value}(h:w.heap[g]?=some (.cells c E (0,0)))(o:Nat):w.frozen? ⟨g,o,none⟩=false:=by simp[World.frozen?,h]
theorem aI.elems{α:Type}{w:World}{base:Nat}{E:TypeId}{size:Nat}{R:(Nat->Prop)->World->α->List Value->Prop}{A:Nat->Prop}{xs:List α}{v:Value}(hR:gz R)(h:aI w base E size R A xs v):∃b off,(0<xs.length->∃cap,v= .slice (some ⟨b,off,none⟩) xs.length cap)/\kM A w size R xs b off:=by
 obtain⟨vals,hl,ho,he⟩:=h;have hsz:∀(i:Nat)(vs:List Value),vals[i]?=some vs->vs.length=size:=fun i vs hv=>by
  have hi:i<xs.length:=by have :=(iO.1 hv).1;omega
  exact(he i _ vs (aS hi) hv).1
 rcases ho.2 with⟨h0,a,rfl⟩|⟨g,cap,cur,rfl,hc,hb,hg,hnc,hcm,hcs,htake⟩;·have :xs=[]:=Cn h0;subst this;exact⟨0,0,fun h=>by simp at h,fun i x hx=>by simp at hx⟩
 ·refine⟨g,0,fun _=>⟨cap,rfl⟩,fun i x hx=>?_⟩;have hi:i<vals.length:=by have :=(iO.1 hx).1;omega
  have hv:=aS hi;obtain⟨h1,h2⟩:=he i x _ hx hv;refine⟨vals[i],h1,hR.2.1 _ _ w x _ h2 (fun b _ hb=>hb.1),fun j u hj=>?_⟩;have hjl:j<size:=by have :=(iO.1 hj).1;omega
  rw[kL];exact ho.cells rfl hc _ u (by rw[Hm vals hsz i j _ hv hjl];exact hj)
def adT(_:Nat->Prop)(_:World)(n:Int)(vs:List Value):Prop:=vs=[.int .i64 n]/\au n
theorem adU:gz adT:=⟨fun _ _ _ _ _ h _=>h,fun _ _ _ _ _ h _=>h,fun _ _ _ _ h u hu=>by obtain⟨rfl,_⟩:=h;simp at hu;subst hu;rfl⟩
theorem anY:mH Tryz.prog 57 3 1 8:= .mk' (z:= .int .i64 0) Tryz.underlying57 (by kernel_rfl) rfl (by omega) (by omega)
def O5(base bs:Nat)(st:List Int)(M:Nat->Prop)(w:World):Prop:=∃v,w.heap[bs]?=some (.cells #[v] 57 (0,0))/\aI w base 3 1 adT (fun _=>True) st v/\base<=w.heap.size/\bs<base/\(∀b,M b↔(b=bs\/ownB v=some b))
theorem adV(base bs:Nat):Yd (O5 base bs):=by
 refine⟨fun st M w h b hb=>?_,fun st M w w' h hk=>?_⟩
 ·obtain⟨v,h1,h2,h3,h4,h5⟩:=h;rcases(h5 b).1 hb with rfl|h6;·exact aD h1
  ·exact(h2.lt b h6).2
 ·obtain⟨v,h1,h2,h3,h4,h5⟩:=h;exact⟨v,dE h1 hk ((h5 _).2 (.inl rfl)),by obtain⟨vals,k1,k2,k3⟩:=h2;exact⟨vals,k1,k2.keeps hk (fun b hb=>(h5 b).2 (.inr hb)),k3⟩,dM h3 hk.size,h4,h5⟩
theorem anZ{st:List Int}{n:Int}{k:Nat}(hk:k<st.length)(h:st[k]=n)(hb:∀i(hi:i<k),st[i]'(by omega)≠n):n∈st/\st.idxOf n=k:=by
 have hm:n∈st:=h▸bZ hk;refine⟨hm,?_⟩;have h1:=arL hm;have h2:st[st.idxOf n]=n:=List.getElem_idxOf h1;rcases Nat.lt_trichotomy (st.idxOf n) k with h3|h3|h3;·exact absurd h2 (hb _ h3)
 ·exact h3
 ·have h4:=List.not_of_lt_findIdx (p:=(· ==n)) (xs:=st) (i:=k) (by simpa[List.idxOf]using h3);simp[h]at h4
theorem an0(base bs:Nat)(st:List Int)(M:Nat->Prop)(w:World)(n:Int)(hi:O5 base bs st M w)(hsz:st.length<4194304)(hn:au n):Calls Tryz.prog 104 #[.pointer (some ⟨bs,0,none⟩),.int .i64 n] w (Ye (O5 base bs) M w (aJ st n)):=by
 have HI:=zh hi;obtain⟨v,hblk,hown,hbase,hbs,hM⟩:=hi;obtain⟨va,vc,rfl,yQ⟩:=hown.val;have HO:=zh hown;have HM:=zh hM;have hc0:w.cell? ⟨bs,0,none⟩=some (.slice va st.length vc):=by rw[dw hblk];rfl
 have hf0:w.frozen? ⟨bs,0,none⟩=false:=by simp[World.frozen?,hblk]
 have HB:=zh hblk;have HE:=zh (show ∃b off,(0<st.length->va=some ⟨b,off,none⟩)/\∀i(hi:i<st.length),w.cell? ⟨b,off+i,none⟩=some (.int .i64 st[i])by obtain⟨b,off,h1,h2⟩:=hown.elems adU;refine⟨b,off,fun h0=>by have :=h1 h0;simpa using this,fun i hi=>?_⟩;obtain⟨vs, -,⟨rfl, -⟩,h3⟩:=h2 i _ (aS hi);have :=h3 0 _ rfl;simpa using this);clear hown hM hblk;obtain⟨b,off,hva,hel⟩:=HE.o;have Ub:=zh hva;have sD:=zh hel;clear hva hel HE;go_enter Tryz.func104,Tryz.ntmps104;go_wp2_with fail;go_loopw[11](fun i wr=>∃j:Nat,j<=st.length/\i= .int .i64 j/\w=wr/\∀i(hi:i<j)(hj:j<=st.length),st[i]'(by omega)≠n)(fun i _=>st.length - (intOf i).toNat);case atStart=>exact⟨0,dD _,rfl,rfl,fun i hi=>by omega⟩
 case round=>
  obtain⟨j,hj,rfl,rfl,hpre⟩:=hrel;have HP:=zh hpre;clear hpre;by_cases hlt:j<st.length
  ·obtain rfl:=Ub.o (by omega);have hcell:=sD.o j hlt;by_cases he:st[j]=n
   ·have he':(st[j]==n)=true:=by simpa using he
    have Ac:=zh he;clear he;go_wp2_with fail;go_ret;obtain⟨h1,h2⟩:=anZ hlt Ac.o (fun i hi=>HP.o i hi hj);refine⟨by simp[aJ,h1,h2],by simp only[aJ,h1,if_true,h2];exact Y4 (by omega),M,Ch.refl M _,fun b hb=> .inl hb,by simpa[aJ,h1]using HI.o⟩
   ·have he':(st[j]==n)=false:=by simpa using he
    have Ac:=zh he;clear he;go_wp2_with fail;go_roundw;case rel=>
     refine⟨j+1,by omega,by go_num,(by first|rfl|trivial),fun i hi hj'=>?_⟩;by_cases hij:i=j;·subst hij;exact Ac.o
     ·exact HP.o i (by omega) hj
    case measure=>simp[intOf];omega
  ·have :j=st.length:=by omega
   subst this;have adW:n∉st:=fun h=>by obtain⟨i,hi,he⟩:=tX.1 h;exact HP.o i hi (zL _) he
   have an1:=zh adW;have HL:=zh (show st.length<4194304/\base<=w.heap.size from⟨hsz,hbase⟩);have hlt2:=HO.o.lt;have an2:ownB (.slice va st.length vc)≠some bs:=fun e=>by have :=(hlt2 _ e).1;omega
   clear adW;go_wp2_with(at_builtin;go_must(refine iH rfl (.tmp 24) (.tmp 26) 57 rfl base 3 1 8 anY adU (.slice va st.length vc) st rfl HO.o n [.int .i64 n] rfl rfl ⟨rfl,hn⟩ HL.o ?_);go_must(intro v2 w2 hown2 az;obtain⟨bN,bO,hv2,N7⟩:=hown2.val;rw[show(st++[n]).length=st.length+1 by simp]at hv2;subst hv2;have hB2:=dE HB.o ((ag.alloc (fun b=>ownB (.slice va st.length vc)≠some b) w (.cells #[.int .i64 n] 3)).trans (az.keeps (fun _ h=>h))) an2;have hcs:=dz;have hc2:w2.cell? ⟨bs,0,none⟩=some (.slice va st.length vc):=(dw hB2 0).trans rfl;have hf2:=anX hB2 0;have HB2:=zh hB2;have bE:=zh hown2;have HG:=zh az;clear hB2 hown2 az));go_ret;have hs1:(aJ st n)=(((st.length:Nat):Int),st++[n]):=by simp[aJ,an1.o]
   rw[hs1];have hG:=HG.o;have hz2:=hG.size;simp only[bF]at hz2;have hlt3:=bE.o.lt;have an3:ownB (.slice bN (st.length+1) bO)≠some bs:=fun e=>by have :=(hlt3 _ e).1;omega
   refine⟨rfl,Y4 (by omega),fun b=>b=bs\/ownB (.slice bN (st.length+1) bO)=some b,?_,fun b hb=>?_,?_⟩;·exact(hG.ch ((Ch.refl M w).alloc _) (fun b hb=> .inl ((HM.o b).2 (.inr hb)))).setCell (.inl ((HM.o bs).2 (.inl rfl))) _
   ·rcases hb with rfl|hb;·exact .inl ((HM.o _).2 (.inl rfl))
    ·rcases hG.block with h1|h1;·exact .inl ((HM.o b).2 (.inr (h1.symm.trans hb)))
     ·have :=h1 b hb;simp only[bF]at this;exact .inr (by omega)
   ·refine⟨_,bI HB2.o 0 _,?_,by simp;omega,hbs,fun b=>Hl⟩;obtain⟨vals,k1,k2,k3⟩:=bE.o;exact⟨vals,k1,k2.keeps (ag.setCell (fun b=>b≠bs) w2 ⟨bs,0,none⟩ _ (by simp)) (fun k hk e=>an3 (e▸hk)),k3⟩
def uV(pb bs bw:Nat)(st:List Int)(M:Nat->Prop)(w:World):Prop:=∃M0,O5 pb bs st M0 w/\w.cell? ⟨bw,0,none⟩=some (.func (.func 103) #[] #[.pointer (some ⟨bs,0,none⟩),.pointer (some ⟨bw,0,none⟩)])/\(∀b,M b↔(M0 b\/b=bw))/\¬M0 bw
theorem uV.cw{pb bs bw:Nat}{st:List Int}{M:Nat->Prop}{w:World}(h:uV pb bs bw st M w):w.cell? ⟨bw,0,none⟩=some (.func (.func 103) #[] #[.pointer (some ⟨bs,0,none⟩),.pointer (some ⟨bw,0,none⟩)]):=by obtain⟨_,_,h,_⟩:=h;exact h
theorem uV.mw{pb bs bw:Nat}{st:List Int}{M:Nat->Prop}{w:World}(h:uV pb bs bw st M w):M bw:=by obtain⟨_,_,_,h,_⟩:=h;exact(h bw).2 (.inr rfl)
theorem Kz(pb bs bw:Nat):Yd (uV pb bs bw):=by
 refine⟨fun st M w h b hb=>?_,fun st M w w' h hk=>?_⟩
 ·obtain⟨M0,h1,h2,h3,h4⟩:=h;rcases(h3 b).1 hb with h5|rfl;·exact(adV pb bs).lt _ _ _ h1 b h5
  ·exact mX w _ h2
 ·obtain⟨M0,h1,h2,h3,h4⟩:=h;exact⟨M0,(adV pb bs).keeps _ _ _ _ h1 (hk.mono fun b _ hb=>(h3 b).2 (.inl hb)),hk.cell ((h3 bw).2 (.inr rfl)) h2,h3,h4⟩
theorem an4(pb bs bw:Nat)(st:List Int)(M:Nat->Prop)(w:World)(n:Int)(hi:uV pb bs bw st M w)(hsz:st.length<4194304)(hn:au n):Calls Tryz.prog 104 #[.pointer (some ⟨bs,0,none⟩),.int .i64 n] w (Ye (uV pb bs bw) M w (aJ st n)):=by
 obtain⟨M0,h1,h2,h3,h4⟩:=hi;refine(an0 pb bs st M0 w n h1 hsz hn).mono ?_;rintro e w'⟨rfl,h5,M1,h6,h7,h8⟩;have hbw:bw<w.heap.size:=mX w ⟨bw,0,none⟩ h2;refine⟨rfl,h5,fun b=>M1 b\/b=bw,h6.mono (fun b _ hb=>(h3 b).2 (.inl hb)),fun b hb=>?_,⟨M1,h8,?_,fun b=>Hl,fun hb=>?_⟩⟩
 ·rcases hb with hb|rfl
  ·rcases h7 b hb with h9|h9;·exact .inl ((h3 b).2 (.inl h9))
   ·exact .inr h9
  ·exact .inl ((h3 _).2 (.inr rfl))
 ·rw[<-h2];exact World.cell?_of_block (h6.block _ hbw h4)
 ·rcases h7 bw hb with h9|h9;·exact h4 h9
  ·omega
namespace Tm
theorem an5(st:List Int)(n:Int):st.length<=(aJ st n).2.length:=by unfold aJ;split<;>simp
theorem an6(st:List Int)(k n:Int):st.length<=(num aJ st k n).2.length:=by
 unfold num;split;·exact an5 st n
 ·exact zL _
theorem adX:∀(t:Tm)(st:List Int),st.length<=(bB aJ st t).2.length:=by
 intro t;induction t using induct with
  |h k n s l ih=>
   intro st;have hL:∀(r:List Tm),(∀t∈r,t∈l)->∀st:List Int,st.length<=(aV aJ st r).2.length:=by intro r;induction r with|nil=>intro _ st;simp[aV]|cons x r ihr=>intro hm st;simp only[aV];exact dM (ih x (hm x (mY ..)) st) (ihr (fun t ht=>hm t (nU _ ht)) _)
   simp only[bB];exact dM (an6 st k n) (hL l (fun _ h=>h) _)
theorem adY:∀(l:List Tm)(st:List Int),st.length<=(aV aJ st l).2.length|[],st=>by simp[aV]|x::r,st=>by simp only[aV];exact dM (adX x st) (adY r _)
theorem O6:∀(l:List Tm)(st:List Int)(j:Nat)(hj:j<l.length),(bB aJ (aV aJ st (l.take j)).2 l[j]).2.length<=(aV aJ st l).2.length|x::r,st,0,_=>by simp only[ng,aV,yx];exact adY r _|x::r,st,j+1,hj=>by simp only[yA,aV,G7];exact O6 r _ j (by simpa using hj)
end Tm
def VB(pb bs bw:Nat)(t:Tm):Prop:=∀(st:List Int)(M A:Nat->Prop)(w:World)(vs:List Value),uV pb bs bw st M w->(t.bB aJ st).2.length<=4194303->Tm.rep A w t vs->(∀b,A b->b<w.heap.size/\¬M b)->Calls Tryz.prog 103 #[.agg vs.toArray,.pointer (some ⟨bs,0,none⟩),.pointer (some ⟨bw,0,none⟩)] w (agZ (uV pb bs bw) M w (t.bB aJ st))
theorem an7(pb bs bw:Nat)(k n:Int)(s:ByteArray)(l:List Tm)(ih:∀t∈l,VB pb bs bw t):VB pb bs bw (.mk k n s l):=by
 intro st M A w vs hst hnd hv hA;rw[Tm.gT]at hv;obtain⟨hk,hn,hs,v,rfl,hl⟩:=hv;obtain⟨a,cap,b,off,rfl,hlc,hcm,hlb,ha,he⟩:=hl.at;have HE:=zh he;have HA:=zh ha;have IH:=zh ih;have HI:=zh (Kz pb bs bw);have Bz:=zh Y3;have HST:=zh hst;have O7:=zh hA;have iZ:=zh hnd;have Ad:=zh ((Kz pb bs bw).lt _ _ _ hst);clear he ha hl ih hst hA hnd;obtain⟨m,st1,hm⟩:∃m st1,(m,st1)=Tm.num aJ st k n:=⟨_,_,rfl⟩;have HM:=zh hm;clear hm;by_cases e:k=0;all_goals
  try have e':(k==0)=false:=by simpa using e
  try have e':(k==0)=true:=by simpa using e
  have xu:=zh e;clear e;go_enter Tryz.func103,Tryz.ntmps103;go_wp2_with fail
 ·have TU:=HI.o.keeps _ _ _ (((w.alloc (.cells #[.int .i64 k,.int .i64 n,.string s,.slice a l.length cap] 34)).alloc (.cells #[.int .i64 0,.int .i64 0,.string .empty,.slice none 0 0] 34)).alloc (.cells #[.int .i64 k,.int .i64 n,.string s,.slice a l.length cap] 34)) HST.o (((ag.alloc _ _ _).trans (ag.alloc _ _ _)).trans (ag.alloc _ _ _));have hcl:=an4 pb bs bw st M _ n TU (by have h1:=iZ.o;have h2:=Tm.adX (.mk k n s l) st;omega) hn;rw[show aJ st n=(m,st1)by rw[HM.o,Tm.num,ah xu.o]]at hcl;refine hcl.mono ?_;rintro e w1⟨rfl,adZ,M1,hch,hM1,ad1⟩;have hq1:=Qs w (.cells #[.int .i64 k,.int .i64 n,.string s,.slice a l.length cap] 34) (.cells #[.int .i64 0,.int .i64 0,.string .empty,.slice none 0 0] 34) (.cells #[.int .i64 k,.int .i64 n,.string s,.slice a l.length cap] 34);have O8:=Ad.o;have hz1:=hch.size;simp only[bF]at hz1;have HB0:=zh ((hch.block _ (by simp<;>omega) (fun h=>by have :=O8 _ h;omega)).trans hq1.1);have HB2:=zh ((hch.block _ (by simp<;>omega) (fun h=>by have :=O8 _ h;omega)).trans hq1.2.1);have HB1:=zh ((hch.block _ (by simp<;>omega) (fun h=>by have :=O8 _ h;omega)).trans hq1.2.2);have fQ:Hd (∀b,M1 b->M b\/w.heap.size+3<=b):=fun b hb=>by have :=hM1 b hb;simpa[XO]using this
  have bD:=zh (((((Ch.refl M w).alloc _).alloc _).alloc _).trans hch (fun b hb=> .inl hb));have qO:=zh ad1;have VC:=zh (show au m from adZ);obtain⟨x0,x1,x2,x3,xf⟩:=aW HB1.o;obtain⟨z0,z1,z2,z3,zf⟩:=aW HB0.o;have hcs:=dz;have HS4:Hd (st1.length<=st.length+1):=by have h5:=congrArg Prod.snd HM.o;simp only[Tm.num,ah xu.o]at h5;rw[h5];exact Bz.o st n
  clear TU hq1 O8 hch hM1 ad1 adZ hcl HST;go_wp2_with fail;go_loopw[20](fun i wr=>∃(j:Nat)(v:Value)(sj:List Int)(Mj:Nat->Prop),j<=l.length/\i= .int .i64 j/\w.heap.size+3<=wr.heap.size/\Ch M w wr/\(∀b,Mj b->M b\/w.heap.size+3<=b)/\uV pb bs bw sj Mj wr/\wr.heap[w.heap.size+1]?=some (.cells #[.int .i64 0,.int .i64 0,.string .empty,.slice none 0 0] 34 (0,0))/\wr.heap[w.heap.size+1+1]?=some (.cells #[.int .i64 k,.int .i64 m,.string s,v] 34 (0,0))/\sj=(Tm.aV aJ st1 (l.take j)).2/\(∀b,ownB v=some b->¬Mj b)/\aI wr (w.heap.size+3) 34 4 Tm.rep (fun b=>w.heap.size+3<=b/\¬Mj b) (Tm.aV aJ st1 (l.take j)).1 v)(fun i _=>l.length - (intOf i).toNat);case atStart=>
   refine⟨0,.slice none 0 0,st1,M1,dD _,rfl,by simp;omega,(bD.o.setCell (by simp<;>omega) _).setCell (by simp<;>omega) _,fQ.o,HI.o.keeps _ _ _ _ qO.o ((ag.setCell _ _ _ _ ?_).trans (ag.setCell _ _ _ _ ?_)),?_,?_,by simp[Tm.aV],by simp[ownB],by simpa[Tm.aV]using aI.nil ..⟩;·exact fun(h:M1 (w.heap.size+1+1))=>(fQ.o _ h).elim (fun h1=>by have :=Ad.o _ h1;omega) (fun h1=>by omega)
   ·exact fun(h:M1 (w.heap.size+1+1))=>(fQ.o _ h).elim (fun h1=>by have :=Ad.o _ h1;omega) (fun h1=>by omega)
   ·exact dE (A:=fun b=>b≠w.heap.size+1+1) HB2.o ((ag.setCell _ _ _ _ (by simp)).trans (ag.setCell _ _ _ _ (by simp))) (by omega)
   ·exact bI (bI HB1.o 1 _) 3 _
  case round=>
   obtain⟨j,v,sj,Mj,hj,rfl,hz,hch,hMj,hst,hB2,hB1,hsj,bX,hown⟩:=hrel;have hvl:(Tm.aV aJ st1 (l.take j)).1.length=j:=by rw[Tm.yH];simp;omega
   obtain⟨va,vc,hv,yQ⟩:=hown.val;rw[hvl]at hv;subst hv;have y5:=zh hch;have KA:=zh hB1;have KC:=zh hB2;have nS:=zh hMj;have wW:=zh hst;have tC:=zh hsj;have gV:=zh bX;have HO:=zh hown;have Ed:=zh hvl;obtain⟨g0,g1,g2,g3,gf⟩:=aW KA.o;clear hch hMj hst hB2 hB1 hsj bX hown hvl;by_cases hlt:j<l.length
   ·obtain⟨rfl,cO⟩:=HA.o (by omega);obtain⟨sa,sc,c0,c1,c2,c3,hr⟩:=pG HE.o cO (y5.o.keeps fun b _ h=>(O7.o b h).2) hlt;have HR:=zh hr;have lb:b<wr.heap.size:=mX wr _ c0;clear hr;try clear HB0
    try clear HB1 HB2 bD qO
    try clear x0 x1 x2 x3 xf z0 z1 z2 z3 zf hcs
    go_wp2_with fail;generalize hW:wr.alloc (.cells #[.int .i64 l[j].kind,.int .i64 l[j].n,.string l[j].s,.slice sa l[j].args.length sc] 34)=W0;have hW1:W0.drew.cell? ⟨w.heap.size+1+1,3,none⟩=some (.slice va j vc):=by subst hW;exact(ag.alloc (fun _=>True) _ _).cell trivial g3
    obtain⟨hx0,hx1,hx2,hx3, -⟩:=aW (show W0.drew.heap[wr.heap.size]?=_ by subst hW;exact bV _ _);have Ae:W0.drew.cell? ⟨bw,0,none⟩=some (.func (.func 103) #[] #[.pointer (some ⟨bs,0,none⟩),.pointer (some ⟨bw,0,none⟩)]):=by subst hW;exact(ag.alloc (fun _=>True) _ _).cell trivial wW.o.cw
    refine iY (F:=fun k w'=>(k=1\/k=2\/k=3)->w'.cell? ⟨w.heap.size+1+1,3,none⟩=some (.slice va j vc)/\w'.cell? ⟨wr.heap.size,0,none⟩=some (.int .i64 l[j].kind)/\w'.cell? ⟨wr.heap.size,1,none⟩=some (.int .i64 l[j].n)/\w'.cell? ⟨wr.heap.size,2,none⟩=some (.string l[j].s)/\w'.cell? ⟨wr.heap.size,3,none⟩=some (.slice sa l[j].args.length sc)/\w'.cell? ⟨bw,0,none⟩=some (.func (.func 103) #[] #[.pointer (some ⟨bs,0,none⟩),.pointer (some ⟨bw,0,none⟩)])) (by kernel_rfl) ?_;refine aC (i:=0) (v:=?_) rfl (Or.inl ⟨by rfl,?_⟩) (fun _=>⟨hW1,hx0,hx1,hx2,hx3,Ae⟩) ?_;rotate_left;·(intro w' hw;clear hw;go_simp<;>with_reducible rfl)
    try simp only[zP]
    refine aC (i:=1) (v:=?_) rfl (Or.inl ⟨by rfl,?_⟩) (fun _=>⟨hW1,hx0,hx1,hx2,hx3,Ae⟩) ?_;rotate_left;·(intro w' hw;obtain⟨q0,q1,q2,q3,q4,q5⟩:=hw (by omega);go_simp<;>with_reducible rfl)
    try simp only[zP]
    refine aC (i:=2) (v:=?_) rfl (Or.inl ⟨by rfl,?_⟩) (fun _=>⟨hW1,hx0,hx1,hx2,hx3,Ae⟩) ?_;rotate_left;·(intro w' hw;obtain⟨q0,q1,q2,q3,q4,q5⟩:=hw (by omega);go_simp<;>with_reducible rfl)
    try simp only[zP]
    refine aC (i:=3) (v:=?_) rfl (Or.inl ⟨by rfl,?_⟩) (fun _=>⟨hW1,hx0,hx1,hx2,hx3,Ae⟩) ?_;rotate_left;·(intro w' hw;obtain⟨q0,q1,q2,q3,q4,q5⟩:=hw (by omega);go_simp<;>with_reducible rfl)
    try simp only[zP]
    refine aM (i:=4) (by kernel_rfl) (aF rfl (by rfl) ?_);go_simp;have Af:ag (fun _=>True) wr W0.drew:=by subst hW;exact(ag.alloc _ _ _).trans (ag.drew _ _)
    have hsW:W0.heap.size=wr.heap.size+1:=by subst hW;simp
    have hrd:Tm.rep A W0.drew l[j] _:=Tm.aA.1 _ _ _ _ _ HR.o (Af.mono fun _ _ _=>trivial);have hnd:(Tm.bB aJ sj l[j]).2.length<=4194303:=by have h1:=Tm.O6 l st1 j hlt;have h3:=iZ.o;simp only[Tm.bB]at h3;rw[<-HM.o]at h3;dsimp only at h3;rw[tC.o];omega
    have BH:∀b,A b->b<W0.drew.heap.size/\¬Mj b:=fun b hb=>by
     have h1:=O7.o b hb;refine⟨by simp only[ig];omega,fun h2=>?_⟩;rcases nS.o b h2 with h3|h3;·exact h1.2 h3
     ·omega
    refine(IH.out _ (bZ hlt) sj Mj A _ _ (HI.o.keeps _ _ _ _ wW.o (Af.mono fun _ _ _=>trivial)) hnd hrd BH).mono ?_;rintro e w1⟨us,M2,rfl,mr,hM2,eU,hr⟩;obtain⟨sa',rM,rfl, -⟩:=Tm.nk hr;have hsz:=mr.size;simp only[ig]at hsz hM2 hr;have hlt2:=HO.o.lt;have BR:=HI.o.lt _ _ _ eU;have BS:∀b,M2 b->M b\/w.heap.size+3<=b:=fun b hb=>by
     rcases hM2 b hb with h1|h1;·exact nS.o b h1
     ·exact .inr (by omega)
    have hn2:∀b,b<W0.heap.size->¬Mj b->¬M2 b:=fun b hb hn h=>by
     rcases hM2 b h with h1|h1;·exact hn h1
     ·omega
    have BU:aI W0.drew _ _ _ _ _ _ _:=HO.o.keeps Tm.aA Af (fun _ _=>trivial) (fun _ _=>trivial);have KD:aI w1 _ _ _ _ (fun b=>w.heap.size+3<=b/\¬M2 b) _ _:=((BU.mono (A':=fun b=>w.heap.size+3<=b/\¬M2 b/\¬Mj b) Tm.aA (fun b hb hb'=>⟨hb'.1,hn2 b hb hb'.2,hb'.2⟩)).keeps (B:=fun b=>¬Mj b) Tm.aA (mr.keeps fun _ _ h=>h) (fun _ h=>h.2.2) gV.o).mono Tm.aA (fun b _ hb=>⟨hb.1,hb.2.1⟩);have ik:=zh KD;have BV:Hd (∀b,ownB (.slice va j vc)=some b->¬M2 b):=fun b hb=>hn2 b (by have :=(hlt2 b hb).2;omega) (gV.o b hb);have HN:=zh (show Tm.rep (fun b=>(w.heap.size+3<=b/\¬M2 b)/\ownB (.slice va j vc)≠some b) w1 _ _ from Tm.aA.2.1 _ _ _ _ _ hr fun b _ hb=>⟨⟨by omega,hb.2⟩,fun e=>by have :=(hlt2 b e).2;omega⟩);have HL:=zh (show(Tm.aV aJ st1 (l.take j)).1.length<4194304/\w.heap.size+3<=w1.heap.size by rw[Ed.o];omega);have hnb:∀b,b<w.heap.size+3->w.heap.size<=b->¬Mj b:=fun b h1 h2 h3=>by
     rcases nS.o b h3 with h4|h4;·have :=Ad.o b h4;omega
     ·omega
    have xE:Hd (Ch M w w1):=zh (((show Ch M w W0.drew by subst hW;exact(y5.o.alloc _).drew)).trans mr (fun b hb=>by rcases nS.o b hb with h|h;exact .inl h;exact .inr (by omega)));have hkj:=mr.keeps (A:=fun b=>¬Mj b) (fun _ _ h=>h);have wX:¬Mj wr.heap.size:=fun h=>by have :=HI.o.lt _ _ _ wW.o _ h;omega
    have HQ:=zh (show w1.cell? ⟨w.heap.size+1+1,3,none⟩=some (.slice va j vc)/\w1.cell? ⟨wr.heap.size,0,none⟩=some (.int .i64 l[j].kind)/\w1.cell? ⟨wr.heap.size,1,none⟩=some (.int .i64 l[j].n)/\w1.cell? ⟨wr.heap.size,2,none⟩=some (.string l[j].s)/\w1.cell? ⟨wr.heap.size,3,none⟩=some (.slice sa l[j].args.length sc)/\w1.cell? ⟨bw,0,none⟩=some (.func (.func 103) #[] #[.pointer (some ⟨bs,0,none⟩),.pointer (some ⟨bw,0,none⟩)])from⟨hkj.cell (hnb _ (by omega) (by omega)) hW1,hkj.cell wX hx0,hkj.cell wX hx1,hkj.cell wX hx2,hkj.cell wX hx3,eU.cw⟩);have VD:=zh (show w1.heap[w.heap.size+1+1]?=_ from dE (w:=W0.drew) (by subst hW;exact aX KA.o _) hkj (hnb _ (by omega) (by omega)));have wM:=zh (show w1.heap[w.heap.size+1]?=_ from dE (w:=W0.drew) (by subst hW;exact aX KC.o _) hkj (hnb _ (by omega) (by omega)));have KE:=zh eU;have KF:=zh BR;have tF:=zh BS;clear hrd hr mr BU KD eU BR BS hn2 hnb hkj wX hM2 BH hnd Af;refine⟨fun _ _ _ _=>HQ.o,?_⟩;refine aM (i:=5) (by kernel_rfl) (aF rfl (by rfl) ?_);go_simp;refine⟨fun _ _ _ _=>?_,?_⟩;·obtain⟨q0,q1,q2,q3,q4,q5⟩:=HQ.o;have ka:=ag.alloc (fun _=>True) w1 (.cells #[.int .i64 (Tm.bB aJ sj l[j]).1.kind,.int .i64 (Tm.bB aJ sj l[j]).1.n,.string (Tm.bB aJ sj l[j]).1.s,.slice sa' (Tm.bB aJ sj l[j]).1.args.length rM] 34);exact⟨ka.cell trivial q0,ka.cell trivial q1,ka.cell trivial q2,ka.cell trivial q3,ka.cell trivial q4,ka.cell trivial q5⟩
    refine aM (i:=6) (by kernel_rfl) (aF rfl (by rfl) ?_);refine rH (.tmp 25) (.tmp 29) 23 rfl (w.heap.size+3) 34 4 56 AL Tm.aA _ _ rfl ik.o (Tm.bB aJ sj l[j]).1 [_,_,_,_] rfl rfl HN.o HL.o ?_;intro v2 w2 hown2 az;have hk2:=az.keeps (A:=fun b=>ownB (.slice va j vc)≠some b) (fun _ h=>h);have hka:=(ag.alloc (fun b=>ownB (.slice va j vc)≠some b) w1 (.cells #[.int .i64 (Tm.bB aJ sj l[j]).1.kind,.int .i64 (Tm.bB aJ sj l[j]).1.n,.string (Tm.bB aJ sj l[j]).1.s,.slice sa' (Tm.bB aJ sj l[j]).1.args.length rM] 34)).trans hk2;have n1:ownB (.slice va j vc)≠some (w.heap.size+1+1):=fun e=>by have :=(hlt2 _ e).1;omega
    have n2:ownB (.slice va j vc)≠some wr.heap.size:=fun e=>by have :=(hlt2 _ e).2;omega
    have n3:ownB (.slice va j vc)≠some (w.heap.size+1):=fun e=>by have :=(hlt2 _ e).1;omega
    have n4:ownB (.slice va j vc)≠some bw:=fun e=>gV.o bw e wW.o.mw;have BX:=zh (dE VD.o hka n1);have VE:=zh (dE wM.o hka n3);have vS:=zh (az.ch (xE.o.alloc (.cells #[.int .i64 (Tm.bB aJ sj l[j]).1.kind,.int .i64 (Tm.bB aJ sj l[j]).1.n,.string (Tm.bB aJ sj l[j]).1.s,.slice sa' (Tm.bB aJ sj l[j]).1.args.length rM] 34)) (fun b hb=> .inr (by have :=(hlt2 b hb).1;omega)));have VF:=zh (HI.o.keeps _ _ _ _ KE.o (hka.mono fun b _ hb e=>BV.o b e hb));have VH:Hd (∀b,ownB v2=some b->¬M2 b):=fun b hb hm=>by
     have h1:=az.block;rcases h1 with h1|h1;·exact BV.o b (h1.symm.trans hb) hm
     ·have h2:=h1 b hb;have h3:=KF.o b hm;simp only[bF]at h2;omega
    obtain⟨bN,bO,hv2,N7⟩:=hown2.val;rw[show((Tm.aV aJ st1 (l.take j)).1++[(Tm.bB aJ sj l[j]).1]).length=j+1 by rw[bA,Ed.o];rfl]at hv2;subst hv2;have hz2:=az.size;have bE:=zh hown2;simp only[bF]at hz2;obtain⟨y0,y1,y2,y3,yf⟩:=aW BX.o;refine⟨fun _ _ _ _=>?_,?_⟩;·obtain⟨q0,q1,q2,q3,q4,q5⟩:=HQ.o;exact⟨hka.cell n1 q0,hka.cell n2 q1,hka.cell n2 q2,hka.cell n2 q3,hka.cell n2 q4,hka.cell n4 q5⟩
    clear hown2 hka hk2;simp only[zP];refine aC (i:=7) (v:=?_) rfl (Or.inl ⟨by rfl,?_⟩) (fun h=>by omega) ?_;rotate_left;·(intro w' hw;clear hw;go_simp<;>with_reducible rfl)
    try simp only[zP]
    refine aM (i:=8) (by kernel_rfl) (aF rfl (by rfl) ?_);go_simp;refine⟨fun k0 hk0 _ h12=>?_,fU (by kernel_rfl) ?_ _⟩
    ·rcases h12 with rfl|rfl|rfl;·exact absurd (show waits _ 8 1=true by kernel_rfl) (by rw[hk0];decide)
     ·exact absurd (show waits _ 8 2=true by kernel_rfl) (by rw[hk0];decide)
     ·exact absurd (show waits _ 8 3=true by kernel_rfl) (by rw[hk0];decide)
    have HB3:=zh (bI BX.o 3 (.slice bN (j+1) bO));have hz3:(w2.setCell ⟨w.heap.size+1+1,3,none⟩ (.slice bN (j+1) bO)).heap.size=w2.heap.size:=by simp
    have qE:=zh (ag.setCell (fun b=>b≠w.heap.size+1+1) w2 ⟨w.heap.size+1+1,3,none⟩ (.slice bN (j+1) bO) (by simp));clear az;go_wp2_with fail;go_roundw;case rel=>
     have hnw:∀b,M2 b->b≠w.heap.size+1+1:=fun b hb e=>by
      rcases tF.o b hb with h|h;·have :=Ad.o b h;omega
      ·omega
     refine⟨j+1,_,_,M2,by omega,by go_num,by omega,vS.o.setCell (.inr (by simp<;>omega)) _,tF.o,HI.o.keeps _ _ _ _ VF.o (qE.o.mono fun b _ hb=>hnw b hb),dE VE.o qE.o (by omega),HB3.o,?_,VH.o,?_⟩;·rw[fF hlt,Tm.EE,<-tC.o]
     ·rw[fF hlt,Tm.EE,<-tC.o];exact bE.o.keeps Tm.aA qE.o (fun b hb=>by omega) (fun b hb=>by have :=(bE.o.lt b hb).1;omega)
    case measure=>simp[intOf];omega
   ·have :j=l.length:=by omega
    subst this;try clear z0 z1 z2 z3 zf
    obtain⟨z0,z1,z2,z3,zf⟩:=aW KC.o;try clear hcs
    have hcs:=dz;try clear HB0
    try clear HB1 HB2 bD qO
    try clear x0 x1 x2 x3 xf
    go_wp2_with fail;refine cK (v:= .agg #[.int .i64 k,.int .i64 m,.string s,.slice va l.length vc]) (by simp[results,Tryz.results103,go_sem,hcs,z0,z1,z2,z3]) rfl ⟨[_,_,_,_],Mj,rfl,?_,fun b hb=>?_,?_,?_⟩;·refine Ch.setCell (Ch.setCell (Ch.setCell (Ch.setCell y5.o ?_ _) ?_ _) ?_ _) ?_ _<;>simp
    ·rcases nS.o b hb with h|h;·exact .inl h
     ·exact .inr (by omega)
    ·have hs2:=tC.o;rw[jW]at hs2;have h2:(Tm.bB aJ st (.mk k n s l)).2=sj:=by rw[Tm.bB,<-HM.o];exact hs2.symm
     rw[h2];have hnw:∀b,Mj b->b≠w.heap.size+1:=fun b hb e=>by
      rcases nS.o b hb with h|h;·have :=Ad.o b h;omega
      ·omega
     refine HI.o.keeps _ _ _ _ wW.o (ag.trans (ag.trans (ag.trans (ag.setCell _ _ _ _ ?_) (ag.setCell _ _ _ _ ?_)) (ag.setCell _ _ _ _ ?_)) (ag.setCell _ _ _ _ ?_))<;>exact fun h=>hnw _ h rfl
    ·have hO:=HO.o;rw[jW]at hO;have hsl:=(hO.mono (A':=fun b=>w.heap.size+3<=b/\¬Mj b) Tm.aA (fun b _ hb=>hb));have hsl2:aj 4 Tm.rep (fun b=>w.heap.size+3<=b/\¬Mj b) wr (Tm.aV aJ st1 l).1 (.slice va l.length vc):=hO.sl' Tm.aA (by rw[Tm.yH];exact hlb) (fun b hb=>⟨by have :=(HO.o.lt b hb).1;omega,gV.o b hb⟩);rw[Tm.bB,<-HM.o];rw[Tm.gT];refine⟨hk,VC.o,hs,_,rfl,?_⟩;refine aj.mono Tm.aA (by omega) (aj.keeps Tm.aA hsl2 ?_) (fun b _ hb=>⟨by omega,hb.2⟩);refine ag.trans (ag.trans (ag.trans (ag.setCell _ _ _ _ ?_) (ag.setCell _ _ _ _ ?_)) (ag.setCell _ _ _ _ ?_)) (ag.setCell _ _ _ _ ?_)<;>simp
 ·have HB1:=zh (Qs w (.cells #[.int .i64 k,.int .i64 n,.string s,.slice a l.length cap] 34) (.cells #[.int .i64 0,.int .i64 0,.string .empty,.slice none 0 0] 34) (.cells #[.int .i64 k,.int .i64 n,.string s,.slice none 0 0] 34)).2.2;have HB2:=zh (Qs w (.cells #[.int .i64 k,.int .i64 n,.string s,.slice a l.length cap] 34) (.cells #[.int .i64 0,.int .i64 0,.string .empty,.slice none 0 0] 34) (.cells #[.int .i64 k,.int .i64 n,.string s,.slice none 0 0] 34)).2.1;have D7:m=n/\st1=st:=by have :=HM.o;rw[Tm.num,ae xu.o]at this;simpa using this
  obtain⟨rfl,rfl⟩:=D7;have VC:=zh hn;have bD:=zh ((((Ch.refl M w).alloc (.cells #[.int .i64 k,.int .i64 m,.string s,.slice a l.length cap] 34)).alloc (.cells #[.int .i64 0,.int .i64 0,.string .empty,.slice none 0 0] 34)).alloc (.cells #[.int .i64 k,.int .i64 m,.string s,.slice none 0 0] 34));have qO:=zh (HI.o.keeps _ _ _ (((w.alloc (.cells #[.int .i64 k,.int .i64 m,.string s,.slice a l.length cap] 34)).alloc (.cells #[.int .i64 0,.int .i64 0,.string .empty,.slice none 0 0] 34)).alloc (.cells #[.int .i64 k,.int .i64 m,.string s,.slice none 0 0] 34)) HST.o (((ag.alloc _ _ _).trans (ag.alloc _ _ _)).trans (ag.alloc _ _ _)));have HS4:Hd (st1.length<=st1.length+1):=Nat.le_succ _;clear HST;go_loopw[20](fun i wr=>∃(j:Nat)(v:Value)(sj:List Int)(Mj:Nat->Prop),j<=l.length/\i= .int .i64 j/\w.heap.size+3<=wr.heap.size/\Ch M w wr/\(∀b,Mj b->M b\/w.heap.size+3<=b)/\uV pb bs bw sj Mj wr/\wr.heap[w.heap.size+1]?=some (.cells #[.int .i64 0,.int .i64 0,.string .empty,.slice none 0 0] 34 (0,0))/\wr.heap[w.heap.size+1+1]?=some (.cells #[.int .i64 k,.int .i64 m,.string s,v] 34 (0,0))/\sj=(Tm.aV aJ st1 (l.take j)).2/\(∀b,ownB v=some b->¬Mj b)/\aI wr (w.heap.size+3) 34 4 Tm.rep (fun b=>w.heap.size+3<=b/\¬Mj b) (Tm.aV aJ st1 (l.take j)).1 v)(fun i _=>l.length - (intOf i).toNat);case atStart=>exact⟨0,.slice none 0 0,st1,M,dD _,rfl,by simp,bD.o,fun b hb=> .inl hb,qO.o,HB2.o,HB1.o,by simp[Tm.aV],by simp[ownB],by simpa[Tm.aV]using aI.nil ..⟩
  case round=>
   obtain⟨j,v,sj,Mj,hj,rfl,hz,hch,hMj,hst,hB2,hB1,hsj,bX,hown⟩:=hrel;have hvl:(Tm.aV aJ st1 (l.take j)).1.length=j:=by rw[Tm.yH];simp;omega
   obtain⟨va,vc,hv,yQ⟩:=hown.val;rw[hvl]at hv;subst hv;have y5:=zh hch;have KA:=zh hB1;have KC:=zh hB2;have nS:=zh hMj;have wW:=zh hst;have tC:=zh hsj;have gV:=zh bX;have HO:=zh hown;have Ed:=zh hvl;obtain⟨g0,g1,g2,g3,gf⟩:=aW KA.o;clear hch hMj hst hB2 hB1 hsj bX hown hvl;by_cases hlt:j<l.length
   ·obtain⟨rfl,cO⟩:=HA.o (by omega);obtain⟨sa,sc,c0,c1,c2,c3,hr⟩:=pG HE.o cO (y5.o.keeps fun b _ h=>(O7.o b h).2) hlt;have HR:=zh hr;have lb:b<wr.heap.size:=mX wr _ c0;clear hr;try clear HB0
    try clear HB1 HB2 bD qO
    try clear x0 x1 x2 x3 xf z0 z1 z2 z3 zf hcs
    go_wp2_with fail;generalize hW:wr.alloc (.cells #[.int .i64 l[j].kind,.int .i64 l[j].n,.string l[j].s,.slice sa l[j].args.length sc] 34)=W0;have hW1:W0.drew.cell? ⟨w.heap.size+1+1,3,none⟩=some (.slice va j vc):=by subst hW;exact(ag.alloc (fun _=>True) _ _).cell trivial g3
    obtain⟨hx0,hx1,hx2,hx3, -⟩:=aW (show W0.drew.heap[wr.heap.size]?=_ by subst hW;exact bV _ _);have Ae:W0.drew.cell? ⟨bw,0,none⟩=some (.func (.func 103) #[] #[.pointer (some ⟨bs,0,none⟩),.pointer (some ⟨bw,0,none⟩)]):=by subst hW;exact(ag.alloc (fun _=>True) _ _).cell trivial wW.o.cw
    refine iY (F:=fun k w'=>(k=1\/k=2\/k=3)->w'.cell? ⟨w.heap.size+1+1,3,none⟩=some (.slice va j vc)/\w'.cell? ⟨wr.heap.size,0,none⟩=some (.int .i64 l[j].kind)/\w'.cell? ⟨wr.heap.size,1,none⟩=some (.int .i64 l[j].n)/\w'.cell? ⟨wr.heap.size,2,none⟩=some (.string l[j].s)/\w'.cell? ⟨wr.heap.size,3,none⟩=some (.slice sa l[j].args.length sc)/\w'.cell? ⟨bw,0,none⟩=some (.func (.func 103) #[] #[.pointer (some ⟨bs,0,none⟩),.pointer (some ⟨bw,0,none⟩)])) (by kernel_rfl) ?_;refine aC (i:=0) (v:=?_) rfl (Or.inl ⟨by rfl,?_⟩) (fun _=>⟨hW1,hx0,hx1,hx2,hx3,Ae⟩) ?_;rotate_left;·(intro w' hw;clear hw;go_simp<;>with_reducible rfl)
    try simp only[zP]
    refine aC (i:=1) (v:=?_) rfl (Or.inl ⟨by rfl,?_⟩) (fun _=>⟨hW1,hx0,hx1,hx2,hx3,Ae⟩) ?_;rotate_left;·(intro w' hw;obtain⟨q0,q1,q2,q3,q4,q5⟩:=hw (by omega);go_simp<;>with_reducible rfl)
    try simp only[zP]
    refine aC (i:=2) (v:=?_) rfl (Or.inl ⟨by rfl,?_⟩) (fun _=>⟨hW1,hx0,hx1,hx2,hx3,Ae⟩) ?_;rotate_left;·(intro w' hw;obtain⟨q0,q1,q2,q3,q4,q5⟩:=hw (by omega);go_simp<;>with_reducible rfl)
    try simp only[zP]
    refine aC (i:=3) (v:=?_) rfl (Or.inl ⟨by rfl,?_⟩) (fun _=>⟨hW1,hx0,hx1,hx2,hx3,Ae⟩) ?_;rotate_left;·(intro w' hw;obtain⟨q0,q1,q2,q3,q4,q5⟩:=hw (by omega);go_simp<;>with_reducible rfl)
    try simp only[zP]
    refine aM (i:=4) (by kernel_rfl) (aF rfl (by rfl) ?_);go_simp;have Af:ag (fun _=>True) wr W0.drew:=by subst hW;exact(ag.alloc _ _ _).trans (ag.drew _ _)
    have hsW:W0.heap.size=wr.heap.size+1:=by subst hW;simp
    have hrd:Tm.rep A W0.drew l[j] _:=Tm.aA.1 _ _ _ _ _ HR.o (Af.mono fun _ _ _=>trivial);have hnd:(Tm.bB aJ sj l[j]).2.length<=4194303:=by have h1:=Tm.O6 l st1 j hlt;have h3:=iZ.o;simp only[Tm.bB]at h3;rw[<-HM.o]at h3;dsimp only at h3;rw[tC.o];omega
    have BH:∀b,A b->b<W0.drew.heap.size/\¬Mj b:=fun b hb=>by
     have h1:=O7.o b hb;refine⟨by simp only[ig];omega,fun h2=>?_⟩;rcases nS.o b h2 with h3|h3;·exact h1.2 h3
     ·omega
    refine(IH.out _ (bZ hlt) sj Mj A _ _ (HI.o.keeps _ _ _ _ wW.o (Af.mono fun _ _ _=>trivial)) hnd hrd BH).mono ?_;rintro e w1⟨us,M2,rfl,mr,hM2,eU,hr⟩;obtain⟨sa',rM,rfl, -⟩:=Tm.nk hr;have hsz:=mr.size;simp only[ig]at hsz hM2 hr;have hlt2:=HO.o.lt;have BR:=HI.o.lt _ _ _ eU;have BS:∀b,M2 b->M b\/w.heap.size+3<=b:=fun b hb=>by
     rcases hM2 b hb with h1|h1;·exact nS.o b h1
     ·exact .inr (by omega)
    have hn2:∀b,b<W0.heap.size->¬Mj b->¬M2 b:=fun b hb hn h=>by
     rcases hM2 b h with h1|h1;·exact hn h1
     ·omega
    have BU:aI W0.drew _ _ _ _ _ _ _:=HO.o.keeps Tm.aA Af (fun _ _=>trivial) (fun _ _=>trivial);have KD:aI w1 _ _ _ _ (fun b=>w.heap.size+3<=b/\¬M2 b) _ _:=((BU.mono (A':=fun b=>w.heap.size+3<=b/\¬M2 b/\¬Mj b) Tm.aA (fun b hb hb'=>⟨hb'.1,hn2 b hb hb'.2,hb'.2⟩)).keeps (B:=fun b=>¬Mj b) Tm.aA (mr.keeps fun _ _ h=>h) (fun _ h=>h.2.2) gV.o).mono Tm.aA (fun b _ hb=>⟨hb.1,hb.2.1⟩);have ik:=zh KD;have BV:Hd (∀b,ownB (.slice va j vc)=some b->¬M2 b):=fun b hb=>hn2 b (by have :=(hlt2 b hb).2;omega) (gV.o b hb);have HN:=zh (show Tm.rep (fun b=>(w.heap.size+3<=b/\¬M2 b)/\ownB (.slice va j vc)≠some b) w1 _ _ from Tm.aA.2.1 _ _ _ _ _ hr fun b _ hb=>⟨⟨by omega,hb.2⟩,fun e=>by have :=(hlt2 b e).2;omega⟩);have HL:=zh (show(Tm.aV aJ st1 (l.take j)).1.length<4194304/\w.heap.size+3<=w1.heap.size by rw[Ed.o];omega);have hnb:∀b,b<w.heap.size+3->w.heap.size<=b->¬Mj b:=fun b h1 h2 h3=>by
     rcases nS.o b h3 with h4|h4;·have :=Ad.o b h4;omega
     ·omega
    have xE:Hd (Ch M w w1):=zh (((show Ch M w W0.drew by subst hW;exact(y5.o.alloc _).drew)).trans mr (fun b hb=>by rcases nS.o b hb with h|h;exact .inl h;exact .inr (by omega)));have hkj:=mr.keeps (A:=fun b=>¬Mj b) (fun _ _ h=>h);have wX:¬Mj wr.heap.size:=fun h=>by have :=HI.o.lt _ _ _ wW.o _ h;omega
    have HQ:=zh (show w1.cell? ⟨w.heap.size+1+1,3,none⟩=some (.slice va j vc)/\w1.cell? ⟨wr.heap.size,0,none⟩=some (.int .i64 l[j].kind)/\w1.cell? ⟨wr.heap.size,1,none⟩=some (.int .i64 l[j].n)/\w1.cell? ⟨wr.heap.size,2,none⟩=some (.string l[j].s)/\w1.cell? ⟨wr.heap.size,3,none⟩=some (.slice sa l[j].args.length sc)/\w1.cell? ⟨bw,0,none⟩=some (.func (.func 103) #[] #[.pointer (some ⟨bs,0,none⟩),.pointer (some ⟨bw,0,none⟩)])from⟨hkj.cell (hnb _ (by omega) (by omega)) hW1,hkj.cell wX hx0,hkj.cell wX hx1,hkj.cell wX hx2,hkj.cell wX hx3,eU.cw⟩);have VD:=zh (show w1.heap[w.heap.size+1+1]?=_ from dE (w:=W0.drew) (by subst hW;exact aX KA.o _) hkj (hnb _ (by omega) (by omega)));have wM:=zh (show w1.heap[w.heap.size+1]?=_ from dE (w:=W0.drew) (by subst hW;exact aX KC.o _) hkj (hnb _ (by omega) (by omega)));have KE:=zh eU;have KF:=zh BR;have tF:=zh BS;clear hrd hr mr BU KD eU BR BS hn2 hnb hkj wX hM2 BH hnd Af;refine⟨fun _ _ _ _=>HQ.o,?_⟩;refine aM (i:=5) (by kernel_rfl) (aF rfl (by rfl) ?_);go_simp;refine⟨fun _ _ _ _=>?_,?_⟩;·obtain⟨q0,q1,q2,q3,q4,q5⟩:=HQ.o;have ka:=ag.alloc (fun _=>True) w1 (.cells #[.int .i64 (Tm.bB aJ sj l[j]).1.kind,.int .i64 (Tm.bB aJ sj l[j]).1.n,.string (Tm.bB aJ sj l[j]).1.s,.slice sa' (Tm.bB aJ sj l[j]).1.args.length rM] 34);exact⟨ka.cell trivial q0,ka.cell trivial q1,ka.cell trivial q2,ka.cell trivial q3,ka.cell trivial q4,ka.cell trivial q5⟩
    refine aM (i:=6) (by kernel_rfl) (aF rfl (by rfl) ?_);refine rH (.tmp 25) (.tmp 29) 23 rfl (w.heap.size+3) 34 4 56 AL Tm.aA _ _ rfl ik.o (Tm.bB aJ sj l[j]).1 [_,_,_,_] rfl rfl HN.o HL.o ?_;intro v2 w2 hown2 az;have hk2:=az.keeps (A:=fun b=>ownB (.slice va j vc)≠some b) (fun _ h=>h);have hka:=(ag.alloc (fun b=>ownB (.slice va j vc)≠some b) w1 (.cells #[.int .i64 (Tm.bB aJ sj l[j]).1.kind,.int .i64 (Tm.bB aJ sj l[j]).1.n,.string (Tm.bB aJ sj l[j]).1.s,.slice sa' (Tm.bB aJ sj l[j]).1.args.length rM] 34)).trans hk2;have n1:ownB (.slice va j vc)≠some (w.heap.size+1+1):=fun e=>by have :=(hlt2 _ e).1;omega
    have n2:ownB (.slice va j vc)≠some wr.heap.size:=fun e=>by have :=(hlt2 _ e).2;omega
    have n3:ownB (.slice va j vc)≠some (w.heap.size+1):=fun e=>by have :=(hlt2 _ e).1;omega
    have n4:ownB (.slice va j vc)≠some bw:=fun e=>gV.o bw e wW.o.mw;have BX:=zh (dE VD.o hka n1);have VE:=zh (dE wM.o hka n3);have vS:=zh (az.ch (xE.o.alloc (.cells #[.int .i64 (Tm.bB aJ sj l[j]).1.kind,.int .i64 (Tm.bB aJ sj l[j]).1.n,.string (Tm.bB aJ sj l[j]).1.s,.slice sa' (Tm.bB aJ sj l[j]).1.args.length rM] 34)) (fun b hb=> .inr (by have :=(hlt2 b hb).1;omega)));have VF:=zh (HI.o.keeps _ _ _ _ KE.o (hka.mono fun b _ hb e=>BV.o b e hb));have VH:Hd (∀b,ownB v2=some b->¬M2 b):=fun b hb hm=>by
     have h1:=az.block;rcases h1 with h1|h1;·exact BV.o b (h1.symm.trans hb) hm
     ·have h2:=h1 b hb;have h3:=KF.o b hm;simp only[bF]at h2;omega
    obtain⟨bN,bO,hv2,N7⟩:=hown2.val;rw[show((Tm.aV aJ st1 (l.take j)).1++[(Tm.bB aJ sj l[j]).1]).length=j+1 by rw[bA,Ed.o];rfl]at hv2;subst hv2;have hz2:=az.size;have bE:=zh hown2;simp only[bF]at hz2;obtain⟨y0,y1,y2,y3,yf⟩:=aW BX.o;refine⟨fun _ _ _ _=>?_,?_⟩;·obtain⟨q0,q1,q2,q3,q4,q5⟩:=HQ.o;exact⟨hka.cell n1 q0,hka.cell n2 q1,hka.cell n2 q2,hka.cell n2 q3,hka.cell n2 q4,hka.cell n4 q5⟩
    clear hown2 hka hk2;simp only[zP];refine aC (i:=7) (v:=?_) rfl (Or.inl ⟨by rfl,?_⟩) (fun h=>by omega) ?_;rotate_left;·(intro w' hw;clear hw;go_simp<;>with_reducible rfl)
    try simp only[zP]
    refine aM (i:=8) (by kernel_rfl) (aF rfl (by rfl) ?_);go_simp;refine⟨fun k0 hk0 _ h12=>?_,fU (by kernel_rfl) ?_ _⟩
    ·rcases h12 with rfl|rfl|rfl;·exact absurd (show waits _ 8 1=true by kernel_rfl) (by rw[hk0];decide)
     ·exact absurd (show waits _ 8 2=true by kernel_rfl) (by rw[hk0];decide)
     ·exact absurd (show waits _ 8 3=true by kernel_rfl) (by rw[hk0];decide)
    have HB3:=zh (bI BX.o 3 (.slice bN (j+1) bO));have hz3:(w2.setCell ⟨w.heap.size+1+1,3,none⟩ (.slice bN (j+1) bO)).heap.size=w2.heap.size:=by simp
    have qE:=zh (ag.setCell (fun b=>b≠w.heap.size+1+1) w2 ⟨w.heap.size+1+1,3,none⟩ (.slice bN (j+1) bO) (by simp));clear az;go_wp2_with fail;go_roundw;case rel=>
     have hnw:∀b,M2 b->b≠w.heap.size+1+1:=fun b hb e=>by
      rcases tF.o b hb with h|h;·have :=Ad.o b h;omega
      ·omega
     refine⟨j+1,_,_,M2,by omega,by go_num,by omega,vS.o.setCell (.inr (by simp<;>omega)) _,tF.o,HI.o.keeps _ _ _ _ VF.o (qE.o.mono fun b _ hb=>hnw b hb),dE VE.o qE.o (by omega),HB3.o,?_,VH.o,?_⟩;·rw[fF hlt,Tm.EE,<-tC.o]
     ·rw[fF hlt,Tm.EE,<-tC.o];exact bE.o.keeps Tm.aA qE.o (fun b hb=>by omega) (fun b hb=>by have :=(bE.o.lt b hb).1;omega)
    case measure=>simp[intOf];omega
   ·have :j=l.length:=by omega
    subst this;try clear z0 z1 z2 z3 zf
    obtain⟨z0,z1,z2,z3,zf⟩:=aW KC.o;try clear hcs
    have hcs:=dz;try clear HB0
    try clear HB1 HB2 bD qO
    try clear x0 x1 x2 x3 xf
    go_wp2_with fail;refine cK (v:= .agg #[.int .i64 k,.int .i64 m,.string s,.slice va l.length vc]) (by simp[results,Tryz.results103,go_sem,hcs,z0,z1,z2,z3]) rfl ⟨[_,_,_,_],Mj,rfl,?_,fun b hb=>?_,?_,?_⟩;·refine Ch.setCell (Ch.setCell (Ch.setCell (Ch.setCell y5.o ?_ _) ?_ _) ?_ _) ?_ _<;>simp
    ·rcases nS.o b hb with h|h;·exact .inl h
     ·exact .inr (by omega)
    ·have hs2:=tC.o;rw[jW]at hs2;have h2:(Tm.bB aJ st1 (.mk k m s l)).2=sj:=by rw[Tm.bB,<-HM.o];exact hs2.symm
     rw[h2];have hnw:∀b,Mj b->b≠w.heap.size+1:=fun b hb e=>by
      rcases nS.o b hb with h|h;·have :=Ad.o b h;omega
      ·omega
     refine HI.o.keeps _ _ _ _ wW.o (ag.trans (ag.trans (ag.trans (ag.setCell _ _ _ _ ?_) (ag.setCell _ _ _ _ ?_)) (ag.setCell _ _ _ _ ?_)) (ag.setCell _ _ _ _ ?_))<;>exact fun h=>hnw _ h rfl
    ·have hO:=HO.o;rw[jW]at hO;have hsl:=(hO.mono (A':=fun b=>w.heap.size+3<=b/\¬Mj b) Tm.aA (fun b _ hb=>hb));have hsl2:aj 4 Tm.rep (fun b=>w.heap.size+3<=b/\¬Mj b) wr (Tm.aV aJ st1 l).1 (.slice va l.length vc):=hO.sl' Tm.aA (by rw[Tm.yH];exact hlb) (fun b hb=>⟨by have :=(HO.o.lt b hb).1;omega,gV.o b hb⟩);rw[Tm.bB,<-HM.o];rw[Tm.gT];refine⟨hk,VC.o,hs,_,rfl,?_⟩;refine aj.mono Tm.aA (by omega) (aj.keeps Tm.aA hsl2 ?_) (fun b _ hb=>⟨by omega,hb.2⟩);refine ag.trans (ag.trans (ag.trans (ag.setCell _ _ _ _ ?_) (ag.setCell _ _ _ _ ?_)) (ag.setCell _ _ _ _ ?_)) (ag.setCell _ _ _ _ ?_)<;>simp
theorem aoa(pb bs bw:Nat):∀t,VB pb bs bw t:=by intro t;induction t using Tm.induct with|h k n s l ih=>exact an7 pb bs bw k n s l ih
theorem aob(l:List Tm)(hnd:(Tm.aV aJ [] l).2.length<=4194303)(A:Nat->Prop)(w:World)(v:Value)(hv:iP A w l v):Calls Tryz.prog 64 #[v] w (Pure w fun v' w'=>iP (New w) w' (Tm.aV aJ [] l).1 v'):=by
 obtain⟨a,cap,b,off,rfl,hlc,hcm,hlb,ha,he⟩:=hv.at;have HE:=zh he;have HA:=zh ha;have HV:=zh hv;clear hv he ha;go_enter Tryz.func64,Tryz.ntmps64;go_wp2_with fail;go_loopw[5,11](fun v i wr=>∃(j:Nat)(sj:List Int)(Mj:Nat->Prop),j<=l.length/\i= .int .i64 j/\w.heap.size+2<=wr.heap.size/\Below w.heap.size w wr/\(∀b,Mj b->w.heap.size<=b)/\uV (w.heap.size+2) w.heap.size (w.heap.size+1) sj Mj wr/\sj=(Tm.aV aJ [] (l.take j)).2/\(∀b,ownB v=some b->¬Mj b)/\aI wr (w.heap.size+2) 34 4 Tm.rep (fun b=>w.heap.size+2<=b/\¬Mj b) (Tm.aV aJ [] (l.take j)).1 v)(fun _ i _=>l.length - (intOf i).toNat);case atStart=>
  have hq:=mG w (.cells #[.slice none 0 0] 57) (.cells #[.func (.func 103) #[] #[.pointer (some ⟨w.heap.size,0,none⟩),.pointer (some ⟨w.heap.size+1,0,none⟩)]] 39);refine⟨0,[],fun b=>(b=w.heap.size\/ownB (.slice none 0 0)=some b)\/b=w.heap.size+1,dD _,rfl,by simp,gU (gU (zB _ _)),fun b hb=>?_,⟨_,⟨_,hq.1,aI.nil ..,by simp,by omega,fun b=>Hl⟩,(dw hq.2 0).trans rfl,fun b=>Hl,fun h=>?_⟩,by simp[Tm.aV],by simp[ownB],by simpa[Tm.aV]using aI.nil ..⟩
  ·rcases hb with(rfl|hb)|rfl;·omega
   ·simp[ownB]at hb
   ·omega
  ·rcases h with h|h;·omega
   ·simp[ownB]at h
 case round=>
  obtain⟨j,sj,Mj,hj,rfl,hz,hb,hMj,hst,hsj,bX,hown⟩:=hrel;have hvl:(Tm.aV aJ [] (l.take j)).1.length=j:=by rw[Tm.yH];simp;omega
  have HB:=zh hb;have nS:=zh hMj;have HST:=zh hst;have tC:=zh hsj;have gV:=zh bX;have HO:=zh hown;have Ed:=zh hvl;clear hb hMj hst hsj bX hown hvl;by_cases hlt:j<l.length
  ·obtain⟨rfl,cO⟩:=HA.o (by omega);obtain⟨sa,sc,c0,c1,c2,c3,hr⟩:=pG HE.o cO (ag.ob HB.o) hlt;have lb:b<wr.heap.size:=mX wr _ c0;have hr0:=HE.o;obtain⟨vs0,hl0,VI,ad2⟩:=hr0 j _ (aS hlt);obtain⟨sa0,sc0,rfl, -⟩:=Tm.nk VI;obtain⟨-, -, -,d3⟩:=XY (ni.keeps cO ad2 (ag.ob (A:=A) HB.o));have hsame:Value.slice sa l[j].args.length sc=Value.slice sa0 l[j].args.length sc0:=zI (c3.symm.trans d3);simp only[eX,fH]at hsame;obtain⟨rfl,rfl⟩:=hsame;have ad3:=Tm.aA.2.1 _ (fun b=>A b/\b<w.heap.size) _ _ _ VI (fun b hb h=>⟨h,hb⟩);have HR:=zh (Tm.aA.1 _ _ wr _ _ ad3 (ag.ob HB.o));clear hr hr0 hl0 VI ad2 d3 ad3;have hcw:=fun o=>(ag.alloc (fun _=>True) wr o).cell trivial HST.o.cw;go_wp2_with fail;have Si:(Tm.bB aJ sj l[j]).2.length<=4194303:=by have h1:=Tm.O6 l [] j hlt;rw[tC.o];omega
   refine(aoa _ _ _ l[j] sj Mj (fun b=>A b/\b<w.heap.size) _ [_,_,_,_] ((Kz _ _ _).keeps _ _ _ _ HST.o (ag.alloc _ _ _)) Si (Tm.aA.1 _ _ _ _ _ HR.o (ag.alloc _ _ _)) (fun b hb=>⟨by simp;omega,fun h=>by have :=nS.o b h;omega⟩)).mono ?_;rintro e w1⟨us,M2,rfl,hch,hM2,eU,hr⟩;obtain⟨sa',rM,rfl, -⟩:=Tm.nk hr;have hsz:=hch.size;simp only[bF]at hsz hM2 hr;have hlt2:=HO.o.lt;have BR:=(Kz _ _ _).lt _ _ _ eU;have BS:∀b,M2 b->w.heap.size<=b:=fun b hb=>by
    rcases hM2 b hb with h1|h1;·exact nS.o b h1
    ·omega
   have hn2:∀b,b<wr.heap.size+1->¬Mj b->¬M2 b:=fun b hb hn h=>by
    rcases hM2 b h with h1|h1;·exact hn h1
    ·omega
   have BU:=HO.o.alloc Tm.aA (.cells #[.int .i64 l[j].kind,.int .i64 l[j].n,.string l[j].s,.slice sa l[j].args.length sc] 34);have ik:=zh (((BU.mono (A':=fun b=>w.heap.size+2<=b/\¬M2 b/\¬Mj b) Tm.aA (fun b hb hb'=>⟨hb'.1,hn2 b (by simpa using hb) hb'.2,hb'.2⟩)).keeps (B:=fun b=>¬Mj b) Tm.aA (hch.keeps fun _ _ h=>h) (fun _ h=>h.2.2) gV.o).mono (A':=fun b=>w.heap.size+2<=b/\¬M2 b) Tm.aA (fun b _ hb=>⟨hb.1,hb.2.1⟩));have BV:Hd (∀b,ownB u5=some b->¬M2 b):=fun b hb=>hn2 b (by have :=(hlt2 b hb).2;omega) (gV.o b hb);have HN:=zh (show Tm.rep (fun b=>(w.heap.size+2<=b/\¬M2 b)/\ownB u5≠some b) w1 _ _ from Tm.aA.2.1 _ _ _ _ _ hr fun b _ hb=>⟨⟨by omega,hb.2⟩,fun e=>by have :=(hlt2 b e).2;omega⟩);have HL:=zh (show(Tm.aV aJ [] (l.take j)).1.length<4194304/\w.heap.size+2<=w1.heap.size by rw[Ed.o];omega);have HB2:=zh (show Below w.heap.size w w1 from((Ch.of_below (M:=fun _=>False) (HB.o.alloc (by omega) _)).trans hch (fun b hb=> .inr (nS.o b hb))).below (fun _ _ h=>h));have KE:=zh eU;have KF:=zh BR;have tF:=zh BS;clear hr hch BU eU BR BS hn2 hM2;go_wp2_with(at_builtin;refine iH rfl (.tmp 15) (.tmp 19) 23 rfl (w.heap.size+2) 34 4 56 AL Tm.aA u5 _ rfl ik.o (Tm.bB aJ sj l[j]).1 [_,_,_,_] rfl rfl HN.o HL.o ?_;intro v2 w2 hown2 az);go_roundw;case rel=>
    have hk2:=az.keeps (A:=fun b=>ownB u5≠some b) (fun _ h=>h);have hka:=(ag.alloc (fun b=>ownB u5≠some b) w1 (.cells #[.int .i64 (Tm.bB aJ sj l[j]).1.kind,.int .i64 (Tm.bB aJ sj l[j]).1.n,.string (Tm.bB aJ sj l[j]).1.s,.slice sa' (Tm.bB aJ sj l[j]).1.args.length rM] 34)).trans hk2;refine⟨j+1,(Tm.bB aJ sj l[j]).2,M2,by omega,by go_num,by have :=az.size;simp only[bF]at this;omega,az.below (HB2.o.alloc (by omega) _) (by simp;omega) (fun b hb=>by have :=(hlt2 b hb).1;omega),tF.o,(Kz _ _ _).keeps _ _ _ _ KE.o (hka.mono fun b _ hb e=>BV.o b e hb),?_,fun b hb hm=>?_,?_⟩;·rw[fF hlt,Tm.EE,<-tC.o]
    ·rcases az.block with h1|h1;·exact BV.o b (h1.symm.trans hb) hm
     ·have h2:=h1 b hb;have h3:=KF.o b hm;simp only[bF]at h2;omega
    ·rw[fF hlt,Tm.EE,<-tC.o];exact hown2
   case measure=>simp[intOf];omega
  ·have :j=l.length:=by omega
   subst this;go_wp2_with fail;go_ret;have hO:=HO.o;rw[jW]at hO;exact⟨_,rfl,HB.o,(hO.mono Tm.aA (fun b _ hb=>show New w b by unfold New;omega)).sl Tm.aA (by rw[Tm.yH];exact hlb) (fun b hb=>by unfold New;omega)⟩
theorem aof(l:List Tm)(hnd:Tm.aH l<=4194303)(A:Nat->Prop)(w:World)(v:Value)(hv:iP A w l v):Calls Tryz.prog 64 #[v] w (Pure w fun v' w'=>iP (New w) w' (Tm.aV aJ [] l).1 v'):=aob l (by have h1:=Tm.agY (sz:=List.length) Y3 l [];simp only[fC]at h1;omega) A w v hv
