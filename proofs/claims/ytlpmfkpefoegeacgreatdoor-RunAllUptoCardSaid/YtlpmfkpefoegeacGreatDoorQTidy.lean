import Derived.Test.YtlpmfkpefoegeacGreatDoorQRead
namespace Go.Proofs.YtlpmfkpefoegeacGreatDoor
set_option maxRecDepth 99999
set_option maxHeartbeats 0
set_option linter.all false
open Go.RowKit
theorem Zb{w w1 w2:World}{g:Nat}(h:Below w.heap.size w w1)(hc:Ch (fun b=>b=g) w1 w2)(hg:w.heap.size<=g):Below w.heap.size w w2:=(Ch.trans (Ch.of_below (M:=fun b=>b=g) h) hc (fun _ h=> .inl h)).below (fun k hk e=>by omega)
def aq0(A:Nat->Prop)(x:Tm×Int×Int)(r:Value)(w':World):Prop:=∃us,r= .tuple #[.agg us.toArray,.int .i64 x.2.1,.int .i64 x.2.2]/\Tm.rep A w' x.1 us
theorem aq1(hq:Hp)(a most:Int)(ha:aA a)(aq2:aA most)(A:Nat->Prop)(w:World)(vs:List Value)(hh:Hp.rep A w hq vs):Calls Tryz.prog 62 #[.agg vs.toArray,.int .i64 a,.int .i64 most] w (Pure w (aq0 (New w) (dU hq a most))):=by
 obtain⟨va,cap,vb,aR,rfl,hc1,hc2,hc3,ht1,ht2,ht3,hc,ht⟩:=Hp.mG hh;have HH:=zh hh;have zJ:=zh ha;have jX:=zh (fun w'(hk:af A w w')=>Ct hq A w' _ (Hp.rep.keeps hh hk));obtain⟨L,hL⟩:=dQ (show 0<=leftOf most by unfold leftOf;omega);have hL2:L<=65536:=by unfold leftOf at hL;omega
 have hLM:max 0 (min most 65536)=(L:Int):=by unfold leftOf at hL;omega
 have Lb:=zh hL;clear hh hc ht ha aq2 hL;go_enter Tryz.func62,Tryz.ntmps62;go_wp2_with fail;refine(jX.o _ ((af.alloc _ _ _).trans (af.alloc _ _ _))).mono ?_;rintro e w1⟨v,rfl,hb1,tt,rfl,ht⟩;have h2:=je w (.cells #[.slice va hq.cells.length cap,.slice vb hq.trail.length aR] 59) (.cells #[.int .i64 0,.int .i64 0,.string .empty,.slice none 0 0] 34);have eO:=zh (aL h2.1 hb1);have dI:=zh (aL h2.2 hb1);have HB:=zh (show Below w.heap.size w w1 from eB (eB (hb1.mono (by simp))));have hz:w.heap.size+1<w1.heap.size:=by have :=hb1.size;simp at this;omega
 have hz':w.heap.size<w1.heap.size:=by omega
 have lK:=zh ht;have hcs:=dH;clear h2 hb1 ht;obtain⟨x0,x1,xf⟩:=dO eO.o;obtain⟨y0,y1,y2,y3,yf⟩:=aU dI.o;cases tt with
  |false=>
   have hg:¬hq.Good:=fun hg=>by have :=lK.o.2 hg;cases this
   go_wp2_with fail;refine dD (v:= .tuple #[.agg #[.int .i64 0,.int .i64 0,.string .empty,.slice none 0 0],.int .i64 0,.int .i64 1]) (by simp[results,Tryz.results62,go_sem,hcs,y0,y1,y2,y3];try rfl) rfl ?_;rw[dU,ai hg];refine Pure.mk ?_ ⟨[_,_,_,_],rfl,yH _ _⟩;repeat(with_reducible first|exact HB.o|refine bK ?_ (by simp) _)
  |true=>
   have HG:=zh (lK.o.1 rfl);clear lK;by_cases hin:Inb hq.cells a;case neg=>have dM:=zh hin;clear hin;go_wp2_with fail;all_goals first|(exfalso;omega)|(refine dD (v:= .tuple #[.agg #[.int .i64 0,.int .i64 0,.string .empty,.slice none 0 0],.int .i64 0,.int .i64 4]) (by simp[results,Tryz.results62,go_sem,hcs,y0,y1,y2,y3];try rfl) rfl ?_;rw[dU,ag (dJ HG.o),ai dM.o];refine Pure.mk ?_ ⟨[_,_,_,_],rfl,yH _ _⟩;repeat(with_reducible first|exact HB.o|refine bK ?_ (by simp) _))|go_ways
   case pos=>
    have dM:=zh hin;obtain⟨i0,i1⟩:=hin;have HT0:=zh (show dU hq a most=zH (L:Int) (jD hq.cells L a)by rw[dU,ag (dJ HG.o),ag (dJ dM.o),Lb.o,dG]);have hcases:(most<=0/\(L:Int)=0)\/(0<most/\most<=65536/\(L:Int)=most)\/(65536<most/\(L:Int)=65536):=by have :=Lb.o;unfold leftOf at this;omega
    rcases hcases with⟨m1,m2⟩|⟨m1,m3,m2⟩|⟨m1,m2⟩
    ·go_wp2_with fail;all_goals
      have E9:=zh (aX dI.o (.cells #[.int .i64 0] 3));have wS:=zh (show nP w1.heap.size (L:Int) (w1.alloc (.cells #[.int .i64 0] 3))by rw[m2];exact bJ _ _);have HB1:=zh (HB.o.alloc (by omega) (.cells #[.int .i64 0] 3));have hs1:(w1.alloc (.cells #[.int .i64 0] 3)).heap.size=w1.heap.size+1:=by simp
      have HR1:=zh (Hp.rep.keeps (Hp.rep.mono (A':=fun b=>b<w.heap.size) HH.o (fun b hb _=>hb)) (af.ob HB1.o));clear x0 x1 xf y0 y1 y2 y3 yf;refine(WU L hq a w1.heap.size (fun b=>b<w.heap.size) _ [_,_] HG.o.1 zJ.o (by omega) HR1.o wS.o hL2).mono ?_;rintro e w2⟨us,t,k,rfl,hch,hr,hl,hres⟩;obtain⟨sa,sc,rfl, -⟩:=Tm.dw hr;have hsz2:=hch.size;have hkg:af (fun b=>b≠w1.heap.size) _ w2:=hch.keeps (A:=fun b=>b≠w1.heap.size) (fun b _ hb e=>hb e);have wV:=zh (bB E9.o hkg (by omega));have HB2:=zh (show Below w.heap.size w w2 from Zb HB1.o hch (by omega));have HR:=zh hr;have HL:=zh hl;have l7:=zh hres;have hw2:w.heap.size+1<w2.heap.size:=by omega
      have Dy:w.heap.size<w2.heap.size:=by omega
      have hne':¬w.heap.size+1=w1.heap.size:=by omega
      obtain⟨q0,qf,hgl⟩:=EW hl;obtain⟨y0,y1,y2,y3,yf⟩:=aU wV.o;clear hch hr hl hres hkg;rcases l7.o with⟨r1,rfl⟩|⟨r1,r2⟩;·go_wp2_with fail;refine dD (v:= .tuple #[.agg #[.int .i64 0,.int .i64 0,.string .empty,.slice none 0 0],.int .i64 0,.int .i64 3]) (by simp[results,Tryz.results62,go_sem,hcs,y0,y1,y2,y3,hw2,Dy];try rfl) rfl ?_;rw[HT0.o,r1];refine Pure.mk ?_ ⟨[_,_,_,_],rfl,yH _ _⟩;repeat(with_reducible first|exact HB2.o|refine PO ?_|refine PL ?_ (by simp only[qm,eZ];omega) _|refine bK ?_ (by simp) _)
      ·obtain⟨k,rfl⟩:=dQ r2;have HR1:=zh r1;have jB:=QB r1;clear r1 l7 r2;go_wp2_with fail;go_region;all_goals
        go_wp2_with fail;refine dD (v:= .tuple #[.agg #[.int .i64 t.kind,.int .i64 t.n,.string t.s,.slice sa t.args.length sc],.int .i64 (0 - (k:Int)),.int .i64 0]) (by simp[results,Tryz.results62,go_sem,hcs,y0,y1,y2,y3,hw2,Dy];try rfl) rfl ?_;rw[HT0.o,HR1.o];refine Pure.mk ?_ ⟨[.int .i64 t.kind,.int .i64 t.n,.string t.s,.slice sa t.args.length sc],by simp only[zH,dG,m2];try rfl,?_⟩;·repeat(with_reducible first|exact HB2.o|refine PO ?_|refine PL ?_ (by simp only[qm,eZ];omega) _|refine bK ?_ (by simp) _)
        ·refine Tm.aj.2.1 _ _ _ _ _ (Tm.aj.1 _ _ _ _ _ HR.o ?_) (fun b _ hb=>by unfold New at hb ⊢;omega);repeat(with_reducible first|exact af.refl _ _|exact af.drew _ _|refine af.trans ?_ (af.alloc _ _ _)|refine af.trans ?_ (af.setCell _ _ _ _ (by simp[New];omega))|refine af.trans ?_ (af.drew _ _))
    ·go_wp2_with fail;all_goals
      have E9:=zh (aX dI.o (.cells #[.int .i64 most] 3));have wS:=zh (show nP w1.heap.size (L:Int) (w1.alloc (.cells #[.int .i64 most] 3))by rw[m2];exact bJ _ _);have HB1:=zh (HB.o.alloc (by omega) (.cells #[.int .i64 most] 3));have hs1:(w1.alloc (.cells #[.int .i64 most] 3)).heap.size=w1.heap.size+1:=by simp
      have HR1:=zh (Hp.rep.keeps (Hp.rep.mono (A':=fun b=>b<w.heap.size) HH.o (fun b hb _=>hb)) (af.ob HB1.o));clear x0 x1 xf y0 y1 y2 y3 yf;refine(WU L hq a w1.heap.size (fun b=>b<w.heap.size) _ [_,_] HG.o.1 zJ.o (by omega) HR1.o wS.o hL2).mono ?_;rintro e w2⟨us,t,k,rfl,hch,hr,hl,hres⟩;obtain⟨sa,sc,rfl, -⟩:=Tm.dw hr;have hsz2:=hch.size;have hkg:af (fun b=>b≠w1.heap.size) _ w2:=hch.keeps (A:=fun b=>b≠w1.heap.size) (fun b _ hb e=>hb e);have wV:=zh (bB E9.o hkg (by omega));have HB2:=zh (show Below w.heap.size w w2 from Zb HB1.o hch (by omega));have HR:=zh hr;have HL:=zh hl;have l7:=zh hres;have hw2:w.heap.size+1<w2.heap.size:=by omega
      have Dy:w.heap.size<w2.heap.size:=by omega
      have hne':¬w.heap.size+1=w1.heap.size:=by omega
      obtain⟨q0,qf,hgl⟩:=EW hl;obtain⟨y0,y1,y2,y3,yf⟩:=aU wV.o;clear hch hr hl hres hkg;rcases l7.o with⟨r1,rfl⟩|⟨r1,r2⟩;·go_wp2_with fail;refine dD (v:= .tuple #[.agg #[.int .i64 0,.int .i64 0,.string .empty,.slice none 0 0],.int .i64 0,.int .i64 3]) (by simp[results,Tryz.results62,go_sem,hcs,y0,y1,y2,y3,hw2,Dy];try rfl) rfl ?_;rw[HT0.o,r1];refine Pure.mk ?_ ⟨[_,_,_,_],rfl,yH _ _⟩;repeat(with_reducible first|exact HB2.o|refine PO ?_|refine PL ?_ (by simp only[qm,eZ];omega) _|refine bK ?_ (by simp) _)
      ·obtain⟨k,rfl⟩:=dQ r2;have HR1:=zh r1;have jB:=QB r1;clear r1 l7 r2;go_wp2_with fail;go_region;all_goals
        go_wp2_with fail;refine dD (v:= .tuple #[.agg #[.int .i64 t.kind,.int .i64 t.n,.string t.s,.slice sa t.args.length sc],.int .i64 (most - (k:Int)),.int .i64 0]) (by simp[results,Tryz.results62,go_sem,hcs,y0,y1,y2,y3,hw2,Dy];try rfl) rfl ?_;rw[HT0.o,HR1.o];refine Pure.mk ?_ ⟨[.int .i64 t.kind,.int .i64 t.n,.string t.s,.slice sa t.args.length sc],by simp only[zH,dG,m2];try rfl,?_⟩;·repeat(with_reducible first|exact HB2.o|refine PO ?_|refine PL ?_ (by simp only[qm,eZ];omega) _|refine bK ?_ (by simp) _)
        ·refine Tm.aj.2.1 _ _ _ _ _ (Tm.aj.1 _ _ _ _ _ HR.o ?_) (fun b _ hb=>by unfold New at hb ⊢;omega);repeat(with_reducible first|exact af.refl _ _|exact af.drew _ _|refine af.trans ?_ (af.alloc _ _ _)|refine af.trans ?_ (af.setCell _ _ _ _ (by simp[New];omega))|refine af.trans ?_ (af.drew _ _))
    ·go_wp2_with fail;all_goals
      have E9:=zh (aX dI.o (.cells #[.int .i64 65536] 3));have wS:=zh (show nP w1.heap.size (L:Int) (w1.alloc (.cells #[.int .i64 65536] 3))by rw[m2];exact bJ _ _);have HB1:=zh (HB.o.alloc (by omega) (.cells #[.int .i64 65536] 3));have hs1:(w1.alloc (.cells #[.int .i64 65536] 3)).heap.size=w1.heap.size+1:=by simp
      have HR1:=zh (Hp.rep.keeps (Hp.rep.mono (A':=fun b=>b<w.heap.size) HH.o (fun b hb _=>hb)) (af.ob HB1.o));clear x0 x1 xf y0 y1 y2 y3 yf;refine(WU L hq a w1.heap.size (fun b=>b<w.heap.size) _ [_,_] HG.o.1 zJ.o (by omega) HR1.o wS.o hL2).mono ?_;rintro e w2⟨us,t,k,rfl,hch,hr,hl,hres⟩;obtain⟨sa,sc,rfl, -⟩:=Tm.dw hr;have hsz2:=hch.size;have hkg:af (fun b=>b≠w1.heap.size) _ w2:=hch.keeps (A:=fun b=>b≠w1.heap.size) (fun b _ hb e=>hb e);have wV:=zh (bB E9.o hkg (by omega));have HB2:=zh (show Below w.heap.size w w2 from Zb HB1.o hch (by omega));have HR:=zh hr;have HL:=zh hl;have l7:=zh hres;have hw2:w.heap.size+1<w2.heap.size:=by omega
      have Dy:w.heap.size<w2.heap.size:=by omega
      have hne':¬w.heap.size+1=w1.heap.size:=by omega
      obtain⟨q0,qf,hgl⟩:=EW hl;obtain⟨y0,y1,y2,y3,yf⟩:=aU wV.o;clear hch hr hl hres hkg;rcases l7.o with⟨r1,rfl⟩|⟨r1,r2⟩;·go_wp2_with fail;refine dD (v:= .tuple #[.agg #[.int .i64 0,.int .i64 0,.string .empty,.slice none 0 0],.int .i64 0,.int .i64 3]) (by simp[results,Tryz.results62,go_sem,hcs,y0,y1,y2,y3,hw2,Dy];try rfl) rfl ?_;rw[HT0.o,r1];refine Pure.mk ?_ ⟨[_,_,_,_],rfl,yH _ _⟩;repeat(with_reducible first|exact HB2.o|refine PO ?_|refine PL ?_ (by simp only[qm,eZ];omega) _|refine bK ?_ (by simp) _)
      ·obtain⟨k,rfl⟩:=dQ r2;have HR1:=zh r1;have jB:=QB r1;clear r1 l7 r2;go_wp2_with fail;go_region;all_goals
        go_wp2_with fail;refine dD (v:= .tuple #[.agg #[.int .i64 t.kind,.int .i64 t.n,.string t.s,.slice sa t.args.length sc],.int .i64 (65536 - (k:Int)),.int .i64 0]) (by simp[results,Tryz.results62,go_sem,hcs,y0,y1,y2,y3,hw2,Dy];try rfl) rfl ?_;rw[HT0.o,HR1.o];refine Pure.mk ?_ ⟨[.int .i64 t.kind,.int .i64 t.n,.string t.s,.slice sa t.args.length sc],by simp only[zH,dG,m2];try rfl,?_⟩;·repeat(with_reducible first|exact HB2.o|refine PO ?_|refine PL ?_ (by simp only[qm,eZ];omega) _|refine bK ?_ (by simp) _)
        ·refine Tm.aj.2.1 _ _ _ _ _ (Tm.aj.1 _ _ _ _ _ HR.o ?_) (fun b _ hb=>by unfold New at hb ⊢;omega);repeat(with_reducible first|exact af.refl _ _|exact af.drew _ _|refine af.trans ?_ (af.alloc _ _ _)|refine af.trans ?_ (af.setCell _ _ _ _ (by simp[New];omega))|refine af.trans ?_ (af.drew _ _))
theorem aq3{w:World}{g:Nat}{E:TypeId}{c:Array Value}(h:w.heap[g]?=some (.cells c E (0,0)))(o:Nat):w.frozen? ⟨g,o,none⟩=false:=by simp[World.frozen?,h]
theorem aG.elems{α:Type}{w:World}{base:Nat}{E:TypeId}{size:Nat}{R:(Nat->Prop)->World->α->List Value->Prop}{A:Nat->Prop}{xs:List α}{v:Value}(hR:iq R)(h:aG w base E size R A xs v):∃b off,(0<xs.length->∃cap,v= .slice (some ⟨b,off,none⟩) xs.length cap)/\mF A w size R xs b off:=by
 obtain⟨vals,hl,ho,he⟩:=h;have hsz:∀(i:Nat)(vs:List Value),vals[i]?=some vs->vs.length=size:=fun i vs hv=>by
  have hi:i<xs.length:=by have :=(gT.1 hv).1;omega
  exact(he i _ vs (aT hi) hv).1
 rcases ho.2 with⟨h0,a,rfl⟩|⟨g,cap,cur,rfl,hc,hb,hg,hnc,hcm,hcs,htake⟩;·have :xs=[]:=Cj h0;subst this;exact⟨0,0,fun h=>by simp at h,fun i x hx=>by simp at hx⟩
 ·refine⟨g,0,fun _=>⟨cap,rfl⟩,fun i x hx=>?_⟩;have hi:i<vals.length:=by have :=(gT.1 hx).1;omega
  have hv:=aT hi;obtain⟨h1,h2⟩:=he i x _ hx hv;refine⟨vals[i],h1,hR.2.1 _ _ w x _ h2 (fun b _ hb=>hb.1),fun j u hj=>?_⟩;have hjl:j<size:=by have :=(gT.1 hj).1;omega
  rw[nX];exact ho.cells rfl hc _ u (by rw[Ei vals hsz i j _ hv hjl];exact hj)
def agM(_:Nat->Prop)(_:World)(n:Int)(vs:List Value):Prop:=vs=[.int .i64 n]/\aA n
theorem agN:iq agM:=⟨fun _ _ _ _ _ h _=>h,fun _ _ _ _ _ h _=>h,fun _ _ _ _ h u hu=>by obtain⟨rfl,_⟩:=h;simp at hu;subst hu;rfl⟩
theorem aq4:nZ Tryz.prog 57 3 1 8:= .mk' (z:= .int .i64 0) Tryz.underlying57 (by kernel_rfl) rfl (by omega) (by omega)
def Si(base bs:Nat)(st:List Int)(M:Nat->Prop)(w:World):Prop:=∃v,w.heap[bs]?=some (.cells #[v] 57 (0,0))/\aG w base 3 1 agM (fun _=>True) st v/\base<=w.heap.size/\bs<base/\(∀b,M b↔(b=bs\/ownB v=some b))
theorem agO(base bs:Nat):Cq (Si base bs):=by
 refine⟨fun st M w h b hb=>?_,fun st M w w' h hk=>?_⟩
 ·obtain⟨v,h1,h2,h3,h4,h5⟩:=h;rcases(h5 b).1 hb with rfl|h6;·exact aJ h1
  ·exact(h2.lt b h6).2
 ·obtain⟨v,h1,h2,h3,h4,h5⟩:=h;exact⟨v,bB h1 hk ((h5 _).2 (.inl rfl)),by obtain⟨vals,k1,k2,k3⟩:=h2;exact⟨vals,k1,k2.keeps hk (fun b hb=>(h5 b).2 (.inr hb)),k3⟩,fM h3 hk.size,h4,h5⟩
theorem aq5{st:List Int}{n:Int}{k:Nat}(hk:k<st.length)(h:st[k]=n)(hb:∀i(hi:i<k),st[i]'(by omega)≠n):n∈st/\st.idxOf n=k:=by
 have hm:n∈st:=h▸bO hk;refine⟨hm,?_⟩;have h1:=axK hm;have h2:st[st.idxOf n]=n:=List.getElem_idxOf h1;rcases Nat.lt_trichotomy (st.idxOf n) k with h3|h3|h3;·exact absurd h2 (hb _ h3)
 ·exact h3
 ·have h4:=List.not_of_lt_findIdx (p:=(· ==n)) (xs:=st) (i:=k) (by simpa[List.idxOf]using h3);simp[h]at h4
theorem aq6(base bs:Nat)(st:List Int)(M:Nat->Prop)(w:World)(n:Int)(hi:Si base bs st M w)(hsz:st.length<4194304)(hn:aA n):Calls Tryz.prog 104 #[.pointer (some ⟨bs,0,none⟩),.int .i64 n] w (PT (Si base bs) M w (aO st n)):=by
 have HI:=zh hi;obtain⟨v,hblk,hown,hbase,hbs,hM⟩:=hi;obtain⟨va,vc,rfl,qG⟩:=hown.val;have HO:=zh hown;have HM:=zh hM;have hc0:w.cell? ⟨bs,0,none⟩=some (.slice va st.length vc):=by rw[bW hblk];rfl
 have hf0:w.frozen? ⟨bs,0,none⟩=false:=by simp[World.frozen?,hblk]
 have HB:=zh hblk;have HE:=zh (show ∃b off,(0<st.length->va=some ⟨b,off,none⟩)/\∀i(hi:i<st.length),w.cell? ⟨b,off+i,none⟩=some (.int .i64 st[i])by obtain⟨b,off,h1,h2⟩:=hown.elems agN;refine⟨b,off,fun h0=>by have :=h1 h0;simpa using this,fun i hi=>?_⟩;obtain⟨vs, -,⟨rfl, -⟩,h3⟩:=h2 i _ (aT hi);have :=h3 0 _ rfl;simpa using this);clear hown hM hblk;obtain⟨b,off,hva,hel⟩:=HE.o;have Xi:=zh hva;have qJ:=zh hel;clear hva hel HE;go_enter Tryz.func104,Tryz.ntmps104;go_wp2_with fail;go_loopw[11](fun i wr=>∃j:Nat,j<=st.length/\i= .int .i64 j/\w=wr/\∀i(hi:i<j)(hj:j<=st.length),st[i]'(by omega)≠n)(fun i _=>st.length - (intOf i).toNat);case atStart=>exact⟨0,dn _,rfl,rfl,fun i hi=>by omega⟩
 case round=>
  obtain⟨j,hj,rfl,rfl,hpre⟩:=hrel;have HP:=zh hpre;clear hpre;by_cases hlt:j<st.length
  ·obtain rfl:=Xi.o (by omega);have hcell:=qJ.o j hlt;by_cases he:st[j]=n
   ·have he':(st[j]==n)=true:=by simpa using he
    have y9:=zh he;clear he;go_wp2_with fail;go_ret;obtain⟨h1,h2⟩:=aq5 hlt y9.o (fun i hi=>HP.o i hi hj);refine⟨by simp[aO,h1,h2],by simp only[aO,h1,if_true,h2];exact P7 (by omega),M,Ch.refl M _,fun b hb=> .inl hb,by simpa[aO,h1]using HI.o⟩
   ·have he':(st[j]==n)=false:=by simpa using he
    have y9:=zh he;clear he;go_wp2_with fail;go_roundw;case rel=>
     refine⟨j+1,by omega,by go_num,(by first|rfl|trivial),fun i hi hj'=>?_⟩;by_cases hij:i=j;·subst hij;exact y9.o
     ·exact HP.o i (by omega) hj
    case measure=>simp[intOf];omega
  ·have :j=st.length:=by omega
   subst this;have agP:n∉st:=fun h=>by obtain⟨i,hi,he⟩:=ng.1 h;exact HP.o i hi (zL _) he
   have aq7:=zh agP;have HL:=zh (show st.length<4194304/\base<=w.heap.size from⟨hsz,hbase⟩);have hlt2:=HO.o.lt;have aq8:ownB (.slice va st.length vc)≠some bs:=fun e=>by have :=(hlt2 _ e).1;omega
   clear agP;go_wp2_with(at_builtin;go_must(refine jf rfl (.tmp 24) (.tmp 26) 57 rfl base 3 1 8 aq4 agN (.slice va st.length vc) st rfl HO.o n [.int .i64 n] rfl rfl ⟨rfl,hn⟩ HL.o ?_);go_must(intro v2 w2 hown2 aB;obtain⟨aY,aZ,hv2,zy⟩:=hown2.val;rw[show(st++[n]).length=st.length+1 by simp]at hv2;subst hv2;have hB2:=bB HB.o ((af.alloc (fun b=>ownB (.slice va st.length vc)≠some b) w (.cells #[.int .i64 n] 3)).trans (aB.keeps (fun _ h=>h))) aq8;have hcs:=dH;have hc2:w2.cell? ⟨bs,0,none⟩=some (.slice va st.length vc):=(bW hB2 0).trans rfl;have hf2:=aq3 hB2 0;have HB2:=zh hB2;have bA:=zh hown2;have HG:=zh aB;clear hB2 hown2 aB));go_ret;have hs1:(aO st n)=(((st.length:Nat):Int),st++[n]):=by simp[aO,aq7.o]
   rw[hs1];have hG:=HG.o;have hz2:=hG.size;simp only[bQ]at hz2;have hlt3:=bA.o.lt;have aq9:ownB (.slice aY (st.length+1) aZ)≠some bs:=fun e=>by have :=(hlt3 _ e).1;omega
   refine⟨rfl,P7 (by omega),fun b=>b=bs\/ownB (.slice aY (st.length+1) aZ)=some b,?_,fun b hb=>?_,?_⟩;·exact(hG.ch ((Ch.refl M w).alloc _) (fun b hb=> .inl ((HM.o b).2 (.inr hb)))).setCell (.inl ((HM.o bs).2 (.inl rfl))) _
   ·rcases hb with rfl|hb;·exact .inl ((HM.o _).2 (.inl rfl))
    ·rcases hG.block with h1|h1;·exact .inl ((HM.o b).2 (.inr (h1.symm.trans hb)))
     ·have :=h1 b hb;simp only[bQ]at this;exact .inr (by omega)
   ·refine⟨_,bG HB2.o 0 _,?_,by simp;omega,hbs,fun b=>Gi⟩;obtain⟨vals,k1,k2,k3⟩:=bA.o;exact⟨vals,k1,k2.keeps (af.setCell (fun b=>b≠bs) w2 ⟨bs,0,none⟩ _ (by simp)) (fun k hk e=>aq9 (e▸hk)),k3⟩
def xA(pb bs bw:Nat)(st:List Int)(M:Nat->Prop)(w:World):Prop:=∃M0,Si pb bs st M0 w/\w.cell? ⟨bw,0,none⟩=some (.func (.func 103) #[] #[.pointer (some ⟨bs,0,none⟩),.pointer (some ⟨bw,0,none⟩)])/\(∀b,M b↔(M0 b\/b=bw))/\¬M0 bw
theorem xA.cw{pb bs bw:Nat}{st:List Int}{M:Nat->Prop}{w:World}(h:xA pb bs bw st M w):w.cell? ⟨bw,0,none⟩=some (.func (.func 103) #[] #[.pointer (some ⟨bs,0,none⟩),.pointer (some ⟨bw,0,none⟩)]):=by obtain⟨_,_,h,_⟩:=h;exact h
theorem xA.mw{pb bs bw:Nat}{st:List Int}{M:Nat->Prop}{w:World}(h:xA pb bs bw st M w):M bw:=by obtain⟨_,_,_,h,_⟩:=h;exact(h bw).2 (.inr rfl)
theorem Mx(pb bs bw:Nat):Cq (xA pb bs bw):=by
 refine⟨fun st M w h b hb=>?_,fun st M w w' h hk=>?_⟩
 ·obtain⟨M0,h1,h2,h3,h4⟩:=h;rcases(h3 b).1 hb with h5|rfl;·exact(agO pb bs).lt _ _ _ h1 b h5
  ·exact fK w _ h2
 ·obtain⟨M0,h1,h2,h3,h4⟩:=h;exact⟨M0,(agO pb bs).keeps _ _ _ _ h1 (hk.mono fun b _ hb=>(h3 b).2 (.inl hb)),hk.cell ((h3 bw).2 (.inr rfl)) h2,h3,h4⟩
theorem ara(pb bs bw:Nat)(st:List Int)(M:Nat->Prop)(w:World)(n:Int)(hi:xA pb bs bw st M w)(hsz:st.length<4194304)(hn:aA n):Calls Tryz.prog 104 #[.pointer (some ⟨bs,0,none⟩),.int .i64 n] w (PT (xA pb bs bw) M w (aO st n)):=by
 obtain⟨M0,h1,h2,h3,h4⟩:=hi;refine(aq6 pb bs st M0 w n h1 hsz hn).mono ?_;rintro e w'⟨rfl,h5,M1,h6,h7,h8⟩;have hbw:bw<w.heap.size:=fK w ⟨bw,0,none⟩ h2;refine⟨rfl,h5,fun b=>M1 b\/b=bw,h6.mono (fun b _ hb=>(h3 b).2 (.inl hb)),fun b hb=>?_,⟨M1,h8,?_,fun b=>Gi,fun hb=>?_⟩⟩
 ·rcases hb with hb|rfl
  ·rcases h7 b hb with h9|h9;·exact .inl ((h3 b).2 (.inl h9))
   ·exact .inr h9
  ·exact .inl ((h3 _).2 (.inr rfl))
 ·rw[<-h2];exact Px (h6.block _ hbw h4)
 ·rcases h7 bw hb with h9|h9;·exact h4 h9
  ·omega
namespace Tm
theorem arb(st:List Int)(n:Int):st.length<=(aO st n).2.length:=by unfold aO;split<;>simp
theorem arc(st:List Int)(k n:Int):st.length<=(num aO st k n).2.length:=by
 unfold num;split;·exact arb st n
 ·exact zL _
theorem agQ:∀(t:Tm)(st:List Int),st.length<=(aH aO st t).2.length:=by
 intro t;induction t using induct with
  |h k n s l ih=>
   intro st;have hL:∀(r:List Tm),(∀t∈r,t∈l)->∀st:List Int,st.length<=(aS aO st r).2.length:=by intro r;induction r with|nil=>intro _ st;simp[aS]|cons x r ihr=>intro hm st;simp only[aS];exact fM (ih x (hm x (nk ..)) st) (ihr (fun t ht=>hm t (ni _ ht)) _)
   simp only[aH];exact fM (arc st k n) (hL l (fun _ h=>h) _)
theorem agR:∀(l:List Tm)(st:List Int),st.length<=(aS aO st l).2.length|[],st=>by simp[aS]|x::r,st=>by simp only[aS];exact fM (agQ x st) (agR r _)
theorem Sj:∀(l:List Tm)(st:List Int)(j:Nat)(hj:j<l.length),(aH aO (aS aO st (l.take j)).2 l[j]).2.length<=(aS aO st l).2.length|x::r,st,0,_=>by simp only[mE,aS,Jt];exact agR r _|x::r,st,j+1,hj=>by simp only[uP,aS,abY];exact Sj r _ j (by simpa using hj)
end Tm
def Zd(pb bs bw:Nat)(t:Tm):Prop:=∀(st:List Int)(M A:Nat->Prop)(w:World)(vs:List Value),xA pb bs bw st M w->(t.aH aO st).2.length<=4194303->Tm.rep A w t vs->(∀b,A b->b<w.heap.size/\¬M b)->Calls Tryz.prog 103 #[.agg vs.toArray,.pointer (some ⟨bs,0,none⟩),.pointer (some ⟨bw,0,none⟩)] w (Vx (xA pb bs bw) M w (t.aH aO st))
theorem ard(pb bs bw:Nat)(k n:Int)(s:ByteArray)(l:List Tm)(ih:∀t∈l,Zd pb bs bw t):Zd pb bs bw (.mk k n s l):=by
 intro st M A w vs hst hnd hv hA;rw[Tm.gL]at hv;obtain⟨hk,hn,hs,v,rfl,hl⟩:=hv;obtain⟨a,cap,b,off,rfl,hlc,hcm,hlb,ha,he⟩:=hl.at;have HE:=zh he;have HA:=zh ha;have IH:=zh ih;have HI:=zh (Mx pb bs bw);have lX:=zh PZ;have HST:=zh hst;have tT:=zh hA;have jJ:=zh hnd;have iT:=zh ((Mx pb bs bw).lt _ _ _ hst);clear he ha hl ih hst hA hnd;obtain⟨m,st1,hm⟩:∃m st1,(m,st1)=Tm.num aO st k n:=⟨_,_,rfl⟩;have HM:=zh hm;clear hm;by_cases e:k=0;all_goals
  try have e':(k==0)=false:=by simpa using e
  try have e':(k==0)=true:=by simpa using e
  have ku:=zh e;clear e;go_enter Tryz.func103,Tryz.ntmps103;go_wp2_with fail
 ·have AP:=HI.o.keeps _ _ _ (((w.alloc (.cells #[.int .i64 k,.int .i64 n,.string s,.slice a l.length cap] 34)).alloc (.cells #[.int .i64 0,.int .i64 0,.string .empty,.slice none 0 0] 34)).alloc (.cells #[.int .i64 k,.int .i64 n,.string s,.slice a l.length cap] 34)) HST.o (((af.alloc _ _ _).trans (af.alloc _ _ _)).trans (af.alloc _ _ _));have hcl:=ara pb bs bw st M _ n AP (by have h1:=jJ.o;have h2:=Tm.agQ (.mk k n s l) st;omega) hn;rw[show aO st n=(m,st1)by rw[HM.o,Tm.num,ai ku.o]]at hcl;refine hcl.mono ?_;rintro e w1⟨rfl,Cx,M1,hch,hM1,Cy⟩;have hq1:=Eg w (.cells #[.int .i64 k,.int .i64 n,.string s,.slice a l.length cap] 34) (.cells #[.int .i64 0,.int .i64 0,.string .empty,.slice none 0 0] 34) (.cells #[.int .i64 k,.int .i64 n,.string s,.slice a l.length cap] 34);have wG:=iT.o;have hz1:=hch.size;simp only[bQ]at hz1;have HB0:=zh ((hch.block _ (by simp<;>omega) (fun h=>by have :=wG _ h;omega)).trans hq1.1);have HB2:=zh ((hch.block _ (by simp<;>omega) (fun h=>by have :=wG _ h;omega)).trans hq1.2.1);have HB1:=zh ((hch.block _ (by simp<;>omega) (fun h=>by have :=wG _ h;omega)).trans hq1.2.2);have fe:Hd (∀b,M1 b->M b\/w.heap.size+3<=b):=fun b hb=>by have :=hM1 b hb;simpa[PI]using this
  have bU:=zh (((((Ch.refl M w).alloc _).alloc _).alloc _).trans hch (fun b hb=> .inl hb));have fC:=zh Cy;have xR:=zh (show aA m from Cx);obtain⟨x0,x1,x2,x3,xf⟩:=aU HB1.o;obtain⟨z0,z1,z2,z3,zf⟩:=aU HB0.o;have hcs:=dH;have AQ:Hd (st1.length<=st.length+1):=by have h5:=congrArg Prod.snd HM.o;simp only[Tm.num,ai ku.o]at h5;rw[h5];exact lX.o st n
  clear AP hq1 wG hch hM1 Cy Cx hcl HST;go_wp2_with fail;go_loopw[20](fun i wr=>∃(j:Nat)(v:Value)(sj:List Int)(Mj:Nat->Prop),j<=l.length/\i= .int .i64 j/\w.heap.size+3<=wr.heap.size/\Ch M w wr/\(∀b,Mj b->M b\/w.heap.size+3<=b)/\xA pb bs bw sj Mj wr/\wr.heap[w.heap.size+1]?=some (.cells #[.int .i64 0,.int .i64 0,.string .empty,.slice none 0 0] 34 (0,0))/\wr.heap[w.heap.size+1+1]?=some (.cells #[.int .i64 k,.int .i64 m,.string s,v] 34 (0,0))/\sj=(Tm.aS aO st1 (l.take j)).2/\(∀b,ownB v=some b->¬Mj b)/\aG wr (w.heap.size+3) 34 4 Tm.rep (fun b=>w.heap.size+3<=b/\¬Mj b) (Tm.aS aO st1 (l.take j)).1 v)(fun i _=>l.length - (intOf i).toNat);case atStart=>
   refine⟨0,.slice none 0 0,st1,M1,dn _,rfl,by simp;omega,(bU.o.setCell (by simp<;>omega) _).setCell (by simp<;>omega) _,fe.o,HI.o.keeps _ _ _ _ fC.o ((af.setCell _ _ _ _ ?_).trans (af.setCell _ _ _ _ ?_)),?_,?_,by simp[Tm.aS],by simp[ownB],by simpa[Tm.aS]using aG.nil ..⟩;·exact fun(h:M1 (w.heap.size+1+1))=>(fe.o _ h).elim (fun h1=>by have :=iT.o _ h1;omega) (fun h1=>by omega)
   ·exact fun(h:M1 (w.heap.size+1+1))=>(fe.o _ h).elim (fun h1=>by have :=iT.o _ h1;omega) (fun h1=>by omega)
   ·exact bB (A:=fun b=>b≠w.heap.size+1+1) HB2.o ((af.setCell _ _ _ _ (by simp)).trans (af.setCell _ _ _ _ (by simp))) (by omega)
   ·exact bG (bG HB1.o 1 _) 3 _
  case round=>
   obtain⟨j,v,sj,Mj,hj,rfl,hz,hch,hMj,hst,hB2,hB1,hsj,bI,hown⟩:=hrel;have hvl:(Tm.aS aO st1 (l.take j)).1.length=j:=by rw[Tm.qz];simp;omega
   obtain⟨va,vc,hv,qG⟩:=hown.val;rw[hvl]at hv;subst hv;have jV:=zh hch;have pG:=zh hB1;have pI:=zh hB2;have dR:=zh hMj;have jA:=zh hst;have fD:=zh hsj;have dE:=zh bI;have HO:=zh hown;have lY:=zh hvl;obtain⟨g0,g1,g2,g3,gf⟩:=aU pG.o;clear hch hMj hst hB2 hB1 hsj bI hown hvl;by_cases hlt:j<l.length
   ·obtain⟨rfl,bC⟩:=HA.o (by omega);obtain⟨sa,sc,c0,c1,c2,c3,hr⟩:=gq HE.o bC (jV.o.keeps fun b _ h=>(tT.o b h).2) hlt;have HR:=zh hr;have lb:b<wr.heap.size:=fK wr _ c0;clear hr;try clear HB0
    try clear HB1 HB2 bU fC
    try clear x0 x1 x2 x3 xf z0 z1 z2 z3 zf hcs
    go_wp2_with fail;generalize hW:wr.alloc (.cells #[.int .i64 l[j].kind,.int .i64 l[j].n,.string l[j].s,.slice sa l[j].args.length sc] 34)=W0;have hW1:W0.drew.cell? ⟨w.heap.size+1+1,3,none⟩=some (.slice va j vc):=by subst hW;exact(af.alloc (fun _=>True) _ _).cell trivial g3
    obtain⟨hx0,hx1,hx2,hx3, -⟩:=aU (show W0.drew.heap[wr.heap.size]?=_ by subst hW;exact bJ _ _);have Ah:W0.drew.cell? ⟨bw,0,none⟩=some (.func (.func 103) #[] #[.pointer (some ⟨bs,0,none⟩),.pointer (some ⟨bw,0,none⟩)]):=by subst hW;exact(af.alloc (fun _=>True) _ _).cell trivial jA.o.cw
    refine iG (F:=fun k w'=>(k=1\/k=2\/k=3)->w'.cell? ⟨w.heap.size+1+1,3,none⟩=some (.slice va j vc)/\w'.cell? ⟨wr.heap.size,0,none⟩=some (.int .i64 l[j].kind)/\w'.cell? ⟨wr.heap.size,1,none⟩=some (.int .i64 l[j].n)/\w'.cell? ⟨wr.heap.size,2,none⟩=some (.string l[j].s)/\w'.cell? ⟨wr.heap.size,3,none⟩=some (.slice sa l[j].args.length sc)/\w'.cell? ⟨bw,0,none⟩=some (.func (.func 103) #[] #[.pointer (some ⟨bs,0,none⟩),.pointer (some ⟨bw,0,none⟩)])) (by kernel_rfl) ?_;refine aD (i:=0) (v:=?_) rfl (Or.inl ⟨by rfl,?_⟩) (fun _=>⟨hW1,hx0,hx1,hx2,hx3,Ah⟩) ?_;rotate_left;·(intro w' hw;clear hw;go_simp<;>with_reducible rfl)
    try simp only[zP]
    refine aD (i:=1) (v:=?_) rfl (Or.inl ⟨by rfl,?_⟩) (fun _=>⟨hW1,hx0,hx1,hx2,hx3,Ah⟩) ?_;rotate_left;·(intro w' hw;obtain⟨q0,q1,q2,q3,q4,q5⟩:=hw (by omega);go_simp<;>with_reducible rfl)
    try simp only[zP]
    refine aD (i:=2) (v:=?_) rfl (Or.inl ⟨by rfl,?_⟩) (fun _=>⟨hW1,hx0,hx1,hx2,hx3,Ah⟩) ?_;rotate_left;·(intro w' hw;obtain⟨q0,q1,q2,q3,q4,q5⟩:=hw (by omega);go_simp<;>with_reducible rfl)
    try simp only[zP]
    refine aD (i:=3) (v:=?_) rfl (Or.inl ⟨by rfl,?_⟩) (fun _=>⟨hW1,hx0,hx1,hx2,hx3,Ah⟩) ?_;rotate_left;·(intro w' hw;obtain⟨q0,q1,q2,q3,q4,q5⟩:=hw (by omega);go_simp<;>with_reducible rfl)
    try simp only[zP]
    refine aM (i:=4) (by kernel_rfl) (aF rfl (by rfl) ?_);go_simp;have iU:af (fun _=>True) wr W0.drew:=by subst hW;exact(af.alloc _ _ _).trans (af.drew _ _)
    have GL:W0.heap.size=wr.heap.size+1:=by subst hW;simp
    have hrd:Tm.rep A W0.drew l[j] _:=Tm.aj.1 _ _ _ _ _ HR.o (iU.mono fun _ _ _=>trivial);have hnd:(Tm.aH aO sj l[j]).2.length<=4194303:=by have h1:=Tm.Sj l st1 j hlt;have h3:=jJ.o;simp only[Tm.aH]at h3;rw[<-HM.o]at h3;dsimp only at h3;rw[fD.o];omega
    have mI:∀b,A b->b<W0.drew.heap.size/\¬Mj b:=fun b hb=>by
     have h1:=tT.o b hb;refine⟨by simp only[eZ];omega,fun h2=>?_⟩;rcases dR.o b h2 with h3|h3;·exact h1.2 h3
     ·omega
    refine(IH.out _ (bO hlt) sj Mj A _ _ (HI.o.keeps _ _ _ _ jA.o (iU.mono fun _ _ _=>trivial)) hnd hrd mI).mono ?_;rintro e w1⟨us,M2,rfl,bN,hM2,fo,hr⟩;obtain⟨sa',eQ,rfl, -⟩:=Tm.dw hr;have hsz:=bN.size;simp only[eZ]at hsz hM2 hr;have hlt2:=HO.o.lt;have kL:=HI.o.lt _ _ _ fo;have kM:∀b,M2 b->M b\/w.heap.size+3<=b:=fun b hb=>by
     rcases hM2 b hb with h1|h1;·exact dR.o b h1
     ·exact .inr (by omega)
    have hn2:∀b,b<W0.heap.size->¬Mj b->¬M2 b:=fun b hb hn h=>by
     rcases hM2 b h with h1|h1;·exact hn h1
     ·omega
    have kN:aG W0.drew _ _ _ _ _ _ _:=HO.o.keeps Tm.aj iU (fun _ _=>trivial) (fun _ _=>trivial);have pJ:aG w1 _ _ _ _ (fun b=>w.heap.size+3<=b/\¬M2 b) _ _:=((kN.mono (A':=fun b=>w.heap.size+3<=b/\¬M2 b/\¬Mj b) Tm.aj (fun b hb hb'=>⟨hb'.1,hn2 b hb hb'.2,hb'.2⟩)).keeps (B:=fun b=>¬Mj b) Tm.aj (bN.keeps fun _ _ h=>h) (fun _ h=>h.2.2) dE.o).mono Tm.aj (fun b _ hb=>⟨hb.1,hb.2.1⟩);have eT:=zh pJ;have jW:Hd (∀b,ownB (.slice va j vc)=some b->¬M2 b):=fun b hb=>hn2 b (by have :=(hlt2 b hb).2;omega) (dE.o b hb);have HN:=zh (show Tm.rep (fun b=>(w.heap.size+3<=b/\¬M2 b)/\ownB (.slice va j vc)≠some b) w1 _ _ from Tm.aj.2.1 _ _ _ _ _ hr fun b _ hb=>⟨⟨by omega,hb.2⟩,fun e=>by have :=(hlt2 b e).2;omega⟩);have HL:=zh (show(Tm.aS aO st1 (l.take j)).1.length<4194304/\w.heap.size+3<=w1.heap.size by rw[lY.o];omega);have hnb:∀b,b<w.heap.size+3->w.heap.size<=b->¬Mj b:=fun b h1 h2 h3=>by
     rcases dR.o b h3 with h4|h4;·have :=iT.o b h4;omega
     ·omega
    have rF:Hd (Ch M w w1):=zh (((show Ch M w W0.drew by subst hW;exact(jV.o.alloc _).drew)).trans bN (fun b hb=>by rcases dR.o b hb with h|h;exact .inl h;exact .inr (by omega)));have hkj:=bN.keeps (A:=fun b=>¬Mj b) (fun _ _ h=>h);have gu:¬Mj wr.heap.size:=fun h=>by have :=HI.o.lt _ _ _ jA.o _ h;omega
    have HQ:=zh (show w1.cell? ⟨w.heap.size+1+1,3,none⟩=some (.slice va j vc)/\w1.cell? ⟨wr.heap.size,0,none⟩=some (.int .i64 l[j].kind)/\w1.cell? ⟨wr.heap.size,1,none⟩=some (.int .i64 l[j].n)/\w1.cell? ⟨wr.heap.size,2,none⟩=some (.string l[j].s)/\w1.cell? ⟨wr.heap.size,3,none⟩=some (.slice sa l[j].args.length sc)/\w1.cell? ⟨bw,0,none⟩=some (.func (.func 103) #[] #[.pointer (some ⟨bs,0,none⟩),.pointer (some ⟨bw,0,none⟩)])from⟨hkj.cell (hnb _ (by omega) (by omega)) hW1,hkj.cell gu hx0,hkj.cell gu hx1,hkj.cell gu hx2,hkj.cell gu hx3,fo.cw⟩);have xS:=zh (show w1.heap[w.heap.size+1+1]?=_ from bB (w:=W0.drew) (by subst hW;exact aX pG.o _) hkj (hnb _ (by omega) (by omega)));have nD:=zh (show w1.heap[w.heap.size+1]?=_ from bB (w:=W0.drew) (by subst hW;exact aX pI.o _) hkj (hnb _ (by omega) (by omega)));have mJ:=zh fo;have rG:=zh kL;have iI:=zh kM;clear hrd hr bN kN pJ fo kL kM hn2 hnb hkj gu hM2 mI hnd iU;refine⟨fun _ _ _ _=>HQ.o,?_⟩;refine aM (i:=5) (by kernel_rfl) (aF rfl (by rfl) ?_);go_simp;refine⟨fun _ _ _ _=>?_,?_⟩;·obtain⟨q0,q1,q2,q3,q4,q5⟩:=HQ.o;have ka:=af.alloc (fun _=>True) w1 (.cells #[.int .i64 (Tm.aH aO sj l[j]).1.kind,.int .i64 (Tm.aH aO sj l[j]).1.n,.string (Tm.aH aO sj l[j]).1.s,.slice sa' (Tm.aH aO sj l[j]).1.args.length eQ] 34);exact⟨ka.cell trivial q0,ka.cell trivial q1,ka.cell trivial q2,ka.cell trivial q3,ka.cell trivial q4,ka.cell trivial q5⟩
    refine aM (i:=6) (by kernel_rfl) (aF rfl (by rfl) ?_);refine oh (.tmp 25) (.tmp 29) 23 rfl (w.heap.size+3) 34 4 56 rz Tm.aj _ _ rfl eT.o (Tm.aH aO sj l[j]).1 [_,_,_,_] rfl rfl HN.o HL.o ?_;intro v2 w2 hown2 aB;have hk2:=aB.keeps (A:=fun b=>ownB (.slice va j vc)≠some b) (fun _ h=>h);have hka:=(af.alloc (fun b=>ownB (.slice va j vc)≠some b) w1 (.cells #[.int .i64 (Tm.aH aO sj l[j]).1.kind,.int .i64 (Tm.aH aO sj l[j]).1.n,.string (Tm.aH aO sj l[j]).1.s,.slice sa' (Tm.aH aO sj l[j]).1.args.length eQ] 34)).trans hk2;have n1:ownB (.slice va j vc)≠some (w.heap.size+1+1):=fun e=>by have :=(hlt2 _ e).1;omega
    have n2:ownB (.slice va j vc)≠some wr.heap.size:=fun e=>by have :=(hlt2 _ e).2;omega
    have n3:ownB (.slice va j vc)≠some (w.heap.size+1):=fun e=>by have :=(hlt2 _ e).1;omega
    have n4:ownB (.slice va j vc)≠some bw:=fun e=>dE.o bw e jA.o.mw;have mK:=zh (bB xS.o hka n1);have xU:=zh (bB nD.o hka n3);have tV:=zh (aB.ch (rF.o.alloc (.cells #[.int .i64 (Tm.aH aO sj l[j]).1.kind,.int .i64 (Tm.aH aO sj l[j]).1.n,.string (Tm.aH aO sj l[j]).1.s,.slice sa' (Tm.aH aO sj l[j]).1.args.length eQ] 34)) (fun b hb=> .inr (by have :=(hlt2 b hb).1;omega)));have pK:=zh (HI.o.keeps _ _ _ _ mJ.o (hka.mono fun b _ hb e=>jW.o b e hb));have xV:Hd (∀b,ownB v2=some b->¬M2 b):=fun b hb hm=>by
     have h1:=aB.block;rcases h1 with h1|h1;·exact jW.o b (h1.symm.trans hb) hm
     ·have h2:=h1 b hb;have h3:=rG.o b hm;simp only[bQ]at h2;omega
    obtain⟨aY,aZ,hv2,zy⟩:=hown2.val;rw[show((Tm.aS aO st1 (l.take j)).1++[(Tm.aH aO sj l[j]).1]).length=j+1 by rw[bT,lY.o];rfl]at hv2;subst hv2;have hz2:=aB.size;have bA:=zh hown2;simp only[bQ]at hz2;obtain⟨y0,y1,y2,y3,yf⟩:=aU mK.o;refine⟨fun _ _ _ _=>?_,?_⟩;·obtain⟨q0,q1,q2,q3,q4,q5⟩:=HQ.o;exact⟨hka.cell n1 q0,hka.cell n2 q1,hka.cell n2 q2,hka.cell n2 q3,hka.cell n2 q4,hka.cell n4 q5⟩
    clear hown2 hka hk2;simp only[zP];refine aD (i:=7) (v:=?_) rfl (Or.inl ⟨by rfl,?_⟩) (fun h=>by omega) ?_;rotate_left;·(intro w' hw;clear hw;go_simp<;>with_reducible rfl)
    try simp only[zP]
    refine aM (i:=8) (by kernel_rfl) (aF rfl (by rfl) ?_);go_simp;refine⟨fun k0 hk0 _ h12=>?_,fO (by kernel_rfl) ?_ _⟩
    ·rcases h12 with rfl|rfl|rfl;·exact absurd (show waits _ 8 1=true by kernel_rfl) (by rw[hk0];decide)
     ·exact absurd (show waits _ 8 2=true by kernel_rfl) (by rw[hk0];decide)
     ·exact absurd (show waits _ 8 3=true by kernel_rfl) (by rw[hk0];decide)
    have HB3:=zh (bG mK.o 3 (.slice aY (j+1) aZ));have hz3:(w2.setCell ⟨w.heap.size+1+1,3,none⟩ (.slice aY (j+1) aZ)).heap.size=w2.heap.size:=by simp
    have iH:=zh (af.setCell (fun b=>b≠w.heap.size+1+1) w2 ⟨w.heap.size+1+1,3,none⟩ (.slice aY (j+1) aZ) (by simp));clear aB;go_wp2_with fail;go_roundw;case rel=>
     have hnw:∀b,M2 b->b≠w.heap.size+1+1:=fun b hb e=>by
      rcases iI.o b hb with h|h;·have :=iT.o b h;omega
      ·omega
     refine⟨j+1,_,_,M2,by omega,by go_num,by omega,tV.o.setCell (.inr (by simp<;>omega)) _,iI.o,HI.o.keeps _ _ _ _ pK.o (iH.o.mono fun b _ hb=>hnw b hb),bB xU.o iH.o (by omega),HB3.o,?_,xV.o,?_⟩;·rw[dX hlt,Tm.qy,<-fD.o]
     ·rw[dX hlt,Tm.qy,<-fD.o];exact bA.o.keeps Tm.aj iH.o (fun b hb=>by omega) (fun b hb=>by have :=(bA.o.lt b hb).1;omega)
    case measure=>simp[intOf];omega
   ·have :j=l.length:=by omega
    subst this;try clear z0 z1 z2 z3 zf
    obtain⟨z0,z1,z2,z3,zf⟩:=aU pI.o;try clear hcs
    have hcs:=dH;try clear HB0
    try clear HB1 HB2 bU fC
    try clear x0 x1 x2 x3 xf
    go_wp2_with fail;refine dD (v:= .agg #[.int .i64 k,.int .i64 m,.string s,.slice va l.length vc]) (by simp[results,Tryz.results103,go_sem,hcs,z0,z1,z2,z3]) rfl ⟨[_,_,_,_],Mj,rfl,?_,fun b hb=>?_,?_,?_⟩;·refine Ch.setCell (Ch.setCell (Ch.setCell (Ch.setCell jV.o ?_ _) ?_ _) ?_ _) ?_ _<;>simp
    ·rcases dR.o b hb with h|h;·exact .inl h
     ·exact .inr (by omega)
    ·have hs2:=fD.o;rw[jd]at hs2;have h2:(Tm.aH aO st (.mk k n s l)).2=sj:=by rw[Tm.aH,<-HM.o];exact hs2.symm
     rw[h2];have hnw:∀b,Mj b->b≠w.heap.size+1:=fun b hb e=>by
      rcases dR.o b hb with h|h;·have :=iT.o b h;omega
      ·omega
     refine HI.o.keeps _ _ _ _ jA.o (af.trans (af.trans (af.trans (af.setCell _ _ _ _ ?_) (af.setCell _ _ _ _ ?_)) (af.setCell _ _ _ _ ?_)) (af.setCell _ _ _ _ ?_))<;>exact fun h=>hnw _ h rfl
    ·have hO:=HO.o;rw[jd]at hO;have hsl:=(hO.mono (A':=fun b=>w.heap.size+3<=b/\¬Mj b) Tm.aj (fun b _ hb=>hb));have hsl2:au 4 Tm.rep (fun b=>w.heap.size+3<=b/\¬Mj b) wr (Tm.aS aO st1 l).1 (.slice va l.length vc):=hO.sl' Tm.aj (by rw[Tm.qz];exact hlb) (fun b hb=>⟨by have :=(HO.o.lt b hb).1;omega,dE.o b hb⟩);rw[Tm.aH,<-HM.o];rw[Tm.gL];refine⟨hk,xR.o,hs,_,rfl,?_⟩;refine au.mono Tm.aj (by omega) (au.keeps Tm.aj hsl2 ?_) (fun b _ hb=>⟨by omega,hb.2⟩);refine af.trans (af.trans (af.trans (af.setCell _ _ _ _ ?_) (af.setCell _ _ _ _ ?_)) (af.setCell _ _ _ _ ?_)) (af.setCell _ _ _ _ ?_)<;>simp
 ·have HB1:=zh (Eg w (.cells #[.int .i64 k,.int .i64 n,.string s,.slice a l.length cap] 34) (.cells #[.int .i64 0,.int .i64 0,.string .empty,.slice none 0 0] 34) (.cells #[.int .i64 k,.int .i64 n,.string s,.slice none 0 0] 34)).2.2;have HB2:=zh (Eg w (.cells #[.int .i64 k,.int .i64 n,.string s,.slice a l.length cap] 34) (.cells #[.int .i64 0,.int .i64 0,.string .empty,.slice none 0 0] 34) (.cells #[.int .i64 k,.int .i64 n,.string s,.slice none 0 0] 34)).2.1;have Cz:m=n/\st1=st:=by have :=HM.o;rw[Tm.num,ag ku.o]at this;simpa using this
  obtain⟨rfl,rfl⟩:=Cz;have xR:=zh hn;have bU:=zh ((((Ch.refl M w).alloc (.cells #[.int .i64 k,.int .i64 m,.string s,.slice a l.length cap] 34)).alloc (.cells #[.int .i64 0,.int .i64 0,.string .empty,.slice none 0 0] 34)).alloc (.cells #[.int .i64 k,.int .i64 m,.string s,.slice none 0 0] 34));have fC:=zh (HI.o.keeps _ _ _ (((w.alloc (.cells #[.int .i64 k,.int .i64 m,.string s,.slice a l.length cap] 34)).alloc (.cells #[.int .i64 0,.int .i64 0,.string .empty,.slice none 0 0] 34)).alloc (.cells #[.int .i64 k,.int .i64 m,.string s,.slice none 0 0] 34)) HST.o (((af.alloc _ _ _).trans (af.alloc _ _ _)).trans (af.alloc _ _ _)));have AQ:Hd (st1.length<=st1.length+1):=acC _;clear HST;go_loopw[20](fun i wr=>∃(j:Nat)(v:Value)(sj:List Int)(Mj:Nat->Prop),j<=l.length/\i= .int .i64 j/\w.heap.size+3<=wr.heap.size/\Ch M w wr/\(∀b,Mj b->M b\/w.heap.size+3<=b)/\xA pb bs bw sj Mj wr/\wr.heap[w.heap.size+1]?=some (.cells #[.int .i64 0,.int .i64 0,.string .empty,.slice none 0 0] 34 (0,0))/\wr.heap[w.heap.size+1+1]?=some (.cells #[.int .i64 k,.int .i64 m,.string s,v] 34 (0,0))/\sj=(Tm.aS aO st1 (l.take j)).2/\(∀b,ownB v=some b->¬Mj b)/\aG wr (w.heap.size+3) 34 4 Tm.rep (fun b=>w.heap.size+3<=b/\¬Mj b) (Tm.aS aO st1 (l.take j)).1 v)(fun i _=>l.length - (intOf i).toNat);case atStart=>exact⟨0,.slice none 0 0,st1,M,dn _,rfl,by simp,bU.o,fun b hb=> .inl hb,fC.o,HB2.o,HB1.o,by simp[Tm.aS],by simp[ownB],by simpa[Tm.aS]using aG.nil ..⟩
  case round=>
   obtain⟨j,v,sj,Mj,hj,rfl,hz,hch,hMj,hst,hB2,hB1,hsj,bI,hown⟩:=hrel;have hvl:(Tm.aS aO st1 (l.take j)).1.length=j:=by rw[Tm.qz];simp;omega
   obtain⟨va,vc,hv,qG⟩:=hown.val;rw[hvl]at hv;subst hv;have jV:=zh hch;have pG:=zh hB1;have pI:=zh hB2;have dR:=zh hMj;have jA:=zh hst;have fD:=zh hsj;have dE:=zh bI;have HO:=zh hown;have lY:=zh hvl;obtain⟨g0,g1,g2,g3,gf⟩:=aU pG.o;clear hch hMj hst hB2 hB1 hsj bI hown hvl;by_cases hlt:j<l.length
   ·obtain⟨rfl,bC⟩:=HA.o (by omega);obtain⟨sa,sc,c0,c1,c2,c3,hr⟩:=gq HE.o bC (jV.o.keeps fun b _ h=>(tT.o b h).2) hlt;have HR:=zh hr;have lb:b<wr.heap.size:=fK wr _ c0;clear hr;try clear HB0
    try clear HB1 HB2 bU fC
    try clear x0 x1 x2 x3 xf z0 z1 z2 z3 zf hcs
    go_wp2_with fail;generalize hW:wr.alloc (.cells #[.int .i64 l[j].kind,.int .i64 l[j].n,.string l[j].s,.slice sa l[j].args.length sc] 34)=W0;have hW1:W0.drew.cell? ⟨w.heap.size+1+1,3,none⟩=some (.slice va j vc):=by subst hW;exact(af.alloc (fun _=>True) _ _).cell trivial g3
    obtain⟨hx0,hx1,hx2,hx3, -⟩:=aU (show W0.drew.heap[wr.heap.size]?=_ by subst hW;exact bJ _ _);have Ah:W0.drew.cell? ⟨bw,0,none⟩=some (.func (.func 103) #[] #[.pointer (some ⟨bs,0,none⟩),.pointer (some ⟨bw,0,none⟩)]):=by subst hW;exact(af.alloc (fun _=>True) _ _).cell trivial jA.o.cw
    refine iG (F:=fun k w'=>(k=1\/k=2\/k=3)->w'.cell? ⟨w.heap.size+1+1,3,none⟩=some (.slice va j vc)/\w'.cell? ⟨wr.heap.size,0,none⟩=some (.int .i64 l[j].kind)/\w'.cell? ⟨wr.heap.size,1,none⟩=some (.int .i64 l[j].n)/\w'.cell? ⟨wr.heap.size,2,none⟩=some (.string l[j].s)/\w'.cell? ⟨wr.heap.size,3,none⟩=some (.slice sa l[j].args.length sc)/\w'.cell? ⟨bw,0,none⟩=some (.func (.func 103) #[] #[.pointer (some ⟨bs,0,none⟩),.pointer (some ⟨bw,0,none⟩)])) (by kernel_rfl) ?_;refine aD (i:=0) (v:=?_) rfl (Or.inl ⟨by rfl,?_⟩) (fun _=>⟨hW1,hx0,hx1,hx2,hx3,Ah⟩) ?_;rotate_left;·(intro w' hw;clear hw;go_simp<;>with_reducible rfl)
    try simp only[zP]
    refine aD (i:=1) (v:=?_) rfl (Or.inl ⟨by rfl,?_⟩) (fun _=>⟨hW1,hx0,hx1,hx2,hx3,Ah⟩) ?_;rotate_left;·(intro w' hw;obtain⟨q0,q1,q2,q3,q4,q5⟩:=hw (by omega);go_simp<;>with_reducible rfl)
    try simp only[zP]
    refine aD (i:=2) (v:=?_) rfl (Or.inl ⟨by rfl,?_⟩) (fun _=>⟨hW1,hx0,hx1,hx2,hx3,Ah⟩) ?_;rotate_left;·(intro w' hw;obtain⟨q0,q1,q2,q3,q4,q5⟩:=hw (by omega);go_simp<;>with_reducible rfl)
    try simp only[zP]
    refine aD (i:=3) (v:=?_) rfl (Or.inl ⟨by rfl,?_⟩) (fun _=>⟨hW1,hx0,hx1,hx2,hx3,Ah⟩) ?_;rotate_left;·(intro w' hw;obtain⟨q0,q1,q2,q3,q4,q5⟩:=hw (by omega);go_simp<;>with_reducible rfl)
    try simp only[zP]
    refine aM (i:=4) (by kernel_rfl) (aF rfl (by rfl) ?_);go_simp;have iU:af (fun _=>True) wr W0.drew:=by subst hW;exact(af.alloc _ _ _).trans (af.drew _ _)
    have GL:W0.heap.size=wr.heap.size+1:=by subst hW;simp
    have hrd:Tm.rep A W0.drew l[j] _:=Tm.aj.1 _ _ _ _ _ HR.o (iU.mono fun _ _ _=>trivial);have hnd:(Tm.aH aO sj l[j]).2.length<=4194303:=by have h1:=Tm.Sj l st1 j hlt;have h3:=jJ.o;simp only[Tm.aH]at h3;rw[<-HM.o]at h3;dsimp only at h3;rw[fD.o];omega
    have mI:∀b,A b->b<W0.drew.heap.size/\¬Mj b:=fun b hb=>by
     have h1:=tT.o b hb;refine⟨by simp only[eZ];omega,fun h2=>?_⟩;rcases dR.o b h2 with h3|h3;·exact h1.2 h3
     ·omega
    refine(IH.out _ (bO hlt) sj Mj A _ _ (HI.o.keeps _ _ _ _ jA.o (iU.mono fun _ _ _=>trivial)) hnd hrd mI).mono ?_;rintro e w1⟨us,M2,rfl,bN,hM2,fo,hr⟩;obtain⟨sa',eQ,rfl, -⟩:=Tm.dw hr;have hsz:=bN.size;simp only[eZ]at hsz hM2 hr;have hlt2:=HO.o.lt;have kL:=HI.o.lt _ _ _ fo;have kM:∀b,M2 b->M b\/w.heap.size+3<=b:=fun b hb=>by
     rcases hM2 b hb with h1|h1;·exact dR.o b h1
     ·exact .inr (by omega)
    have hn2:∀b,b<W0.heap.size->¬Mj b->¬M2 b:=fun b hb hn h=>by
     rcases hM2 b h with h1|h1;·exact hn h1
     ·omega
    have kN:aG W0.drew _ _ _ _ _ _ _:=HO.o.keeps Tm.aj iU (fun _ _=>trivial) (fun _ _=>trivial);have pJ:aG w1 _ _ _ _ (fun b=>w.heap.size+3<=b/\¬M2 b) _ _:=((kN.mono (A':=fun b=>w.heap.size+3<=b/\¬M2 b/\¬Mj b) Tm.aj (fun b hb hb'=>⟨hb'.1,hn2 b hb hb'.2,hb'.2⟩)).keeps (B:=fun b=>¬Mj b) Tm.aj (bN.keeps fun _ _ h=>h) (fun _ h=>h.2.2) dE.o).mono Tm.aj (fun b _ hb=>⟨hb.1,hb.2.1⟩);have eT:=zh pJ;have jW:Hd (∀b,ownB (.slice va j vc)=some b->¬M2 b):=fun b hb=>hn2 b (by have :=(hlt2 b hb).2;omega) (dE.o b hb);have HN:=zh (show Tm.rep (fun b=>(w.heap.size+3<=b/\¬M2 b)/\ownB (.slice va j vc)≠some b) w1 _ _ from Tm.aj.2.1 _ _ _ _ _ hr fun b _ hb=>⟨⟨by omega,hb.2⟩,fun e=>by have :=(hlt2 b e).2;omega⟩);have HL:=zh (show(Tm.aS aO st1 (l.take j)).1.length<4194304/\w.heap.size+3<=w1.heap.size by rw[lY.o];omega);have hnb:∀b,b<w.heap.size+3->w.heap.size<=b->¬Mj b:=fun b h1 h2 h3=>by
     rcases dR.o b h3 with h4|h4;·have :=iT.o b h4;omega
     ·omega
    have rF:Hd (Ch M w w1):=zh (((show Ch M w W0.drew by subst hW;exact(jV.o.alloc _).drew)).trans bN (fun b hb=>by rcases dR.o b hb with h|h;exact .inl h;exact .inr (by omega)));have hkj:=bN.keeps (A:=fun b=>¬Mj b) (fun _ _ h=>h);have gu:¬Mj wr.heap.size:=fun h=>by have :=HI.o.lt _ _ _ jA.o _ h;omega
    have HQ:=zh (show w1.cell? ⟨w.heap.size+1+1,3,none⟩=some (.slice va j vc)/\w1.cell? ⟨wr.heap.size,0,none⟩=some (.int .i64 l[j].kind)/\w1.cell? ⟨wr.heap.size,1,none⟩=some (.int .i64 l[j].n)/\w1.cell? ⟨wr.heap.size,2,none⟩=some (.string l[j].s)/\w1.cell? ⟨wr.heap.size,3,none⟩=some (.slice sa l[j].args.length sc)/\w1.cell? ⟨bw,0,none⟩=some (.func (.func 103) #[] #[.pointer (some ⟨bs,0,none⟩),.pointer (some ⟨bw,0,none⟩)])from⟨hkj.cell (hnb _ (by omega) (by omega)) hW1,hkj.cell gu hx0,hkj.cell gu hx1,hkj.cell gu hx2,hkj.cell gu hx3,fo.cw⟩);have xS:=zh (show w1.heap[w.heap.size+1+1]?=_ from bB (w:=W0.drew) (by subst hW;exact aX pG.o _) hkj (hnb _ (by omega) (by omega)));have nD:=zh (show w1.heap[w.heap.size+1]?=_ from bB (w:=W0.drew) (by subst hW;exact aX pI.o _) hkj (hnb _ (by omega) (by omega)));have mJ:=zh fo;have rG:=zh kL;have iI:=zh kM;clear hrd hr bN kN pJ fo kL kM hn2 hnb hkj gu hM2 mI hnd iU;refine⟨fun _ _ _ _=>HQ.o,?_⟩;refine aM (i:=5) (by kernel_rfl) (aF rfl (by rfl) ?_);go_simp;refine⟨fun _ _ _ _=>?_,?_⟩;·obtain⟨q0,q1,q2,q3,q4,q5⟩:=HQ.o;have ka:=af.alloc (fun _=>True) w1 (.cells #[.int .i64 (Tm.aH aO sj l[j]).1.kind,.int .i64 (Tm.aH aO sj l[j]).1.n,.string (Tm.aH aO sj l[j]).1.s,.slice sa' (Tm.aH aO sj l[j]).1.args.length eQ] 34);exact⟨ka.cell trivial q0,ka.cell trivial q1,ka.cell trivial q2,ka.cell trivial q3,ka.cell trivial q4,ka.cell trivial q5⟩
    refine aM (i:=6) (by kernel_rfl) (aF rfl (by rfl) ?_);refine oh (.tmp 25) (.tmp 29) 23 rfl (w.heap.size+3) 34 4 56 rz Tm.aj _ _ rfl eT.o (Tm.aH aO sj l[j]).1 [_,_,_,_] rfl rfl HN.o HL.o ?_;intro v2 w2 hown2 aB;have hk2:=aB.keeps (A:=fun b=>ownB (.slice va j vc)≠some b) (fun _ h=>h);have hka:=(af.alloc (fun b=>ownB (.slice va j vc)≠some b) w1 (.cells #[.int .i64 (Tm.aH aO sj l[j]).1.kind,.int .i64 (Tm.aH aO sj l[j]).1.n,.string (Tm.aH aO sj l[j]).1.s,.slice sa' (Tm.aH aO sj l[j]).1.args.length eQ] 34)).trans hk2;have n1:ownB (.slice va j vc)≠some (w.heap.size+1+1):=fun e=>by have :=(hlt2 _ e).1;omega
    have n2:ownB (.slice va j vc)≠some wr.heap.size:=fun e=>by have :=(hlt2 _ e).2;omega
    have n3:ownB (.slice va j vc)≠some (w.heap.size+1):=fun e=>by have :=(hlt2 _ e).1;omega
    have n4:ownB (.slice va j vc)≠some bw:=fun e=>dE.o bw e jA.o.mw;have mK:=zh (bB xS.o hka n1);have xU:=zh (bB nD.o hka n3);have tV:=zh (aB.ch (rF.o.alloc (.cells #[.int .i64 (Tm.aH aO sj l[j]).1.kind,.int .i64 (Tm.aH aO sj l[j]).1.n,.string (Tm.aH aO sj l[j]).1.s,.slice sa' (Tm.aH aO sj l[j]).1.args.length eQ] 34)) (fun b hb=> .inr (by have :=(hlt2 b hb).1;omega)));have pK:=zh (HI.o.keeps _ _ _ _ mJ.o (hka.mono fun b _ hb e=>jW.o b e hb));have xV:Hd (∀b,ownB v2=some b->¬M2 b):=fun b hb hm=>by
     have h1:=aB.block;rcases h1 with h1|h1;·exact jW.o b (h1.symm.trans hb) hm
     ·have h2:=h1 b hb;have h3:=rG.o b hm;simp only[bQ]at h2;omega
    obtain⟨aY,aZ,hv2,zy⟩:=hown2.val;rw[show((Tm.aS aO st1 (l.take j)).1++[(Tm.aH aO sj l[j]).1]).length=j+1 by rw[bT,lY.o];rfl]at hv2;subst hv2;have hz2:=aB.size;have bA:=zh hown2;simp only[bQ]at hz2;obtain⟨y0,y1,y2,y3,yf⟩:=aU mK.o;refine⟨fun _ _ _ _=>?_,?_⟩;·obtain⟨q0,q1,q2,q3,q4,q5⟩:=HQ.o;exact⟨hka.cell n1 q0,hka.cell n2 q1,hka.cell n2 q2,hka.cell n2 q3,hka.cell n2 q4,hka.cell n4 q5⟩
    clear hown2 hka hk2;simp only[zP];refine aD (i:=7) (v:=?_) rfl (Or.inl ⟨by rfl,?_⟩) (fun h=>by omega) ?_;rotate_left;·(intro w' hw;clear hw;go_simp<;>with_reducible rfl)
    try simp only[zP]
    refine aM (i:=8) (by kernel_rfl) (aF rfl (by rfl) ?_);go_simp;refine⟨fun k0 hk0 _ h12=>?_,fO (by kernel_rfl) ?_ _⟩
    ·rcases h12 with rfl|rfl|rfl;·exact absurd (show waits _ 8 1=true by kernel_rfl) (by rw[hk0];decide)
     ·exact absurd (show waits _ 8 2=true by kernel_rfl) (by rw[hk0];decide)
     ·exact absurd (show waits _ 8 3=true by kernel_rfl) (by rw[hk0];decide)
    have HB3:=zh (bG mK.o 3 (.slice aY (j+1) aZ));have hz3:(w2.setCell ⟨w.heap.size+1+1,3,none⟩ (.slice aY (j+1) aZ)).heap.size=w2.heap.size:=by simp
    have iH:=zh (af.setCell (fun b=>b≠w.heap.size+1+1) w2 ⟨w.heap.size+1+1,3,none⟩ (.slice aY (j+1) aZ) (by simp));clear aB;go_wp2_with fail;go_roundw;case rel=>
     have hnw:∀b,M2 b->b≠w.heap.size+1+1:=fun b hb e=>by
      rcases iI.o b hb with h|h;·have :=iT.o b h;omega
      ·omega
     refine⟨j+1,_,_,M2,by omega,by go_num,by omega,tV.o.setCell (.inr (by simp<;>omega)) _,iI.o,HI.o.keeps _ _ _ _ pK.o (iH.o.mono fun b _ hb=>hnw b hb),bB xU.o iH.o (by omega),HB3.o,?_,xV.o,?_⟩;·rw[dX hlt,Tm.qy,<-fD.o]
     ·rw[dX hlt,Tm.qy,<-fD.o];exact bA.o.keeps Tm.aj iH.o (fun b hb=>by omega) (fun b hb=>by have :=(bA.o.lt b hb).1;omega)
    case measure=>simp[intOf];omega
   ·have :j=l.length:=by omega
    subst this;try clear z0 z1 z2 z3 zf
    obtain⟨z0,z1,z2,z3,zf⟩:=aU pI.o;try clear hcs
    have hcs:=dH;try clear HB0
    try clear HB1 HB2 bU fC
    try clear x0 x1 x2 x3 xf
    go_wp2_with fail;refine dD (v:= .agg #[.int .i64 k,.int .i64 m,.string s,.slice va l.length vc]) (by simp[results,Tryz.results103,go_sem,hcs,z0,z1,z2,z3]) rfl ⟨[_,_,_,_],Mj,rfl,?_,fun b hb=>?_,?_,?_⟩;·refine Ch.setCell (Ch.setCell (Ch.setCell (Ch.setCell jV.o ?_ _) ?_ _) ?_ _) ?_ _<;>simp
    ·rcases dR.o b hb with h|h;·exact .inl h
     ·exact .inr (by omega)
    ·have hs2:=fD.o;rw[jd]at hs2;have h2:(Tm.aH aO st1 (.mk k m s l)).2=sj:=by rw[Tm.aH,<-HM.o];exact hs2.symm
     rw[h2];have hnw:∀b,Mj b->b≠w.heap.size+1:=fun b hb e=>by
      rcases dR.o b hb with h|h;·have :=iT.o b h;omega
      ·omega
     refine HI.o.keeps _ _ _ _ jA.o (af.trans (af.trans (af.trans (af.setCell _ _ _ _ ?_) (af.setCell _ _ _ _ ?_)) (af.setCell _ _ _ _ ?_)) (af.setCell _ _ _ _ ?_))<;>exact fun h=>hnw _ h rfl
    ·have hO:=HO.o;rw[jd]at hO;have hsl:=(hO.mono (A':=fun b=>w.heap.size+3<=b/\¬Mj b) Tm.aj (fun b _ hb=>hb));have hsl2:au 4 Tm.rep (fun b=>w.heap.size+3<=b/\¬Mj b) wr (Tm.aS aO st1 l).1 (.slice va l.length vc):=hO.sl' Tm.aj (by rw[Tm.qz];exact hlb) (fun b hb=>⟨by have :=(HO.o.lt b hb).1;omega,dE.o b hb⟩);rw[Tm.aH,<-HM.o];rw[Tm.gL];refine⟨hk,xR.o,hs,_,rfl,?_⟩;refine au.mono Tm.aj (by omega) (au.keeps Tm.aj hsl2 ?_) (fun b _ hb=>⟨by omega,hb.2⟩);refine af.trans (af.trans (af.trans (af.setCell _ _ _ _ ?_) (af.setCell _ _ _ _ ?_)) (af.setCell _ _ _ _ ?_)) (af.setCell _ _ _ _ ?_)<;>simp
theorem arf(pb bs bw:Nat):∀t,Zd pb bs bw t:=by intro t;induction t using Tm.induct with|h k n s l ih=>exact ard pb bs bw k n s l ih
theorem arh(l:List Tm)(hnd:(Tm.aS aO [] l).2.length<=4194303)(A:Nat->Prop)(w:World)(v:Value)(hv:eP A w l v):Calls Tryz.prog 64 #[v] w (Pure w fun v' w'=>eP (New w) w' (Tm.aS aO [] l).1 v'):=by
 obtain⟨a,cap,b,off,rfl,hlc,hcm,hlb,ha,he⟩:=hv.at;have HE:=zh he;have HA:=zh ha;have HV:=zh hv;clear hv he ha;go_enter Tryz.func64,Tryz.ntmps64;go_wp2_with fail;go_loopw[5,11](fun v i wr=>∃(j:Nat)(sj:List Int)(Mj:Nat->Prop),j<=l.length/\i= .int .i64 j/\w.heap.size+2<=wr.heap.size/\Below w.heap.size w wr/\(∀b,Mj b->w.heap.size<=b)/\xA (w.heap.size+2) w.heap.size (w.heap.size+1) sj Mj wr/\sj=(Tm.aS aO [] (l.take j)).2/\(∀b,ownB v=some b->¬Mj b)/\aG wr (w.heap.size+2) 34 4 Tm.rep (fun b=>w.heap.size+2<=b/\¬Mj b) (Tm.aS aO [] (l.take j)).1 v)(fun _ i _=>l.length - (intOf i).toNat);case atStart=>
  have hq:=je w (.cells #[.slice none 0 0] 57) (.cells #[.func (.func 103) #[] #[.pointer (some ⟨w.heap.size,0,none⟩),.pointer (some ⟨w.heap.size+1,0,none⟩)]] 39);refine⟨0,[],fun b=>(b=w.heap.size\/ownB (.slice none 0 0)=some b)\/b=w.heap.size+1,dn _,rfl,by simp,eB (eB (zB _ _)),fun b hb=>?_,⟨_,⟨_,hq.1,aG.nil ..,by simp,by omega,fun b=>Gi⟩,(bW hq.2 0).trans rfl,fun b=>Gi,fun h=>?_⟩,by simp[Tm.aS],by simp[ownB],by simpa[Tm.aS]using aG.nil ..⟩
  ·rcases hb with(rfl|hb)|rfl;·omega
   ·simp[ownB]at hb
   ·omega
  ·rcases h with h|h;·omega
   ·simp[ownB]at h
 case round=>
  obtain⟨j,sj,Mj,hj,rfl,hz,hb,hMj,hst,hsj,bI,hown⟩:=hrel;have hvl:(Tm.aS aO [] (l.take j)).1.length=j:=by rw[Tm.qz];simp;omega
  have HB:=zh hb;have dR:=zh hMj;have HST:=zh hst;have fD:=zh hsj;have dE:=zh bI;have HO:=zh hown;have lY:=zh hvl;clear hb hMj hst hsj bI hown hvl;by_cases hlt:j<l.length
  ·obtain⟨rfl,bC⟩:=HA.o (by omega);obtain⟨sa,sc,c0,c1,c2,c3,hr⟩:=gq HE.o bC (af.ob HB.o) hlt;have lb:b<wr.heap.size:=fK wr _ c0;have hr0:=HE.o;obtain⟨vs0,hl0,En,J7⟩:=hr0 j _ (aT hlt);obtain⟨VN,VO,rfl, -⟩:=Tm.dw En;obtain⟨-, -, -,d3⟩:=Vt (nz.keeps bC J7 (af.ob (A:=A) HB.o));have hsame:Value.slice sa l[j].args.length sc=Value.slice VN l[j].args.length VO:=zI (c3.symm.trans d3);simp only[dC,dL]at hsame;obtain⟨rfl,rfl⟩:=hsame;have J8:=Tm.aj.2.1 _ (fun b=>A b/\b<w.heap.size) _ _ _ En (fun b hb h=>⟨h,hb⟩);have HR:=zh (Tm.aj.1 _ _ wr _ _ J8 (af.ob HB.o));clear hr hr0 hl0 En J7 d3 J8;have hcw:=fun o=>(af.alloc (fun _=>True) wr o).cell trivial HST.o.cw;go_wp2_with fail;have J9:(Tm.aH aO sj l[j]).2.length<=4194303:=by have h1:=Tm.Sj l [] j hlt;rw[fD.o];omega
   refine(arf _ _ _ l[j] sj Mj (fun b=>A b/\b<w.heap.size) _ [_,_,_,_] ((Mx _ _ _).keeps _ _ _ _ HST.o (af.alloc _ _ _)) J9 (Tm.aj.1 _ _ _ _ _ HR.o (af.alloc _ _ _)) (fun b hb=>⟨by simp;omega,fun h=>by have :=dR.o b h;omega⟩)).mono ?_;rintro e w1⟨us,M2,rfl,hch,hM2,fo,hr⟩;obtain⟨sa',eQ,rfl, -⟩:=Tm.dw hr;have hsz:=hch.size;simp only[bQ]at hsz hM2 hr;have hlt2:=HO.o.lt;have kL:=(Mx _ _ _).lt _ _ _ fo;have kM:∀b,M2 b->w.heap.size<=b:=fun b hb=>by
    rcases hM2 b hb with h1|h1;·exact dR.o b h1
    ·omega
   have hn2:∀b,b<wr.heap.size+1->¬Mj b->¬M2 b:=fun b hb hn h=>by
    rcases hM2 b h with h1|h1;·exact hn h1
    ·omega
   have kN:=HO.o.alloc Tm.aj (.cells #[.int .i64 l[j].kind,.int .i64 l[j].n,.string l[j].s,.slice sa l[j].args.length sc] 34);have eT:=zh (((kN.mono (A':=fun b=>w.heap.size+2<=b/\¬M2 b/\¬Mj b) Tm.aj (fun b hb hb'=>⟨hb'.1,hn2 b (by simpa using hb) hb'.2,hb'.2⟩)).keeps (B:=fun b=>¬Mj b) Tm.aj (hch.keeps fun _ _ h=>h) (fun _ h=>h.2.2) dE.o).mono (A':=fun b=>w.heap.size+2<=b/\¬M2 b) Tm.aj (fun b _ hb=>⟨hb.1,hb.2.1⟩));have jW:Hd (∀b,ownB u5=some b->¬M2 b):=fun b hb=>hn2 b (by have :=(hlt2 b hb).2;omega) (dE.o b hb);have HN:=zh (show Tm.rep (fun b=>(w.heap.size+2<=b/\¬M2 b)/\ownB u5≠some b) w1 _ _ from Tm.aj.2.1 _ _ _ _ _ hr fun b _ hb=>⟨⟨by omega,hb.2⟩,fun e=>by have :=(hlt2 b e).2;omega⟩);have HL:=zh (show(Tm.aS aO [] (l.take j)).1.length<4194304/\w.heap.size+2<=w1.heap.size by rw[lY.o];omega);have HB2:=zh (show Below w.heap.size w w1 from((Ch.of_below (M:=fun _=>False) (HB.o.alloc (by omega) _)).trans hch (fun b hb=> .inr (dR.o b hb))).below (fun _ _ h=>h));have mJ:=zh fo;have rG:=zh kL;have iI:=zh kM;clear hr hch kN fo kL kM hn2 hM2;go_wp2_with(at_builtin;refine jf rfl (.tmp 15) (.tmp 19) 23 rfl (w.heap.size+2) 34 4 56 rz Tm.aj u5 _ rfl eT.o (Tm.aH aO sj l[j]).1 [_,_,_,_] rfl rfl HN.o HL.o ?_;intro v2 w2 hown2 aB);go_roundw;case rel=>
    have hk2:=aB.keeps (A:=fun b=>ownB u5≠some b) (fun _ h=>h);have hka:=(af.alloc (fun b=>ownB u5≠some b) w1 (.cells #[.int .i64 (Tm.aH aO sj l[j]).1.kind,.int .i64 (Tm.aH aO sj l[j]).1.n,.string (Tm.aH aO sj l[j]).1.s,.slice sa' (Tm.aH aO sj l[j]).1.args.length eQ] 34)).trans hk2;refine⟨j+1,(Tm.aH aO sj l[j]).2,M2,by omega,by go_num,by have :=aB.size;simp only[bQ]at this;omega,aB.below (HB2.o.alloc (by omega) _) (by simp;omega) (fun b hb=>by have :=(hlt2 b hb).1;omega),iI.o,(Mx _ _ _).keeps _ _ _ _ mJ.o (hka.mono fun b _ hb e=>jW.o b e hb),?_,fun b hb hm=>?_,?_⟩;·rw[dX hlt,Tm.qy,<-fD.o]
    ·rcases aB.block with h1|h1;·exact jW.o b (h1.symm.trans hb) hm
     ·have h2:=h1 b hb;have h3:=rG.o b hm;simp only[bQ]at h2;omega
    ·rw[dX hlt,Tm.qy,<-fD.o];exact hown2
   case measure=>simp[intOf];omega
  ·have :j=l.length:=by omega
   subst this;go_wp2_with fail;go_ret;have hO:=HO.o;rw[jd]at hO;exact⟨_,rfl,HB.o,(hO.mono Tm.aj (fun b _ hb=>show New w b by unfold New;omega)).sl Tm.aj (by rw[Tm.qz];exact hlb) (fun b hb=>by unfold New;omega)⟩
theorem ari(l:List Tm)(hnd:Tm.bq l<=4194303)(A:Nat->Prop)(w:World)(v:Value)(hv:eP A w l v):Calls Tryz.prog 64 #[v] w (Pure w fun v' w'=>eP (New w) w' (Tm.aS aO [] l).1 v'):=arh l (by have h1:=Tm.Gr (sz:=List.length) PZ l [];simp only[kg]at h1;omega) A w v hv
