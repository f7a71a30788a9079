import Derived.Test.YtlpmfkpefoegeacGreatDoorQSolveI
import Derived.StillTailTactics
namespace Go.Proofs.YtlpmfkpefoegeacGreatDoor
set_option maxRecDepth 99999
set_option maxHeartbeats 0
set_option linter.all false
open Go.RowKit
section
variable {base : Nat} {P : List Cl} {q g mb xb : Nat} {pv tv cv ov tv' cv' gM : Value} {s : Sv} {N : Int} {w w' : World}
theorem Ty(hc:Ch (fun b=>SM g mb tv cv ov b\/b=xb) w w')(ht:∀b,ownB tv'=some b->ownB tv=some b\/w.heap.size<=b)(hcv:∀b,ownB cv'=some b->ownB cv=some b\/w.heap.size<=b)(hov:∀b,ownB gM=some b->ownB ov=some b\/w.heap.size<=b):J (fun b=>SA g mb xb tv cv ov b/\b<w.heap.size) w w'/\∀b,(SA g mb xb tv cv ov b/\b<w.heap.size)->SA g mb xb tv' cv' gM b:=by
 refine⟨hc.keeps fun b _ hb e=>e.elim hb.1.1 hb.1.2,fun b hb=>⟨fun hs=>?_,hb.1.2⟩⟩;rcases hs with e|e|e|e|e;·exact hb.1.1 (.inl e)
 ·exact hb.1.1 (.inr (.inl e))
 ·rcases ht b e with h|h;·exact hb.1.1 (.inr (.inr (.inl h)))
  ·have :=hb.2;omega
 ·rcases hcv b e with h|h;·exact hb.1.1 (.inr (.inr (.inr (.inl h))))
  ·have :=hb.2;omega
 ·rcases hov b e with h|h;·exact hb.1.1 (.inr (.inr (.inr (.inr h))))
  ·have :=hb.2;omega
theorem arE{α:Type}{R:(Nat->Prop)->World->α->List Value->Prop}{x:α}{vs:List Value}(hR:iy R)(h:R (SA g mb xb tv cv ov) w x vs)(hc:Ch (fun b=>SM g mb tv cv ov b\/b=xb) w w')(ht:∀b,ownB tv'=some b->ownB tv=some b\/w.heap.size<=b)(hcv:∀b,ownB cv'=some b->ownB cv=some b\/w.heap.size<=b)(hov:∀b,ownB gM=some b->ownB ov=some b\/w.heap.size<=b):R (SA g mb xb tv' cv' gM) w' x vs:=by obtain⟨h1,h2⟩:=Ty hc ht hcv hov;exact hR.2.1 _ _ _ _ _ (hR.1 _ _ _ _ _ (hR.2.1 _ (fun b=>SA g mb xb tv cv ov b/\b<w.heap.size) _ _ _ h fun b hb hA=>⟨hA,hb⟩) h1) fun b _ hb=>h2 b hb
theorem mJ{E:TypeId}{size n:Nat}{v:Value}{xs:List Value}{k:Nat}(h:Own w base E size v n xs)(hk:ownB v=some k):∃c,w.heap[k]?=some (.cells c E (0,0)):=by
 rcases h.2 with⟨_,a,rfl⟩|⟨g,cap,cur,rfl,hc,hb,hg,_⟩;·cases a<;>simp[ownB]at hk
 ·simp only[ownB,BZ.1 hc,if_false,bW]at hk;subst hk;exact⟨cur,hg⟩
theorem az.ty{α:Type}{E:TypeId}{size:Nat}{R:(Nat->Prop)->World->α->List Value->Prop}{A:Nat->Prop}{xs:List α}{v:Value}{k:Nat}(h:az w base E size R A xs v)(hk:ownB v=some k):∃c,w.heap[k]?=some (.cells c E (0,0)):=by obtain⟨vals,_,ho,_⟩:=h;exact mJ ho hk
theorem lG{E E':TypeId}{c c':Array Value}{k:Nat}(h:w.heap[k]?=some (.cells c E (0,0)))(h':w.heap[k]?=some (.cells c' E' (0,0))):E=E':=by rw[h]at h';simp only[bW,Obj.cells.injEq]at h';exact h'.2.1
structure Apart (g mb : Nat) (tv cv ov : Value) : Prop where
  tg : ownB tv ≠ some g
  tm : ownB tv ≠ some mb
  cg : ownB cv ≠ some g
  cm : ownB cv ≠ some mb
  og : ownB ov ≠ some g
  om : ownB ov ≠ some mb
  tc : ∀ b, ownB tv = some b → ownB cv ≠ some b
  too : ∀ b, ownB tv = some b → ownB ov ≠ some b
  co : ∀ b, ownB cv = some b → ownB ov ≠ some b
theorem aR.apart(h:aR base P q g mb xb pv tv cv ov s w):Apart g mb tv cv ov:=by
 obtain⟨L,⟨es,clock,hm,_⟩,_⟩:=h.env;have nm:∀{E:TypeId}{c:Array Value},w.heap[mb]?=some (.cells c E (0,0))->False:=fun h=>by rw[hm]at h;simp at h
 refine⟨fun e=>?_,fun e=>?_,fun e=>?_,fun e=>?_,fun e=>?_,fun e=>?_,fun b e e'=>?_,fun b e e'=>?_,fun b e e'=>?_⟩;·obtain⟨c,hc⟩:=mJ h.trail.1 e;exact absurd (lG hc h.box) (by decide)
 ·obtain⟨c,hc⟩:=mJ h.trail.1 e;exact nm hc
 ·obtain⟨c,hc⟩:=h.bC.ty e;exact absurd (lG hc h.box) (by decide)
 ·obtain⟨c,hc⟩:=h.bC.ty e;exact nm hc
 ·obtain⟨c,hc⟩:=h.out.ty e;exact absurd (lG hc h.box) (by decide)
 ·obtain⟨c,hc⟩:=h.out.ty e;exact nm hc
 ·obtain⟨c,hc⟩:=mJ h.trail.1 e;obtain⟨c',hc'⟩:=h.bC.ty e';exact absurd (lG hc hc') (by decide)
 ·obtain⟨c,hc⟩:=mJ h.trail.1 e;obtain⟨c',hc'⟩:=h.out.ty e';exact absurd (lG hc hc') (by decide)
 ·obtain⟨c,hc⟩:=h.bC.ty e;obtain⟨c',hc'⟩:=h.out.ty e';exact absurd (lG hc hc') (by decide)
def l9(base:Nat)(P:List Cl)(q g mb xb:Nat)(pv tv cv ov:Value)(s':Sv)(w w':World):Prop:=∃tv',aR base P q g mb xb pv tv' cv ov s' w'/\Ch (fun b=>SM g mb tv cv ov b\/b=xb) w w'/\(∀b,ownB tv'=some b->ownB tv=some b\/w.heap.size<=b)
theorem l9.Bh(h:aR base P q g mb xb pv tv cv ov s w')(hc:Ch (fun b=>b=xb) w w'):l9 base P q g mb xb pv tv cv ov s w w':=⟨tv,h,hc.mono fun x _ e=> .inr e,fun b h=> .inl h⟩
theorem l9.trans{s':Sv}{w'':World}(hc:Ch (fun b=>SM g mb tv cv ov b\/b=xb) w w')(ht:∀b,ownB tv'=some b->ownB tv=some b\/w.heap.size<=b)(h:l9 base P q g mb xb pv tv' cv ov s' w' w''):l9 base P q g mb xb pv tv cv ov s' w w'':=by
 obtain⟨XM,h1,h2,h3⟩:=h;refine⟨XM,h1,hc.trans h2 fun x hx=>?_,fun b hb=>?_⟩
 ·rcases hx with(hx|hx|hx|hx|hx)|hx;·exact .inl (.inl (.inl hx))
  ·exact .inl (.inl (.inr (.inl hx)))
  ·rcases ht x hx with h|h;·exact .inl (.inl (.inr (.inr (.inl h))))
   ·exact .inr h
  ·exact .inl (.inl (.inr (.inr (.inr (.inl hx)))))
  ·exact .inl (.inl (.inr (.inr (.inr (.inr hx)))))
  ·exact .inl (.inr hx)
 ·rcases h3 b hb with h4|h4;·exact ht b h4
  ·exact .inr (dm hc.size h4)
def ahz(base:Nat)(P:List Cl)(q g mb xb:Nat)(pv tv cv ov:Value)(s':Sv)(w:World)(e:Ending)(w':World):Prop:=∃r,e= .returned r/\l9 base P q g mb xb pv tv cv ov s' w w'/\(xb≠g->w'.heap[xb]?=w.heap[xb]?)
theorem arF(v:Int)(hv:ah v)(t:Tm)(vs:List Value)(h:aR base P q g mb xb pv tv cv ov s w)(hfree:jf s.env v=none)(hlen:s.env.length+1<=1000000)(ht:Tm.rep (SA g mb xb tv cv ov) w t vs):Calls Tryz.prog 152 #[.pointer (some ⟨g,0,none⟩),.int .i64 v,.agg vs.toArray] w (ahz base P q g mb xb pv tv cv ov {s with env:=s.env++[(v,t)]} w):=by
 have HU:=Y h;have HV:=Y hv;have HT:=Y ht;have HLEN:=Y hlen;have qQ:=Y h.apart;have hgm:=h.XO;obtain⟨a,cap,rfl, -⟩:=Tm.dV ht;obtain⟨pa,pc,ta,tc,ca,cc,oa,oc,rfl,rfl,rfl,rfl, -⟩:=h.vals;obtain⟨hl1,hl2,hl3⟩:=h.lt;obtain⟨b0,b1,b2,b3,b4,b5,b6,b7,bf⟩:=dS h.box;obtain⟨L,hM,hL⟩:=h.env;have hfree':sU L v=none:=by
  rcases hL.get v with⟨_,e⟩|⟨t',_,e,_⟩;·exact e
  ·rw[hfree]at e;cases e
 have HM:=Y hM;have lV:=Y hL;have HFR:=Y hfree';have hcs:=bF;clear h hv ht hM hL hfree hfree' hlen;go_enter Tryz.func152,Tryz.ntmps152;go_wp2_with fail;obtain⟨W,hW⟩:∃W,W=w.alloc (.cells #[.int .i64 t.kind,.int .i64 t.n,.string t.s,.slice a t.args.length cap] 34):=⟨_,rfl⟩;have HX:=Y (show W.heap[w.heap.size]?=some (.cells #[.int .i64 t.kind,.int .i64 t.n,.string t.s,.slice a t.args.length cap] 34 (0,0))by rw[hW];exact bq _ _);have fM:=Y (show Below w.heap.size w W by rw[hW];exact(Z _ _).alloc (zL _) _);have hWs:W.heap.size=w.heap.size+1:=by rw[hW];simp
 have hWl:w.heap.size<W.heap.size:=by omega
 have hWg:g<W.heap.size:=by omega
 have kI:=Y (show J (fun _=>True) w W by rw[hW];exact J.alloc _ _ _);have qA:=Y (HU.o.below fM.o);rw[<-hW];clear hW hWs b0 b1 b2 b3 b4 b5 b6 b7 bf;obtain⟨b0,b1,b2,b3,b4,b5,b6,b7,bf⟩:=dS qA.o.box;obtain⟨x0,x1,x2,x3,xf⟩:=aF HX.o;obtain⟨W1,hput,hm1,il,hsz1⟩:=aoy RQ (HM.o.keeps (kI.o.trans (J.drew _ _)) trivial) HFR.o (.agg #[.int .i64 t.kind,.int .i64 t.n,.string t.s,.slice a t.args.length cap]);have arI:=Y hput;have gK:=Y hm1;have Oz:=Y (show Ch (fun b=>b=mb) W W1 from((Ch.refl _ W).drew).trans il (fun _ h=> .inl h));simp only[dG]at hsz1;have hs1:W.heap.size<=W1.heap.size:=by omega
 clear hput hm1 il hsz1;go_still_tail 6,(by kernel_rfl);change wpList _ _ _ _ _ W.drew;have hput:=arI.o;have bK:=Y ((Oz.o.block g hWg (fun e=>hgm e.symm)).trans qA.o.box);have HT1:=Y (qA.o.trail.kept (w':=W1) fun b hb=>Oz.o.block b (qA.o.trail.lt b hb).2 (fun e=>qQ.o.tm (hb.trans (congrArg some e))));obtain⟨d0,d1,d2,d3,d4,d5,d6,d7,df⟩:=dS bK.o;have aBd:=Y (qA.o.trail.lt);have hg1:g<W1.heap.size:=by omega
 go_wp2_with(at_builtin;go_must(refine ja rfl (.tmp 16) (.tmp 18) 57 rfl base 3 1 8 kC aN (A:=fun _=>True) (.slice ta s.env.length tc) (s.env.map (·.1)) rfl (I.gT eu HT1.o _) v [.int .i64 v] (by rfl) rfl ⟨HV.o,rfl⟩ ⟨by have :=HLEN.o;simp;omega,by omega⟩ ?_);go_must(intro v2 w2 hown aj;obtain⟨aS,aT,hv2,kX,rO⟩:=az.kG hown;rw[show(s.env.map (·.1)++[v]).length=s.env.length+1 by simp]at hv2;subst hv2;have bA:=Y (I.fJ hown);have HG2:=Y aj;have hz2:=aj.size;simp only[bO]at hz2;have hB2:=(aj.grown.block g (by simp;omega) (fun e=>qQ.o.tg e.symm)).trans (aI bK.o _);have HB2:=Y hB2;obtain⟨k0,k1,k2,k3,k4,k5,k6,k7,kf⟩:=dS hB2;clear hown aj hB2));refine Cc (v:= .tuple #[]) (by simp[results,Tryz.results152,go_sem]) rfl ?_;have ho2:=bA.o;have mV:ownB (.slice aS (s.env.length+1) aT)≠some g:=by intro e;obtain⟨c,hc⟩:=mJ ho2.1 e;exact absurd (lG hc HB2.o) (by decide)
 have htb:∀b,ownB (.slice aS (s.env.length+1) aT)=some b->ownB (.slice ta s.env.length tc)=some b\/w.heap.size<=b:=by
  intro b hb;rcases HG2.o.block with h9|h9;·exact .inl (h9.symm.trans hb)
  ·have :=h9 b hb;simp only[bO]at this;exact .inr (by omega)
 have dz:Ch (fun b=>b=g\/b=mb\/ownB (.slice ta s.env.length tc)=some b) w (w2.setCell ⟨g,2,none⟩ (.slice aS (s.env.length+1) aT)):=by refine Ch.setCell (p:=⟨g,2,none⟩) ?_ (.inl (.inl rfl)) _;refine HG2.o.ch (Ch.alloc ?_ _) fun b hb=> .inl (.inr (.inr hb));exact(Ch.of_below (M:=fun b=>b=g\/b=mb\/ownB (.slice ta s.env.length tc)=some b) fM.o).trans Oz.o (fun b hb=> .inl (.inr (.inl hb)))
 have hch:Ch (fun b=>SM g mb (.slice ta s.env.length tc) (.slice ca s.choices.length cc) (.slice oa s.out.length oc) b\/b=xb) w (w2.setCell ⟨g,2,none⟩ (.slice aS (s.env.length+1) aT)):=dz.mono fun b _ hb=> .inl (hb.elim .inl fun e=>e.elim (fun e=> .inr (.inl e)) fun e=> .inr (.inr (.inl e)));have hmid:=Ty (tv':= .slice aS (s.env.length+1) aT) (cv':= .slice ca s.choices.length cc) (gM:= .slice oa s.out.length oc) hch htb (fun b h=> .inl h) (fun b h=> .inl h);have hlb:=HU.o.tF;have hap:=qQ.o;refine⟨_,rfl,⟨.slice aS (s.env.length+1) aT,?_,hch,htb⟩,fun hxg=>dz.block xb HU.o.bxl fun e=>?_⟩;rotate_left
 ·rcases HU.o.nx with h|h;·exact hxg h
  ·exact h (e.elim .inl fun e=>e.elim (fun e=> .inr (.inl e)) fun e=> .inr (.inr (.inl e)))
 obtain⟨h1,h2,h3,h4,h5,h6,h7,h8,h8',AP,h9,h10,h11,h12,dR,CF,AQ,h16⟩:=HU.o;refine⟨(aX HB2.o 2 _).trans rfl,?_,?_,?_,?_,?_,h7,h8,h8',uB AP hch.size,?_,h10,h11,h12,dR,?_,AQ,h16⟩
 ·exact ag.keeps Cl.ae h2 (hch.keeps fun b hb hA e=>by
   rcases e with e|e;·have :=(hlb b e).1;omega
   ·omega)
 ·refine⟨L++[(v,.agg #[.int .i64 t.kind,.int .i64 t.n,.string t.s,.slice a t.args.length cap])],?_,?_⟩;·refine(((gK.o.keeps (J.alloc (fun _=>True) _ _) trivial).keeps (HG2.o.keeps (A:=fun b=>ownB (.slice ta s.env.length tc)≠some b) fun _ h=>h) hap.tm).keeps (J.setCell (fun b=>b≠g) _ _ _ (fun h=>h rfl)) hgm)
  ·exact jE.append (((lV.o.mono (A':=fun b=>SA g mb xb (.slice ta s.env.length tc) (.slice ca s.choices.length cc) (.slice oa s.out.length oc) b/\b<w.heap.size) fun b hb hA=>⟨hA,hb⟩).keeps hmid.1).mono fun b _ hb=>hmid.2 b hb) ⟨⟨rfl,_,rfl,arE Tm.ae HT.o hch htb (fun b h=> .inl h) (fun b h=> .inl h)⟩,trivial⟩
 ·have :=ho2.kept (w':=w2.setCell ⟨g,2,none⟩ (.slice aS (s.env.length+1) aT)) fun b hb=>aW _ _ _ _ (fun e=>mV (hb.trans (congrArg some e)));simpa using this
 ·refine((h5.mono (A':=fun b=>SA g mb xb (.slice ta s.env.length tc) (.slice ca s.choices.length cc) (.slice oa s.out.length oc) b/\b<w.heap.size) pz fun b hb hA=>⟨hA,hb⟩).keeps (B:=fun b=>¬(b=g\/b=mb\/ownB (.slice ta s.env.length tc)=some b)) pz (dz.keeps fun b _ hb=>hb) (fun b hb e=>hb.1.1 ?_) (fun b hb e=>?_)).mono pz fun b _ hb=>hmid.2 b hb;·exact e.elim .inl fun e=>e.elim (fun e=> .inr (.inl e)) fun e=> .inr (.inr (.inl e))
  ·exact e.elim (fun e=>hap.cg (e▸hb)) fun e=>e.elim (fun e=>hap.cm (e▸hb)) fun e=>hap.tc b e hb
 ·refine((h6.mono (A':=fun b=>SA g mb xb (.slice ta s.env.length tc) (.slice ca s.choices.length cc) (.slice oa s.out.length oc) b/\b<w.heap.size) iL fun b hb hA=>⟨hA,hb⟩).keeps (B:=fun b=>¬(b=g\/b=mb\/ownB (.slice ta s.env.length tc)=some b)) iL (dz.keeps fun b _ hb=>hb) (fun b hb e=>hb.1.1 ?_) (fun b hb e=>?_)).mono iL fun b _ hb=>hmid.2 b hb;·exact e.elim .inl fun e=>e.elim (fun e=> .inr (.inl e)) fun e=> .inr (.inr (.inl e))
  ·exact e.elim (fun e=>hap.og (e▸hb)) fun e=>e.elim (fun e=>hap.om (e▸hb)) fun e=>hap.too b e hb
 ·rcases h9 with h9|h9;·exact .inl h9
  ·refine .inr fun e=>?_;rcases e with e|e|e|e|e;·exact h9 (.inl e)
   ·exact h9 (.inr (.inl e))
   ·rcases htb _ e with e|e;·exact h9 (.inr (.inr (.inl e)))
    ·omega
   ·exact h9 (.inr (.inr (.inr (.inl e))))
   ·exact h9 (.inr (.inr (.inr (.inr e))))
 ·have :=HLEN.o;simp;omega
end
noncomputable def OA(k:Nat)(E:Env)(x y:Tm):US:=if x.kind=0/\y.kind=0 then(if x.n=y.n then⟨true,E,k⟩else⟨true,E++[(max x.n y.n,fK (min x.n y.n))],k⟩)else if x.kind=0\/y.kind=0 then let v:=if y.kind=0 then y.n else x.n;let z:=if y.kind=0 then x else y;let p:=dh E v k [z];if p.1=true\/p.2<0 then⟨false,E,p.2⟩else⟨true,E++[(v,z)],((min k p.2.toNat:Nat):Int)⟩else if ¬(x.kind=y.kind/\x.n=y.n/\x.s=y.s/\x.args.length=y.args.length)then⟨false,E,k⟩else aO k (x.args.zip y.args) E
theorem arJ(k:Nat)(a b:Tm)(E:Env):aO (k+1) [(a,b)] E=OA k E (ai E a) (ai E b):=by rw[aO];simp only[Cu,sG];rfl
def arK(base:Nat)(P:List Cl)(q g mb xb:Nat)(pv tv cv ov:Value)(s:Sv)(w:World)(u:US)(e:Ending)(w':World):Prop:=e= .returned (.bool u.ok)/\l9 base P q g mb xb pv tv cv ov {s with env:=u.env} w w'/\fA xb u.work w'
def Tz(base:Nat)(P:List Cl)(q g mb xb:Nat)(pv cv ov:Value)(N:Int)(k:Nat):Prop:=∀(tv:Value)(s:Sv)(a b:Tm)(w:World)(us vs:List Value),aR base P q g mb xb pv tv cv ov s w->fA xb k w->cu N s.env->a.In N->b.In N->Tm.rep (SA g mb xb tv cv ov) w a us->Tm.rep (SA g mb xb tv cv ov) w b vs->s.env.length+k<=1000000->Calls Tryz.prog 129 #[.pointer (some ⟨g,0,none⟩),.agg us.toArray,.agg vs.toArray,.pointer (some ⟨xb,0,none⟩)] w (arK base P q g mb xb pv tv cv ov s w (aO k [(a,b)] s.env))
theorem Zj{s s':ByteArray}(h:¬s=s'):¬s.toList=s'.toList:=by intro e;rw[Me,Me]at e;apply h;cases s;cases s';simp only[ByteArray.mk.injEq];exact anh.1 e
theorem aR.ahA{base:Nat}{P:List Cl}{q g mb xb:Nat}{pv tv cv ov:Value}{s:Sv}{w:World}(h:aR base P q g mb xb pv tv cv ov s w){c:Array Value}{k:Nat}(hk:w.heap[k]?=some (.cells c 34 (0,0))):¬SM g mb tv cv ov k:=by
 rintro(e|e|e|e|e);·subst e;exact absurd (lG hk h.box) (by decide)
 ·subst e;obtain⟨L,⟨es,clock,hm,_⟩,_⟩:=h.env;rw[hm]at hk;simp at hk
 ·obtain⟨c',hc⟩:=mJ h.trail.1 e;exact absurd (lG hk hc) (by decide)
 ·obtain⟨c',hc⟩:=h.bC.ty e;exact absurd (lG hk hc) (by decide)
 ·obtain⟨c',hc⟩:=h.out.ty e;exact absurd (lG hk hc) (by decide)
section
variable {base : Nat} {P : List Cl} {q g mb xb : Nat} {pv cv ov : Value} {N : Int}
theorem arL(hx:xb≠g):Tz base P q g mb xb pv cv ov N 0:=by intro tv s a b w us vs h hw hE ha hb hva hvb hlen;obtain⟨aa,mg,rfl, -⟩:=Tm.dV hva;obtain⟨ba,gN,rfl, -⟩:=Tm.dV hvb;obtain⟨x0,xf,xl⟩:=hw.cell;have HW:=Y hw;have HU:=Y h;have hcs:=bF;rw[show((0:Nat):Int)=0 from rfl]at x0;clear hva hvb ha hb h hw hE hlen;go_enter Tryz.func129,Tryz.ntmps129;go_wp2_with fail;go_ret;rw[Jz];have hc:Ch (fun b=>b=xb) w (((w.setCell ⟨xb,0,none⟩ (.int .i64 (-1))).alloc (.cells #[.int .i64 a.kind,.int .i64 a.n,.string a.s,.slice aa a.args.length mg] 34)).alloc (.cells #[.int .i64 b.kind,.int .i64 b.n,.string b.s,.slice ba b.args.length gN] 34)):=((Kv _ _ _ _).alloc _).alloc _;exact⟨rfl,l9.Bh (HU.o.ch hx hc) hc,aI (aI (HW.o.set (k':= -1)) _) _⟩
theorem arM(hx:xb≠g)(k:Nat)(hk4:k<=400)(ih:∀m,m<=k->Tz base P q g mb xb pv cv ov N m):Tz base P q g mb xb pv cv ov N (k+1):=by
 intro tv s a b w us vs h hw hE ha hb hva hvb hlen;have HU:=Y h;have HE:=Y hE;have wh:=Y ha;have Cw:=Y hb;have IH:=Y ih;have HX:=Y hx;have HLEN:=Y hlen;obtain⟨aa,mg,rfl, -⟩:=Tm.dV hva;obtain⟨ba,gN,rfl, -⟩:=Tm.dV hvb;obtain⟨A,hA⟩:∃A:Nat->Prop,A=fun b=>SA g mb xb tv cv ov b/\b<w.heap.size:=⟨_,rfl⟩;have HA:=Y (show ∀b,A b->SA g mb xb tv cv ov b/\b<w.heap.size by rw[hA];exact fun b h=>h);have arN:=Y (show Tm.rep A w a _ by rw[hA];exact Tm.ae.2.1 _ _ _ _ _ hva fun b hb h=>⟨h,hb⟩);have arO:=Y (show Tm.rep A w b _ by rw[hA];exact Tm.ae.2.1 _ _ _ _ _ hvb fun b hb h=>⟨h,hb⟩);have arP:=Y (show GN A w mb s.env by rw[hA];exact h.Nk);obtain⟨x0,xf,xl⟩:=hw.cell;have HW:=Y hw;have hcs:=bF;obtain⟨hl1,hl2,hl3⟩:=h.lt;have hk0:(0:Int)<=(k:Int):=zN _;have RO:(k:Int)<=400:=by omega
 rw[show((k+1:Nat):Int)=(k:Int)+1 by omega]at x0;have xO:=Y (arJ k a b s.env);have tV:=Y (oZ HE.o wh.o);have tX:=Y (oZ HE.o Cw.o);have Dj:=Y (Rz HE.o wh.o);have HYS:=Y (Rz HE.o Cw.o);have Zk:=Y (Gx HE.o wh.o);have Zl:=Y (Gx HE.o Cw.o);clear h hE ha hb hva hvb hw ih hA hlen;go_enter Tryz.func129,Tryz.ntmps129;go_wp2_with fail;obtain⟨W0,hW0⟩:∃W0,W0=((w.setCell ⟨xb,0,none⟩ (.int .i64 (k:Int))).alloc (.cells #[.int .i64 a.kind,.int .i64 a.n,.string a.s,.slice aa a.args.length mg] 34)).alloc (.cells #[.int .i64 b.kind,.int .i64 b.n,.string b.s,.slice ba b.args.length gN] 34):=⟨_,rfl⟩;have EX:=Y (show Ch (fun b=>b=xb) w W0 by rw[hW0];exact((Kv _ _ _ _).alloc _).alloc _);have TA:=Y (show W0.heap[w.heap.size]?=some (.cells #[.int .i64 a.kind,.int .i64 a.n,.string a.s,.slice aa a.args.length mg] 34 (0,0))by rw[hW0];have :=(mi (w.setCell ⟨xb,0,none⟩ (.int .i64 (k:Int))) (.cells #[.int .i64 a.kind,.int .i64 a.n,.string a.s,.slice aa a.args.length mg] 34) (.cells #[.int .i64 b.kind,.int .i64 b.n,.string b.s,.slice ba b.args.length gN] 34)).1;simpa using this);have TB:=Y (show W0.heap[w.heap.size+1]?=some (.cells #[.int .i64 b.kind,.int .i64 b.n,.string b.s,.slice ba b.args.length gN] 34 (0,0))by rw[hW0];have :=(mi (w.setCell ⟨xb,0,none⟩ (.int .i64 (k:Int))) (.cells #[.int .i64 a.kind,.int .i64 a.n,.string a.s,.slice aa a.args.length mg] 34) (.cells #[.int .i64 b.kind,.int .i64 b.n,.string b.s,.slice ba b.args.length gN] 34)).2;simpa using this);have Kk:=Y (show fA xb k W0 by rw[hW0];exact aI (aI (HW.o.set (k':=(k:Int))) _) _);have aBe:w.heap.size+2<=W0.heap.size:=by rw[hW0];simp
 have qA:=Y (HU.o.ch HX.o EX.o);have kI:=Y (EX.o.keeps (A:=fun b=>b≠xb) fun b _ hb e=>hb e);have OB:=Y (Tm.ae.1 _ _ _ _ _ arN.o (kI.o.mono fun b _ hb=>(HA.o b hb).1.2));have Ns:=Y (Tm.ae.1 _ _ _ _ _ arO.o (kI.o.mono fun b _ hb=>(HA.o b hb).1.2));have ahB:=Y (arP.o.keeps kI.o (fun b hb=>(HA.o b hb).1.2) (fun e=>by
  rcases HU.o.nx with h|h;·exact HX.o h
  ·exact h (e▸ .inr (.inl rfl))));rw[<-hW0];have eT:Hd (∀w',Below W0.heap.size W0 w'->w'.cell? ⟨w.heap.size,0,none⟩=some (.int .i64 a.kind)/\w'.cell? ⟨w.heap.size,1,none⟩=some (.int .i64 a.n)/\w'.cell? ⟨w.heap.size,2,none⟩=some (.string a.s)/\w'.cell? ⟨w.heap.size,3,none⟩=some (.slice aa a.args.length mg)/\w'.cell? ⟨w.heap.size+1,0,none⟩=some (.int .i64 b.kind)/\w'.cell? ⟨w.heap.size+1,1,none⟩=some (.int .i64 b.n)/\w'.cell? ⟨w.heap.size+1,2,none⟩=some (.string b.s)/\w'.cell? ⟨w.heap.size+1,3,none⟩=some (.slice ba b.args.length gN)):=Y fun w' hb=>by obtain⟨z0,z1,z2,z3, -⟩:=aF (aA TA.o hb);obtain⟨y0,y1,y2,y3, -⟩:=aF (aA TB.o hb);exact⟨z0,z1,z2,z3,y0,y1,y2,y3⟩
 clear x0 xf hW0;obtain⟨x,qB⟩:∃x,x=ai s.env a:=⟨_,rfl⟩;obtain⟨y,Zm⟩:∃y,y=ai s.env b:=⟨_,rfl⟩;rw[<-qB]at xO tV Dj Zk;rw[<-Zm]at xO tX HYS Zl;have uW:=Y qB;have HYY:=Y Zm;clear qB Zm;refine jd (F:=fun k w'=>(k=1->w'.heap[w.heap.size]?=some (.cells #[.int .i64 a.kind,.int .i64 a.n,.string a.s,.slice aa a.args.length mg] 34 (0,0)))/\(k=4->w'.heap[w.heap.size+1]?=some (.cells #[.int .i64 b.kind,.int .i64 b.n,.string b.s,.slice ba b.args.length gN] 34 (0,0)))) (by kernel_rfl) ?_;have HF:∀k,(k=1->W0.drew.heap[w.heap.size]?=some (.cells #[.int .i64 a.kind,.int .i64 a.n,.string a.s,.slice aa a.args.length mg] 34 (0,0)))/\(k=4->W0.drew.heap[w.heap.size+1]?=some (.cells #[.int .i64 b.kind,.int .i64 b.n,.string b.s,.slice ba b.args.length gN] 34 (0,0))):=fun k=>⟨fun _=>TA.o,fun _=>TB.o⟩;refine zT 0 (HF 0) ?_;try simp only[U]
 refine zY (v:= .agg #[.int .i64 a.kind,.int .i64 a.n,.string a.s,.slice aa a.args.length mg]) 1 (HF 1) ?_ (z:=by intro w' hw;obtain⟨q0,q1,q2,q3, -⟩:=aF (hw.1 rfl);clear hw;go_simp);try simp only[U]
 refine zT 3 (HF 3) ?_;try simp only[U]
 refine zY (v:= .agg #[.int .i64 b.kind,.int .i64 b.n,.string b.s,.slice ba b.args.length gN]) 4 (HF 4) ?_ (z:=by intro w' hw;obtain⟨q0,q1,q2,q3, -⟩:=aF (hw.2 rfl);clear hw;go_simp);try simp only[U]
 refine zO 2 ?_;go_simp;refine(EU a A _ _ (qA.o.below ((Z _ _).drew)) HE.o wh.o (ahB.o.keeps (J.drew (fun _=>True) _) (fun _ _=>trivial) trivial) (Tm.ae.1 _ _ _ _ _ OB.o (J.drew _ _))).mono ?_;rintro e w1⟨r,rfl,hb1,hr1⟩;rw[<-uW.o]at hr1;obtain⟨us,rfl,hr2⟩:=hr1;have HB1:=Y (show Below W0.heap.size W0 w1 from((gQ _ W0).drew).trans hb1);have ahD:=Y hr2;obtain⟨xa,xc,rfl, -, -, -,ahw,Oy,ahx, -⟩:=Tm.dV hr2;have TC:=Y (aA TA.o HB1.o);have ahE:=Y (aA TB.o HB1.o);clear hb1 hr2;refine⟨fun k _ _=>⟨fun _=>TC.o,fun _=>ahE.o⟩,?_⟩;refine zO 5 ?_;go_simp;refine(EU b A _ _ (qA.o.below HB1.o) HE.o Cw.o (ahB.o.keeps (J.ob (A:=fun _=>True) HB1.o) (fun _ _=>trivial) trivial) (Tm.ae.1 _ _ _ _ _ Ns.o (J.ob HB1.o))).mono ?_;rintro e ww⟨r,rfl,hb2,hr1⟩;rw[<-HYY.o]at hr1;obtain⟨us',rfl,C8⟩:=hr1;have hinv:Below W0.heap.size W0 ww:=HB1.o.trans (hb2.mono HB1.o.size);have RU:=Y (Tm.ae.1 _ _ _ _ _ ahD.o (J.ob hb2));have HRY:=Y C8;obtain⟨ya,yc,rfl, -, -, -,ahG,arR,aBg, -⟩:=Tm.dV C8;have mK:=Y (aA TA.o hinv);have kK:=Y (aA TB.o hinv);have OC:=Y (show fA xb k ww from aA Kk.o hinv);have HUV:=Y (qA.o.below hinv);have sV:=Y (EX.o.tb hinv);have hz:=hinv.size;obtain⟨x0,x1,x2,x3,xf⟩:=aF mK.o;obtain⟨y0,y1,y2,y3,yf⟩:=aF kK.o;have M9:w.heap.size+1<ww.heap.size:=by omega
 have aBh:w.heap.size<ww.heap.size:=by omega
 clear C8 hinv hb2;refine⟨fun k _ _=>⟨fun _=>mK.o,fun _=>kK.o⟩,?_⟩;refine zO 6 ?_;go_simp;refine⟨fun k hk _=>⟨fun h=>absurd (hk.symm.trans (by subst h;kernel_rfl:waits _ 6 k=true)) (by decide),fun _=>(AR _ _ _ _ _ _ _ (by omega)).trans kK.o⟩,?_⟩;refine zO 7 ?_;go_simp;refine⟨fun k hk _=>⟨fun h=>absurd (hk.symm.trans (by subst h;kernel_rfl:waits _ 7 k=true)) (by decide),fun h=>absurd (hk.symm.trans (by subst h;kernel_rfl:waits _ 7 k=true)) (by decide)⟩,?_⟩;refine zQ ?_;generalize hW3:((((((((ww.setCell ⟨w.heap.size,0,none⟩ (.int .i64 x.kind)).setCell ⟨w.heap.size,1,none⟩ (.int .i64 x.n)).setCell ⟨w.heap.size,2,none⟩ (.string x.s)).setCell ⟨w.heap.size,3,none⟩ (.slice xa x.args.length xc)).setCell ⟨w.heap.size+1,0,none⟩ (.int .i64 y.kind)).setCell ⟨w.heap.size+1,1,none⟩ (.int .i64 y.n)).setCell ⟨w.heap.size+1,2,none⟩ (.string y.s)).setCell ⟨w.heap.size+1,3,none⟩ (.slice ya y.args.length yc))=w3;have hk3:J (fun b=>b≠w.heap.size/\b≠w.heap.size+1) ww w3:=by subst hW3;exact(CG _ _ (fun h=>h.1 rfl) _ _ _ _).trans (CG _ _ (fun h=>h.2 rfl) _ _ _ _)
 have bH:=Y (show w3.heap[w.heap.size]?=some (.cells #[.int .i64 x.kind,.int .i64 x.n,.string x.s,.slice xa x.args.length xc] 34 (0,0))by subst hW3;exact(AR _ _ _ _ _ _ _ (by omega)).trans (yQ mK.o));have gz:=Y (show w3.heap[w.heap.size+1]?=some (.cells #[.int .i64 y.kind,.int .i64 y.n,.string y.s,.slice ya y.args.length yc] 34 (0,0))by subst hW3;exact yQ ((AR _ _ _ _ _ _ _ (by omega)).trans kK.o));have eY:=Y (show Ch (fun b=>b=xb) w w3 by subst hW3;exact RS (RS sV.o (.inr (zL _)) _ _ _ _) (.inr (by omega)) _ _ _ _);have HW3:=Y (show fA xb k w3 from bJ OC.o hk3 (by omega));have pq:=Y (HU.o.ch HX.o eY.o);have EK:=Y (hk3.mono (A':=A) fun b _ hb=>by have :=(HA.o b hb).2;omega);have TD:=Y (Tm.ae.1 _ _ _ _ _ RU.o EK.o);have Zn:=Y (Tm.ae.1 _ _ _ _ _ HRY.o EK.o);have hz3:=hk3.size;have hzz:w.heap.size+1<w3.heap.size:=by omega
 have aBi:w.heap.size<w3.heap.size:=by omega
 clear x0 x1 x2 x3 xf y0 y1 y2 y3 yf hW3 hk3;obtain⟨TE,c51,c52,c53,c5f⟩:=aF bH.o;obtain⟨OD,TF,Zo,Zp,c6f⟩:=aF gz.o;obtain⟨k0,kf,kl⟩:=HW3.o.cell;have EY:ah x.n:=by obtain⟨_,_,_,_,h,_⟩:=Tm.dV TD.o;exact h
 have hyn:ah y.n:=by obtain⟨_,_,_,_,h,_⟩:=Tm.dV Zn.o;exact h
 have TG:=Y EY;have TH:=Y hyn;have hne0:xb≠w.heap.size:=by omega
 have hne1:xb≠w.heap.size+1:=by omega
 have HSX:=Y (Tm.ae.2.1 _ (SA g mb xb tv cv ov) _ _ _ TD.o fun b _ hb=>(HA.o b hb).1);have HSY:=Y (Tm.ae.2.1 _ (SA g mb xb tv cv ov) _ _ _ Zn.o fun b _ hb=>(HA.o b hb).1);have hvar:∀(n:Int)(W:World),ah n->Tm.rep (SA g mb xb tv cv ov) W (fK n) [.int .i64 0,.int .i64 n,.string ⟨#[]⟩,.slice none 0 0]:=fun n W hn=>by show Tm.rep _ _ (.mk 0 n .empty []) [.int .i64 0,.int .i64 n,.string .empty,.slice none 0 0];rw[Tm.jv];exact⟨by unfold ah;omega,hn,by simp,_,rfl,ag.nil ..⟩
 have ahL:=Y hvar;have hstep:∀{s':Sv}{w6:World},l9 base P q g mb xb pv tv cv ov s' w3 w6->l9 base P q g mb xb pv tv cv ov s' w w6:=fun h=>l9.trans (eY.o.mono fun x _ e=> .inr e) (fun b h=> .inl h) h;have kL:=@hstep;clear EY hyn hvar hstep mK kK OC HUV sV RU HRY ahD HB1 TC ahE uW HYY EK HF;have hlen':s.env.length+1<=1000000:=by have :=HLEN.o;omega
 have uS:=Y hlen';clear hlen';have rT:∀(v:Int)(z:Tm)(zs:List Value)(W:World),ah v->aR base P q g mb xb pv tv cv ov s W->jf s.env v=none->Tm.rep (SA g mb xb tv cv ov) W z zs->Calls Tryz.prog 152 #[.pointer (some ⟨g,0,none⟩),.int .i64 v,.agg zs.toArray] W (ahz base P q g mb xb pv tv cv ov {s with env:=s.env++[(v,z)]} W):=fun v z zs W h1 h2 h3 h4=>arF v h1 z zs h2 h3 uS.o h4;have Ib:=Y rT;clear rT;by_cases hk:x.kind=0
 ·by_cases hk2:y.kind=0
  ·have HR:=Y (show aO (k+1) [(a,b)] s.env=if x.n=y.n then⟨true,s.env,k⟩else⟨true,s.env++[(max x.n y.n,fK (min x.n y.n))],k⟩by rw[xO.o,OA,G ⟨hk,hk2⟩]);have Zq:=Y (Zk.o hk);have Zr:=Y (Zl.o hk2);rw[hk]at TE;rw[hk2]at OD;clear hk hk2 xO;rcases adJ x.n y.n with hxy|hxy|hxy
   ·have hxy':(x.n != y.n)=true:=by simp;omega
    have hm1:max x.n y.n=y.n:=by omega
    have hm2:min x.n y.n=x.n:=by omega
    have hres:=Y (show aO (k+1) [(a,b)] s.env=⟨true,s.env++[(y.n,fK x.n)],k⟩by rw[HR.o,O (by omega),hm1,hm2]);go_wp2_with fail;refine(Ib.o y.n (fK x.n) [_,_,_,_] w3 TH.o pq.o Zr.o (ahL.o x.n w3 TG.o)).mono ?_;rintro e w6⟨r,rfl,hst,zn⟩;have HST:=Y hst;have Ii:=Y (show fA xb k w6 from(zn HX.o).trans HW3.o);clear hst zn k0 kf;go_wp2_with fail;go_ret;rw[hres.o];exact⟨rfl,kL HST.o,Ii.o⟩
   ·rw[<-hxy]at TF;have hres:=Y (show aO (k+1) [(a,b)] s.env=⟨true,s.env,k⟩by rw[HR.o,G hxy]);clear hxy;go_wp2_with fail;go_ret;rw[hres.o];exact⟨rfl,l9.Bh pq.o eY.o,HW3.o⟩
   ·have hxy':(x.n != y.n)=true:=by simp;omega
    have hm1:max x.n y.n=x.n:=by omega
    have hm2:min x.n y.n=y.n:=by omega
    have hres:=Y (show aO (k+1) [(a,b)] s.env=⟨true,s.env++[(x.n,fK y.n)],k⟩by rw[HR.o,O (by omega),hm1,hm2]);go_wp2_with fail;refine(Ib.o x.n (fK y.n) [_,_,_,_] w3 TG.o pq.o Zq.o (ahL.o y.n w3 TH.o)).mono ?_;rintro e w6⟨r,rfl,hst,zn⟩;have HST:=Y hst;have Ii:=Y (show fA xb k w6 from(zn HX.o).trans HW3.o);clear hst zn k0 kf;go_wp2_with fail;go_ret;rw[hres.o];exact⟨rfl,kL HST.o,Ii.o⟩
  ·have wE:(y.kind==0)=false:=by simpa using hk2
   have HR:=Y (show aO (k+1) [(a,b)] s.env=(if(dh s.env x.n k [y]).1=true\/(dh s.env x.n k [y]).2<0 then⟨false,s.env,(dh s.env x.n k [y]).2⟩else⟨true,s.env++[(x.n,y)],((min k (dh s.env x.n k [y]).2.toNat:Nat):Int)⟩)by rw[xO.o,OA,O (fun h=>hk2 h.2),G (.inl hk)];simp only[O hk2]);have Zq:=Y (Zk.o hk);have TI:=Y (show w3.heap[w.heap.size]?=some (.cells #[.int .i64 0,.int .i64 x.n,.string x.s,.slice xa x.args.length xc] 34 (0,0))by rw[<-hk];exact bH.o);have TJ:=Y gz.o;rw[hk]at TE;clear hk hk2 xO bH gz;go_wp2_with fail;refine(ahy x.n TG.o HX.o HE.o k hk4 y w3 _ pq.o HW3.o tX.o HSY.o).mono ?_;rintro e w5⟨rfl,dw,zk⟩;have fF:=Y (eY.o.trans dw (fun _ h=> .inl h));have zm:=Y zk;have fE:=Y (HU.o.ch HX.o fF.o);have hsz5:=dw.size;have AX:=Y (Tm.ae.1 _ _ _ _ _ HSY.o (dw.keeps (A:=SA g mb xb tv cv ov) fun b _ hb e=>hb.2 e));have OE:=Y (show w5.heap[w.heap.size]?=_ from(dw.block _ (by omega) (fun e=>hne0 e.symm)).trans TI.o);have Zt:=Y (show w5.heap[w.heap.size+1]?=_ from(dw.block _ (by omega) (fun e=>hne1 e.symm)).trans TJ.o);obtain⟨d50,d51,d52,d53,d5f⟩:=aF OE.o;obtain⟨d60,d61,d62,d63,d6f⟩:=aF Zt.o;obtain⟨r0,rf,rl⟩:=zk.cell;have qP:=Jy s.env x.n k [y];have mE:=M8 s.env x.n k [y];generalize dh s.env x.n k [y]=p at*;obtain⟨pf,pw⟩:=p;simp only at qP mE r0;obtain⟨hp1,hp2⟩:=qP;have yO:=Y mE;clear dw zk mE TE c51 c52 c53 c5f OD TF Zo Zp c6f k0 kf;cases pf with
    |true=>have hpw:0<=pw:=yO.o rfl;have hres:=Y (show aO (k+1) [(a,b)] s.env=⟨false,s.env,pw⟩by rw[HR.o,G (.inl rfl)]);go_wp2_with fail;go_ret;rw[hres.o];exact⟨rfl,l9.Bh fE.o fF.o,zm.o⟩
    |false=>
     by_cases hpw:pw<0;·have hres:=Y (show aO (k+1) [(a,b)] s.env=⟨false,s.env,pw⟩by rw[HR.o,G (.inr hpw)]);go_wp2_with fail;go_ret;rw[hres.o];exact⟨rfl,l9.Bh fE.o fF.o,zm.o⟩
     ·obtain⟨pm,rfl⟩:=dH (show 0<=pw by omega);have hres:=Y (show aO (k+1) [(a,b)] s.env=⟨true,s.env++[(x.n,y)],(pm:Int)⟩by rw[HR.o,O (by simp),show min k (pm:Int).toNat=pm by simp;omega]);go_wp2_with fail;refine(Ib.o x.n y [_,_,_,_] w5 TG.o fE.o Zq.o AX.o).mono ?_;rintro e w6⟨r,rfl,hst,zn⟩;have HST:=Y (l9.trans (fF.o.mono fun x _ e=> .inr e) (fun b h=> .inl h) hst);have Ii:=Y (show fA xb pm w6 from(zn HX.o).trans zm.o);clear hst zn r0 rf;go_wp2_with fail;go_ret;rw[hres.o];exact⟨rfl,HST.o,Ii.o⟩
 ·have hk':(x.kind==0)=false:=by simpa using hk
  by_cases hk2:y.kind=0
  ·have HR:=Y (show aO (k+1) [(a,b)] s.env=(if(dh s.env y.n k [x]).1=true\/(dh s.env y.n k [x]).2<0 then⟨false,s.env,(dh s.env y.n k [x]).2⟩else⟨true,s.env++[(y.n,x)],((min k (dh s.env y.n k [x]).2.toNat:Nat):Int)⟩)by rw[xO.o,OA,O (fun h=>hk h.1),G (.inr hk2)];simp only[G hk2]);have Zr:=Y (Zl.o hk2);rw[hk2]at OD;have Gt:=Y hk2;clear hk hk2 xO;go_wp2_with fail;generalize qX:((((((((w3.setCell ⟨w.heap.size,0,none⟩ (.int .i64 0)).setCell ⟨w.heap.size,1,none⟩ (.int .i64 y.n)).setCell ⟨w.heap.size,2,none⟩ (.string y.s)).setCell ⟨w.heap.size,3,none⟩ (.slice ya y.args.length yc)).setCell ⟨w.heap.size+1,0,none⟩ (.int .i64 x.kind)).setCell ⟨w.heap.size+1,1,none⟩ (.int .i64 x.n)).setCell ⟨w.heap.size+1,2,none⟩ (.string x.s)).setCell ⟨w.heap.size+1,3,none⟩ (.slice xa x.args.length xc))=w4;have TK:J (fun b=>b≠w.heap.size/\b≠w.heap.size+1) w3 w4:=by subst qX;exact(CG _ _ (fun h=>h.1 rfl) _ _ _ _).trans (CG _ _ (fun h=>h.2 rfl) _ _ _ _)
   have TI:=Y (show w4.heap[w.heap.size]?=some (.cells #[.int .i64 0,.int .i64 y.n,.string y.s,.slice ya y.args.length yc] 34 (0,0))by subst qX;exact(AR _ _ _ _ _ _ _ (by omega)).trans (yQ bH.o));have TJ:=Y (show w4.heap[w.heap.size+1]?=some (.cells #[.int .i64 x.kind,.int .i64 x.n,.string x.s,.slice xa x.args.length xc] 34 (0,0))by subst qX;exact yQ ((AR _ _ _ _ _ _ _ (by omega)).trans gz.o));have iA:=Y (show Ch (fun b=>b=xb) w w4 by subst qX;exact RS (RS eY.o (.inr (zL _)) _ _ _ _) (.inr (by omega)) _ _ _ _);have EW:=Y (show fA xb k w4 from bJ HW3.o TK (by omega));have nY:=Y (HU.o.ch HX.o iA.o);have TL:=Y (Tm.ae.2.1 _ (SA g mb xb tv cv ov) _ _ _ (Tm.ae.1 _ _ _ _ _ TD.o (TK.mono (A':=A) fun b _ hb=>by have :=(HA.o b hb).2;omega)) fun b _ hb=>(HA.o b hb).1);obtain⟨e50,e51,e52,e53,e5f⟩:=aF TI.o;obtain⟨e60,e61,e62,e63,e6f⟩:=aF TJ.o;obtain⟨l0,lf,ll⟩:=EW.o.cell;have lQ:=TK.size;clear qX TK TE c51 c52 c53 c5f OD TF Zo Zp c6f k0 kf kl;go_wp2_with fail;refine(ahy y.n TH.o HX.o HE.o k hk4 x w4 _ nY.o EW.o tV.o TL.o).mono ?_;rintro e w5⟨rfl,dw,zk⟩;have fF:=Y (iA.o.trans dw (fun _ h=> .inl h));have zm:=Y zk;have fE:=Y (HU.o.ch HX.o fF.o);have hsz5:=dw.size;have AX:=Y (Tm.ae.1 _ _ _ _ _ TL.o (dw.keeps (A:=SA g mb xb tv cv ov) fun b _ hb e=>hb.2 e));have OE:=Y (show w5.heap[w.heap.size]?=_ from(dw.block _ (by omega) (fun e=>hne0 e.symm)).trans TI.o);have Zt:=Y (show w5.heap[w.heap.size+1]?=_ from(dw.block _ (by omega) (fun e=>hne1 e.symm)).trans TJ.o);obtain⟨d50,d51,d52,d53,d5f⟩:=aF OE.o;obtain⟨d60,d61,d62,d63,d6f⟩:=aF Zt.o;obtain⟨r0,rf,rl⟩:=zk.cell;have qP:=Jy s.env y.n k [x];have mE:=M8 s.env y.n k [x];generalize dh s.env y.n k [x]=p at*;obtain⟨pf,pw⟩:=p;simp only at qP mE r0;obtain⟨hp1,hp2⟩:=qP;have yO:=Y mE;clear dw zk mE e50 e51 e52 e53 e5f e60 e61 e62 e63 e6f l0 lf;cases pf with
    |true=>have hpw:0<=pw:=yO.o rfl;have hres:=Y (show aO (k+1) [(a,b)] s.env=⟨false,s.env,pw⟩by rw[HR.o,G (.inl rfl)]);go_wp2_with fail;go_ret;rw[hres.o];exact⟨rfl,l9.Bh fE.o fF.o,zm.o⟩
    |false=>
     by_cases hpw:pw<0;·have hres:=Y (show aO (k+1) [(a,b)] s.env=⟨false,s.env,pw⟩by rw[HR.o,G (.inr hpw)]);go_wp2_with fail;go_ret;rw[hres.o];exact⟨rfl,l9.Bh fE.o fF.o,zm.o⟩
     ·obtain⟨pm,rfl⟩:=dH (show 0<=pw by omega);have hres:=Y (show aO (k+1) [(a,b)] s.env=⟨true,s.env++[(y.n,x)],(pm:Int)⟩by rw[HR.o,O (by simp),show min k (pm:Int).toNat=pm by simp;omega]);go_wp2_with fail;refine(Ib.o y.n x [_,_,_,_] w5 TH.o fE.o Zr.o AX.o).mono ?_;rintro e w6⟨r,rfl,hst,zn⟩;have HST:=Y (l9.trans (fF.o.mono fun x _ e=> .inr e) (fun b h=> .inl h) hst);have Ii:=Y (show fA xb pm w6 from(zn HX.o).trans zm.o);clear hst zn r0 rf;go_wp2_with fail;go_ret;rw[hres.o];exact⟨rfl,HST.o,Ii.o⟩
  ·have wE:(y.kind==0)=false:=by simpa using hk2
   have HR:=Y (show aO (k+1) [(a,b)] s.env=if ¬(x.kind=y.kind/\x.n=y.n/\x.s=y.s/\x.args.length=y.args.length)then⟨false,s.env,k⟩else aO k (x.args.zip y.args) s.env by rw[xO.o,OA,O (fun h=>hk h.1),O (fun h=>h.elim hk hk2)]);clear hk hk2 xO;by_cases e1:x.kind=y.kind;rotate_left
   ·have hres:=Y (show aO (k+1) [(a,b)] s.env=⟨false,s.env,k⟩by rw[HR.o,G (fun h=>e1 h.1)]);have Kw:(x.kind != y.kind)=true:=by simpa using e1
    clear e1;go_wp2_with fail;go_ret;rw[hres.o];exact⟨rfl,l9.Bh pq.o eY.o,HW3.o⟩
   rw[<-e1]at OD;have E1:=Y e1;clear e1 wE;by_cases e2:x.n=y.n;rotate_left
   ·have hres:=Y (show aO (k+1) [(a,b)] s.env=⟨false,s.env,k⟩by rw[HR.o,G (fun h=>e2 h.2.1)]);have e2':(x.n != y.n)=true:=by simpa using e2
    clear e2;go_wp2_with fail;go_ret;rw[hres.o];exact⟨rfl,l9.Bh pq.o eY.o,HW3.o⟩
   rw[<-e2]at TF;have E2:=Y e2;clear e2;by_cases e3:x.s=y.s;rotate_left;·have hres:=Y (show aO (k+1) [(a,b)] s.env=⟨false,s.env,k⟩by rw[HR.o,G (fun h=>e3 h.2.2.1)]);have e3':=Zj e3;clear e3;go_wp2_with fail;go_ret;rw[hres.o];exact⟨rfl,l9.Bh pq.o eY.o,HW3.o⟩
   rw[<-e3]at Zo;have E3:=Y e3;clear e3;by_cases e4:x.args.length=y.args.length;rotate_left
   ·have hres:=Y (show aO (k+1) [(a,b)] s.env=⟨false,s.env,k⟩by rw[HR.o,G (fun h=>e4 h.2.2.2)]);have e4':((x.args.length:Int)!= (y.args.length:Int))=true:=by simp;omega
    clear e4;go_wp2_with fail;go_ret;rw[hres.o];exact⟨rfl,l9.Bh pq.o eY.o,HW3.o⟩
   have oG:=Y (show aO (k+1) [(a,b)] s.env=aO k (x.args.zip y.args) s.env by rw[HR.o,O (by simp[E1.out,E2.out,E3.out,e4])]);have sW:=Y (show iN A w3 x.args (.slice xa x.args.length xc)by obtain⟨_,_,e, -, -, -, -, -, -,h⟩:=Tm.dV TD.o;simp only[sF,cK,mP,dx]at e;obtain⟨rfl,rfl⟩:=e;exact h);have HAY:=Y (show iN A w3 y.args (.slice ya y.args.length yc)by obtain⟨_,_,e, -, -, -, -, -, -,h⟩:=Tm.dV Zn.o;simp only[sF,cK,mP,dx]at e;obtain⟨rfl,rfl⟩:=e;exact h);have arY:=ahG;rw[<-e4]at Zp arY;have E4:=Y e4;clear e4 ahG HR;unfold maxLen at Oy arR;go_wp2_with fail;obtain⟨_,_,eb,eo,e9, -, -, -,lF,ik⟩:=sW.o.at;simp only[cK,dx]at e9;obtain⟨rfl,rfl⟩:=e9;obtain⟨_,_,fb,fo,e9, -, -, -,hfa,hfe⟩:=HAY.o.at;simp only[cK,dx]at e9;obtain⟨rfl,rfl⟩:=e9;have Di:=Y lF;have wy:=Y ik;have zo:=Y hfa;have OG:=Y hfe;rw[<-E4.out]at gz;clear lF ik hfa hfe;go_loopw[9,109](fun _ i wr=>∃(j m:Nat)(E':Env)(tv':Value),j<=x.args.length/\i= .int .i64 (j:Int)/\m<=k/\aO k ((x.args.zip y.args).take j) s.env=⟨true,E',(m:Int)⟩/\aR base P q g mb xb pv tv' cv ov {s with env:=E'} wr/\fA xb m wr/\Ch (fun b=>SM g mb tv cv ov b\/b=xb) w wr/\(∀b,ownB tv'=some b->ownB tv=some b\/w.heap.size<=b)/\w3.heap.size<=wr.heap.size/\wr.heap[w.heap.size]?=some (.cells #[.int .i64 x.kind,.int .i64 x.n,.string x.s,.slice xa x.args.length xc] 34 (0,0))/\wr.heap[w.heap.size+1]?=some (.cells #[.int .i64 y.kind,.int .i64 y.n,.string y.s,.slice ya x.args.length yc] 34 (0,0)))(fun _ i _=>x.args.length - (intOf i).toNat);case atStart=>exact⟨0,k,s.env,tv,dA _,rfl,zL _,by rw[nD,Cu],pq.o,HW3.o,eY.o.mono fun x _ e=> .inr e,fun b h=> .inl h,zL _,bH.o,gz.o⟩
   case round=>
    obtain⟨j,m,E',tv',hj,rfl,hm,htk,hsv,hwk,hch,hown,hsz,hb5,hb6⟩:=hrel;have dD:=Y htk;have iC:=Y hsv;have ahM:=Y hwk;have aM:=Y hch;have HOW:=Y hown;have ahN:=Y hb5;have ahO:=Y hb6;obtain⟨q0,qf,ql⟩:=hwk.cell;obtain⟨p50,p51,p52,p53,p5f⟩:=aF hb5;obtain⟨p60,p61,p62,p63,p6f⟩:=aF hb6;have HLZ:=Y (show(x.args.zip y.args).length=x.args.length by rw[List.length_zip,<-E4.out];exact Nat.min_self _);clear htk hsv hwk hch hown hb5 hb6;by_cases hlt:j<x.args.length
    ·have Zu:j<y.args.length:=by have :=E4.out;omega
     obtain⟨rfl,bQ⟩:=Di.o (by omega);obtain⟨rfl,ar1⟩:=zo.o (by have :=E4.out;omega);have Zv:J A w3 wr:=⟨hsz,fun b hb ha=>by have h1:=HA.o b ha;rw[aM.o.block b h1.2 (fun e=>e.elim h1.1.1 h1.1.2),eY.o.block b h1.2 h1.1.2]⟩;obtain⟨sa,sc,g0,g1,g2,g3,hr3⟩:=lJ wy.o bQ Zv hlt;obtain⟨sa',sK,i0,i1,i2,i3,hr4⟩:=lJ OG.o ar1 Zv Zu;have hmv:=(Ty aM.o HOW.o (fun b h=> .inl h) (fun b h=> .inl h)).2;have HR3:=Y (Tm.ae.2.1 _ (SA g mb xb tv' cv ov) _ _ _ hr3 fun b _ h=>hmv b (HA.o b h));have HR4:=Y (Tm.ae.2.1 _ (SA g mb xb tv' cv ov) _ _ _ hr4 fun b _ h=>hmv b (HA.o b h));have hz0:(x.args.zip y.args)[j]?=some (x.args[j],y.args[j]):=by rw[List.getElem?_zip_eq_some];exact⟨aJ hlt,aJ Zu⟩
     have hjz:j<(x.args.zip y.args).length:=by rw[HLZ.o];exact hlt
     have hzj:(x.args.zip y.args)[j]=(x.args[j],y.args[j]):=by rw[aJ hjz]at hz0;exact zI hz0
     have hsplit:x.args.zip y.args=(x.args.zip y.args).take j++([(x.args[j],y.args[j])]++(x.args.zip y.args).drop (j+1)):=by
      conv=>lhs;rw[<-Aj j (x.args.zip y.args),QN hjz,hzj]
      rfl
     have dN:=Y (show aO k (x.args.zip y.args) s.env=aO m ([(x.args[j],y.args[j])]++(x.args.zip y.args).drop (j+1)) E' by
      conv=>lhs;rw[hsplit]
      rw[Xv,dD.o,G rfl];simp);have dW:=Y (show aO k ((x.args.zip y.args).take (j+1)) s.env=aO m [(x.args[j],y.args[j])] E' by rw[iq hjz,hzj,Xv,dD.o,G rfl];simp);have HEO:=Y (show cu N E' by have :=(Es k ((x.args.zip y.args).take j) s.env HE.o (fun p hp=>by have :=anj (QP hp);exact⟨tV.o.arg this.1,tX.o.arg this.2⟩)).1;rw[dD.o]at this;exact this);have qp:=Y (show E'.length+m<=1000000 by have :=aoL k ((x.args.zip y.args).take j) s.env (by rw[dD.o]);rw[dD.o]at this;have h2:=HLEN.o;simp only[dF]at this;omega);have hj0:(0:Int)<=(j:Int):=zN _;have hj1:(j:Int)<(x.args.length:Int):=by omega
     clear hsplit hr3 hr4 Zv hmv hz0 hzj hjz;go_wp2_with fail;go_still_tail 12,(by kernel_rfl);change wpList _ _ _ _ _ wr.drew;have mr:=Y (IH.out m hm tv' {s with env:=E'} x.args[j] y.args[j] wr.drew _ _ (iC.o.below ((Z _ _).drew)) (show fA xb m wr.drew from ahM.o) HEO.o (tV.o.arg (bN hlt)) (tX.o.arg (bN Zu)) (Tm.ae.1 _ _ _ _ _ HR3.o (J.drew _ _)) (Tm.ae.1 _ _ _ _ _ HR4.o (J.drew _ _)) qp.o);have ar3:=Y (iC.o.ahA ahN.o);have ar4:=Y (iC.o.ahA ahO.o);have ahQ:=Y (show wr.drew.heap[w.heap.size]?=_ from ahN.o);have ahR:=Y (show wr.drew.heap[w.heap.size+1]?=_ from ahO.o);have HCD:=Y (aM.o.drew);have aBk:w3.heap.size<=wr.drew.heap.size:=hsz;generalize wr.drew=wd at*;clear g0 g1 g2 g3 i0 i1 i2 i3 p50 p51 p52 p53 p5f p60 p61 p62 p63 p6f q0 qf ql;go_wp2_with fail;refine(mr.o).mono ?_;rintro e w5⟨rfl,⟨H9,Bi,dw,Zw⟩,ahT⟩;have gW:=Y Bi;have Zx:=Y ahT;have ar5:w.heap.size<wd.heap.size:=ax ahQ.o;have ar6:w.heap.size+1<wd.heap.size:=ax ahR.o;have OE:=Y ((dw.block _ ar5 (fun e=>e.elim ar3.o (fun e=>hne0 e.symm))).trans ahQ.o);have ar7:=Y ((dw.block _ ar6 (fun e=>e.elim ar4.o (fun e=>hne1 e.symm))).trans ahR.o);have hs5:=dw.size;have HSB:=Y (l9.trans HCD.o (fun b hb=>HOW.o b hb) (⟨H9,Bi,dw.mono fun _ _ h=>h,Zw⟩:l9 base P q g mb xb pv tv' cv ov _ wd w5));have ar8:=Y (show ∀b,ownB H9=some b->ownB tv=some b\/w.heap.size<=b from fun b hb=>(Zw b hb).elim (fun h=>HOW.o b h) (fun h=> .inr (by omega)));have tY:=Y (show Ch (fun b=>SM g mb tv cv ov b\/b=xb) w w5 from HCD.o.trans dw (fun b hb=>by
      rcases hb with(e|e|e|e|e)|e;·exact .inl (.inl (.inl e))
      ·exact .inl (.inl (.inr (.inl e)))
      ·rcases HOW.o b e with h|h;·exact .inl (.inl (.inr (.inr (.inl h))))
       ·exact .inr h
      ·exact .inl (.inl (.inr (.inr (.inr (.inl e)))))
      ·exact .inl (.inl (.inr (.inr (.inr (.inr e)))))
      ·exact .inl (.inr e)));have happ:=Xv m [(x.args[j],y.args[j])] ((x.args.zip y.args).drop (j+1)) E';have Zy:=aoE m [(x.args[j],y.args[j])] E';obtain⟨u5,lS⟩:∃u5,u5=aO m [(x.args[j],y.args[j])] E':=⟨_,rfl⟩;rw[<-lS]at happ Zy gW Zx dW HSB ⊢;have GM:=Y happ;obtain⟨uo,ue,uw⟩:=u5;simp only at Zy;obtain⟨aBl,hwr2,ahV⟩:=Zy;have ar9:=Y ahV;clear Bi ahT dw Zw happ lS ahV;cases uo with
      |false=>have hres:=Y (show aO (k+1) [(a,b)] s.env=⟨false,ue,uw⟩by rw[oG.o,dN.o,GM.o,O (by simp)]);go_wp2_with fail;go_ret;rw[hres.o];exact⟨rfl,HSB.o,Zx.o⟩
      |true=>
       obtain⟨pm,hpm⟩:=dH (ar9.o rfl);have HPM:=Y hpm;clear hpm;go_wp2_with fail;go_roundw;case rel=>have hpm:=HPM.o;subst hpm;exact⟨j+1,pm,ue,H9,by omega,by go_num,by omega,dW.o,gW.o,Zx.o,tY.o,ar8.o,by omega,OE.o,ar7.o⟩
       case measure=>simp[intOf];omega
    ·have bZ:j=x.args.length:=by omega
     have hres:=Y (show aO (k+1) [(a,b)] s.env=⟨true,E',(m:Int)⟩by have :=dD.o;rw[kg (by rw[HLZ.o];omega)]at this;rw[oG.o,this]);clear bZ;go_wp2_with fail;go_ret;rw[hres.o];exact⟨rfl,⟨tv',iC.o,aM.o,HOW.o⟩,ahM.o⟩
theorem Zz(hx:xb≠g):∀k,k<=400->Tz base P q g mb xb pv cv ov N k:=by intro k;induction k using Nat.strongRecOn with|_ k ih=>intro hk;cases k with|zero=>exact arL hx|succ k=>exact arM hx k (by omega) fun m hm=>ih m (by omega) (by omega)
end
theorem ag.asb{α:Type}{size:Nat}{R:(Nat->Prop)->World->α->List Value->Prop}{A:Nat->Prop}{w:World}{l:List α}{a:Option Addr}{len cap:Nat}(h:ag size R A w l (.slice a len cap)){k:Nat}(hk:k<=l.length):ag size R A w (l.drop k) (.slice (if cap=k then a else a.map fun x=>x.add (k*size)) (len - k) (cap - k)):=by
 obtain⟨b,off,hs,he⟩:=h;refine⟨b,off+k*size,?_,fun i x hx=>?_⟩
 ·obtain⟨h1,⟨h0,a',c',e,hc⟩|⟨h0,hA,c',e,hc,hm⟩⟩:=hs;·simp only[cK]at e;obtain⟨rfl,rfl,rfl⟩:=e;exact⟨by simp;omega,.inl ⟨by simp;omega,_,_,by rw[Nat.zero_sub],by omega⟩⟩
  ·simp only[cK]at e;obtain⟨rfl,rfl,rfl⟩:=e;by_cases hkl:k=l.length;·exact⟨by simp;omega,.inl ⟨by simp;omega,_,_,by rw[hkl,WB],by omega⟩⟩
   ·refine⟨by simp;omega,.inr ⟨by simp;omega,hA,cap - k,?_,by simp;omega,by omega⟩⟩;rw[O (by omega),yA];simp[Addr.add]
 ·rw[adH]at hx;obtain⟨vs,h1,h2,h3⟩:=he _ _ hx;exact⟨vs,h1,h2,by rw[show off+k*size+i*size=off+(k+i)*size by rw[oQ];omega];exact h3⟩
theorem asc(W:World)(a:Option Addr)(len cap m:Nat)(hm:m<=len):(Instr.slice 57 (.slice a len cap) (some (.int .i64 (m:Int))) none none).run Tryz.prog W= .ok (.slice (if cap=m then a else a.map fun x=>x.add (m*1)) (len - m) (cap - m)) W:=by
 have h0:(0:Int)<=(m:Int):=zN _;have h1:(m:Int)<=(len:Int):=by omega
 rw[Go.run_slice_l (P:=Tryz.prog) (w:=W) (t:=57) (a:=a) (len:=len) (cap:=cap) (ht:=by kernel_rfl) (kl:= .i64) (l:=(m:Int)) h0 h1];obtain⟨⟨i,z,ht,hi,hz,k1,k2,k3⟩, -⟩:=kC;have e:Program.elem Tryz.prog 57=3:=by kernel_rfl
 simp[e,sizeOf,typeInfo,hi,k1,sliced]
theorem TM:oU Tryz.prog 24 42 2 32:= .mk' (z:= .agg #[.int .i64 0,.slice none 0 0]) Tryz.underlying24 (by kernel_rfl) rfl (by omega) (by omega)
section
variable {base : Nat} {P : List Cl} {q g mb xb : Nat} {pv tv cv ov tv' cv' gM : Value} {s s' : Sv} {N : Int} {w w' : World}
def dQ(base:Nat)(P:List Cl)(q g mb:Nat)(pv tv cv ov:Value)(s':Sv)(w w':World):Prop:=∃tv' cv' gM,aR base P q g mb g pv tv' cv' gM s' w'/\Ch (SM g mb tv cv ov) w w'/\(∀b,ownB tv'=some b->ownB tv=some b\/w.heap.size<=b)/\(∀b,ownB cv'=some b->ownB cv=some b\/w.heap.size<=b)/\(∀b,ownB gM=some b->ownB ov=some b\/w.heap.size<=b)
theorem dQ.refl(h:aR base P q g mb g pv tv cv ov s w):dQ base P q g mb pv tv cv ov s w w:=⟨tv,cv,ov,h,Ch.refl _ _,fun b h=> .inl h,fun b h=> .inl h,fun b h=> .inl h⟩
theorem Ky(ht:∀b,ownB tv'=some b->ownB tv=some b\/w.heap.size<=b)(hc:∀b,ownB cv'=some b->ownB cv=some b\/w.heap.size<=b)(ho:∀b,ownB gM=some b->ownB ov=some b\/w.heap.size<=b):∀b,SM g mb tv' cv' gM b->SM g mb tv cv ov b\/w.heap.size<=b:=by
 rintro b(e|e|e|e|e);·exact .inl (.inl e)
 ·exact .inl (.inr (.inl e))
 ·exact(ht b e).imp (fun h=> .inr (.inr (.inl h))) id
 ·exact(hc b e).imp (fun h=> .inr (.inr (.inr (.inl h)))) id
 ·exact(ho b e).imp (fun h=> .inr (.inr (.inr (.inr h)))) id
theorem dQ.trans{w'':World}(hch:Ch (SM g mb tv cv ov) w w')(ht:∀b,ownB tv'=some b->ownB tv=some b\/w.heap.size<=b)(hc:∀b,ownB cv'=some b->ownB cv=some b\/w.heap.size<=b)(ho:∀b,ownB gM=some b->ownB ov=some b\/w.heap.size<=b)(h:dQ base P q g mb pv tv' cv' gM s' w' w''):dQ base P q g mb pv tv cv ov s' w w'':=by
 obtain⟨t2,c2,o2,h1,h2,h3,h4,h5⟩:=h;have hs:=hch.size;refine⟨t2,c2,o2,h1,hch.trans h2 (Ky ht hc ho),fun b hb=>?_,fun b hb=>?_,fun b hb=>?_⟩;·exact(h3 b hb).elim (fun e=>ht b e) (fun e=> .inr (dm hs e))
 ·exact(h4 b hb).elim (fun e=>hc b e) (fun e=> .inr (dm hs e))
 ·exact(h5 b hb).elim (fun e=>ho b e) (fun e=> .inr (dm hs e))
theorem OH(hc:Ch (SM g mb tv cv ov) w w')(ht:∀b,ownB tv'=some b->ownB tv=some b\/w.heap.size<=b)(hcv:∀b,ownB cv'=some b->ownB cv=some b\/w.heap.size<=b)(hov:∀b,ownB gM=some b->ownB ov=some b\/w.heap.size<=b):J (fun b=>SA g mb g tv cv ov b/\b<w.heap.size) w w'/\∀b,(SA g mb g tv cv ov b/\b<w.heap.size)->SA g mb g tv' cv' gM b:=Ty (xb:=g) (hc.mono fun b _ h=> .inl h) ht hcv hov
theorem gJ.move{l:List Gl}{v:Value}(h:gJ (SA g mb g tv cv ov) w l v)(hc:Ch (SM g mb tv cv ov) w w')(ht:∀b,ownB tv'=some b->ownB tv=some b\/w.heap.size<=b)(hcv:∀b,ownB cv'=some b->ownB cv=some b\/w.heap.size<=b)(hov:∀b,ownB gM=some b->ownB ov=some b\/w.heap.size<=b):gJ (SA g mb g tv' cv' gM) w' l v:=by obtain⟨h1,h2⟩:=OH hc ht hcv hov;exact((h.mono (A':=fun b=>SA g mb g tv cv ov b/\b<w.heap.size) fun b hb hA=>⟨hA,hb⟩).keeps h1).mono fun b _ hb=>h2 b hb
theorem aR.tell{e:Ev}{oI:Value}{w2:World}{cells:Array Value}(h:aR base P q g mb g pv tv cv ov s w)(hsz:s.out.length+1<=20)(hown:az w2 base 42 2 uK (SA g mb g tv cv ov) (s.out++[e]) oI)(hg:jJ (w.alloc (.cells cells 42)) w2 ov oI):dQ base P q g mb pv tv cv ov {s with out:=s.out++[e]} w (w2.setCell ⟨g,6,none⟩ oI):=by
 have hap:=h.apart;have hlt:=h.lt;have hog:∀b,ownB oI=some b->ownB ov=some b\/w.heap.size<=b:=fun b hb=>by
  rcases hg.block with e|e;·exact .inl (e▸hb)
  ·have :=e b hb;simp only[bO]at this;exact .inr (by omega)
 have dz:Ch (fun b=>b=g\/ownB ov=some b) w (w2.setCell ⟨g,6,none⟩ oI):=(hg.ch ((Ch.refl _ _).alloc _) (fun b hb=> .inl (.inr hb))).setCell (p:=⟨g,6,none⟩) (.inl (.inl rfl)) _;have hch:Ch (SM g mb tv cv ov) w (w2.setCell ⟨g,6,none⟩ oI):=dz.mono fun b _ hb=>hb.elim .inl fun e=> .inr (.inr (.inr (.inr e)));have hmid:=OH (tv':=tv) (cv':=cv) (gM:=oI) hch (fun b h=> .inl h) (fun b h=> .inl h) hog;have hlb:=h.tF;have hB2:w2.heap[g]?=_:=(hg.grown.block g (by simp;omega) (fun e=>hap.og e.symm)).trans (aI h.box _);refine⟨tv,cv,oI,?_,hch,fun b h=> .inl h,fun b h=> .inl h,hog⟩;obtain⟨h1,h2,h3,h4,h5,h6,h7,h8,h8',AP,h9,h10,h11,h12,dR,CF,AQ,h16⟩:=h;have hk0:J (fun b=>¬(b=g\/ownB ov=some b)) w (w2.setCell ⟨g,6,none⟩ oI):=dz.keeps fun b _ hb=>hb;refine⟨(aX hB2 6 _).trans rfl,?_,?_,?_,?_,?_,h7,h8,h8',uB AP hch.size,.inl rfl,h10,h11,h12,dR,CF,AQ,by simpa using hsz⟩;·exact ag.keeps Cl.ae h2 (hch.keeps fun b hb hA e=>by have :=(hlb b e).1;omega)
 ·obtain⟨L,hm,hL⟩:=h3;refine⟨L,hm.keeps hk0 (fun e=>e.elim (fun e=>?_) hap.om),((hL.mono (A':=fun b=>SA g mb g tv cv ov b/\b<w.heap.size) fun b hb hA=>⟨hA,hb⟩).keeps hmid.1).mono fun b _ hb=>hmid.2 b hb⟩;obtain⟨es,clock,hm1,_⟩:=hm;rw[e,h1]at hm1;simp at hm1
 ·exact⟨Own.keeps h4.1 hk0 (fun b hb e=>e.elim (fun e=>hap.tg (e▸hb)) (fun e=>hap.too b hb e)),h4.2⟩
 ·refine((h5.mono (A':=fun b=>SA g mb g tv cv ov b/\b<w.heap.size) pz fun b hb hA=>⟨hA,hb⟩).keeps pz hk0 (fun b hb e=>hb.1.1 (e.elim .inl fun e=> .inr (.inr (.inr (.inr e))))) (fun b hb e=>e.elim (fun e=>hap.cg (e▸hb)) (fun e=>hap.co b hb e))).mono pz fun b _ hb=>hmid.2 b hb
 ·have mV:ownB oI≠some g:=fun e=>by
   rcases hog g e with e|e;·exact hap.og e
   ·omega
  refine(hown.keeps (B:=fun b=>b≠g) iL (J.setCell _ _ _ _ (fun h=>h rfl)) (fun b hb=>hb.2) (fun b hb e=>mV (e▸hb))).mono' iL fun b hb hA hn=>⟨fun hs=>?_,hA.2⟩;rcases hs with e|e|e|e|e;·exact hA.1 (.inl e)
  ·exact hA.1 (.inr (.inl e))
  ·exact hA.1 (.inr (.inr (.inl e)))
  ·exact hA.1 (.inr (.inr (.inr (.inl e))))
  ·exact hn e
def ase(base:Nat)(P:List Cl)(q g mb:Nat)(pv tv cv ov:Value)(s':Sv)(w:World)(e:Ending)(w':World):Prop:=e= .returned (.bool false)/\dQ base P q g mb pv tv cv ov s' w w'
theorem wH(kind:Int)(hk:ah kind)(h:aR base P q g mb g pv tv cv ov s w)(hsz:s.out.length+1<=20):Calls Tryz.prog 94 #[.pointer (some ⟨g,0,none⟩),.int .i64 kind] w (ase base P q g mb pv tv cv ov (s.put kind) w):=by have HU:=Y h;have HK:=Y hk;have zq:=Y hsz;have qQ:=Y h.apart;obtain⟨pa,pc,ta,tc,ca,cc,oa,oc,rfl,rfl,rfl,rfl, -⟩:=h.vals;obtain⟨hl1,hl2,hl3⟩:=h.lt;obtain⟨b0,b1,b2,b3,b4,b5,b6,b7,bf⟩:=dS h.box;have hcs:=bF;clear h hk;go_enter Tryz.func94,Tryz.ntmps94;go_wp2_with(at_builtin;go_must(refine ja rfl (.tmp 9) (.tmp 12) 24 rfl base 42 2 32 TM iL (A:=SA g mb g (.slice ta s.env.length tc) (.slice ca s.choices.length cc) (.slice oa s.out.length oc)) (.slice oa s.out.length oc) s.out rfl HU.o.out ⟨kind,[]⟩ [.int .i64 kind,.slice none 0 0] (by rfl) rfl ⟨_,rfl,ag.nil ..,HK.o⟩ ⟨by omega,by omega⟩ ?_);go_must(intro v2 w2 hown aj;have hB2:=(aj.grown.block g (by simp;omega) (fun e=>qQ.o.og e.symm)).trans (aI HU.o.box _);obtain⟨aS,aT,hv2,kX,rO⟩:=az.kG hown;rw[show(s.out++[(⟨kind,[]⟩:Ev)]).length=s.out.length+1 by simp]at hv2;subst hv2;have bA:=Y hown;have HG2:=Y aj;obtain⟨k0,k1,k2,k3,k4,k5,k6,k7,kf⟩:=dS hB2;clear hown aj hB2));go_ret;exact⟨rfl,HU.o.tell zq.o bA.o HG2.o⟩
def asf(w:World)(a b:Tm)(e:Ending)(w':World):Prop:=∃t,e= .returned (.bool t)/\Below w.heap.size w w'/\(t=true↔jB a b)
theorem ZA(a b:Tm)(A A':Nat->Prop)(w:World)(us vs:List Value)(ha:Tm.rep A w a us)(hb:Tm.rep A' w b vs):Calls Tryz.prog 98 #[.agg us.toArray,.agg vs.toArray] w (asf w a b):=by
 obtain⟨aa,mg,rfl, -⟩:=Tm.dV ha;obtain⟨ba,gN,rfl, -⟩:=Tm.dV hb;have hB:=Y (((gQ _ w).alloc (zL _) (.cells #[.int .i64 a.kind,.int .i64 a.n,.string a.s,.slice aa a.args.length mg] 34)).alloc (by simp) (.cells #[.int .i64 b.kind,.int .i64 b.n,.string b.s,.slice ba b.args.length gN] 34));have hd:=Classical.em (jB a b);by_cases e1:a.s=b.s
 ·by_cases e2:a.args.length=b.args.length;·have hL:=Y (show jB a b from⟨e1,e2⟩);rw[<-e1,<-e2]at hB ⊢;clear ha hb e1 e2 hd;go_enter Tryz.func98,Tryz.ntmps98;go_wp2_with fail;go_ret;exact⟨true,rfl,hB.out,by simp[hL.out]⟩
  ·have hL:=Y (show ¬jB a b from fun h=>e2 h.2);have e2':((a.args.length:Int)==(b.args.length:Int))=false:=by simp;omega
   rw[<-e1]at hB ⊢;clear ha hb e1 e2 hd;go_enter Tryz.func98,Tryz.ntmps98;go_wp2_with fail;go_ret;exact⟨false,rfl,hB.out,by simp[hL.out]⟩
 ·have hL:=Y (show ¬jB a b from fun h=>e1 h.1);have Kw:=Zj e1;clear ha hb e1 hd;go_enter Tryz.func98,Tryz.ntmps98;go_wp2_with fail;go_ret;exact⟨false,rfl,hB.out,by simp[hL.out]⟩
end
