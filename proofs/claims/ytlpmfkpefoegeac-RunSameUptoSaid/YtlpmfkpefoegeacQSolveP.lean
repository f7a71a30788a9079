import Derived.Test.YtlpmfkpefoegeacQSolveI
import Derived.StillTailTactics
namespace Go.Proofs.Ytlpmfkpefoegeac
set_option maxRecDepth 100000
set_option maxHeartbeats 16000000
set_option linter.all false
open Go.RowKit
section
variable {base : Nat} {P : List Cl} {q g mb xb : Nat} {pv tv cv ov tv' cv' ov' : Value} {s : Sv} {N : Int} {w w' : World}
theorem ZiT(hc:Ch (fun b=>SM g mb tv cv ov b\/b=xb) w w')(ht:∀b,Zai tv'=some b->Zai tv=some b\/w.heap.size<=b)(hcv:∀b,Zai cv'=some b->Zai cv=some b\/w.heap.size<=b)(hov:∀b,Zai ov'=some b->Zai ov=some b\/w.heap.size<=b):Keeps (fun b=>SA g mb xb tv cv ov b/\b<w.heap.size) w w'/\∀b,(SA g mb xb tv cv ov b/\b<w.heap.size)->SA g mb xb tv' cv' ov' b:=by
 refine⟨hc.keeps fun b _ hb e=>e.elim hb.1.1 hb.1.2,fun b hb=>⟨fun hs=>?_,hb.1.2⟩⟩;rcases hs with e|e|e|e|e;·exact hb.1.1 (.inl e)
 ·exact hb.1.1 (.inr (.inl e))
 ·rcases ht b e with h|h;·exact hb.1.1 (.inr (.inr (.inl h)))
  ·have :=hb.2;omega
 ·rcases hcv b e with h|h;·exact hb.1.1 (.inr (.inr (.inr (.inl h))))
  ·have :=hb.2;omega
 ·rcases hov b e with h|h;·exact hb.1.1 (.inr (.inr (.inr (.inr h))))
  ·have :=hb.2;omega
theorem ZmV{α:Type}{R:(Nat->Prop)->World->α->List Value->Prop}{x:α}{vs:List Value}(hR:Lasts R)(h:R (SA g mb xb tv cv ov) w x vs)(hc:Ch (fun b=>SM g mb tv cv ov b\/b=xb) w w')(ht:∀b,Zai tv'=some b->Zai tv=some b\/w.heap.size<=b)(hcv:∀b,Zai cv'=some b->Zai cv=some b\/w.heap.size<=b)(hov:∀b,Zai ov'=some b->Zai ov=some b\/w.heap.size<=b):R (SA g mb xb tv' cv' ov') w' x vs:=by obtain⟨h1,h2⟩:=ZiT hc ht hcv hov;exact hR.2.1 _ _ _ _ _ (hR.1 _ _ _ _ _ (hR.2.1 _ (fun b=>SA g mb xb tv cv ov b/\b<w.heap.size) _ _ _ h fun b hb hA=>⟨hA,hb⟩) h1) fun b _ hb=>h2 b hb
theorem Zbt{E:TypeId}{size n:Nat}{v:Value}{xs:List Value}{k:Nat}(h:Own w base E size v n xs)(hk:Zai v=some k):∃c,w.heap[k]?=some (.cells c E (0,0)):=by
 rcases h.2 with⟨_,a,rfl⟩|⟨g,cap,cur,rfl,hc,hb,hg,_⟩;·cases a<;>simp[Zai]at hk
 ·simp only[Zai,Nat.pos_iff_ne_zero.1 hc,if_false,Option.some.injEq]at hk;subst hk;exact⟨cur,hg⟩
theorem OwnR.ty{α:Type}{E:TypeId}{size:Nat}{R:(Nat->Prop)->World->α->List Value->Prop}{A:Nat->Prop}{xs:List α}{v:Value}{k:Nat}(h:OwnR w base E size R A xs v)(hk:Zai v=some k):∃c,w.heap[k]?=some (.cells c E (0,0)):=by obtain⟨vals,_,ho,_⟩:=h;exact Zbt ho hk
theorem Zbk{E E':TypeId}{c c':Array Value}{k:Nat}(h:w.heap[k]?=some (.cells c E (0,0)))(h':w.heap[k]?=some (.cells c' E' (0,0))):E=E':=by rw[h]at h';simp only[Option.some.injEq,Obj.cells.injEq]at h';exact h'.2.1
structure Apart (g mb : Nat) (tv cv ov : Value) : Prop where
  tg : Zai tv ≠ some g
  tm : Zai tv ≠ some mb
  cg : Zai cv ≠ some g
  cm : Zai cv ≠ some mb
  og : Zai ov ≠ some g
  om : Zai ov ≠ some mb
  tc : ∀ b, Zai tv = some b → Zai cv ≠ some b
  too : ∀ b, Zai tv = some b → Zai ov ≠ some b
  co : ∀ b, Zai cv = some b → Zai ov ≠ some b
theorem SvI.apart(h:SvI base P q g mb xb pv tv cv ov s w):Apart g mb tv cv ov:=by
 obtain⟨L,⟨es,clock,hm,_⟩,_⟩:=h.env;have nm:∀{E:TypeId}{c:Array Value},w.heap[mb]?=some (.cells c E (0,0))->False:=fun h=>by rw[hm]at h;simp at h
 refine⟨fun e=>?_,fun e=>?_,fun e=>?_,fun e=>?_,fun e=>?_,fun e=>?_,fun b e e'=>?_,fun b e e'=>?_,fun b e e'=>?_⟩;·obtain⟨c,hc⟩:=Zbt h.trail.1 e;exact absurd (Zbk hc h.box) (by decide)
 ·obtain⟨c,hc⟩:=Zbt h.trail.1 e;exact nm hc
 ·obtain⟨c,hc⟩:=h.chc.ty e;exact absurd (Zbk hc h.box) (by decide)
 ·obtain⟨c,hc⟩:=h.chc.ty e;exact nm hc
 ·obtain⟨c,hc⟩:=h.out.ty e;exact absurd (Zbk hc h.box) (by decide)
 ·obtain⟨c,hc⟩:=h.out.ty e;exact nm hc
 ·obtain⟨c,hc⟩:=Zbt h.trail.1 e;obtain⟨c',hc'⟩:=h.chc.ty e';exact absurd (Zbk hc hc') (by decide)
 ·obtain⟨c,hc⟩:=Zbt h.trail.1 e;obtain⟨c',hc'⟩:=h.out.ty e';exact absurd (Zbk hc hc') (by decide)
 ·obtain⟨c,hc⟩:=h.chc.ty e;obtain⟨c',hc'⟩:=h.out.ty e';exact absurd (Zbk hc hc') (by decide)
def SBind(base:Nat)(P:List Cl)(q g mb xb:Nat)(pv tv cv ov:Value)(s':Sv)(w w':World):Prop:=∃tv',SvI base P q g mb xb pv tv' cv ov s' w'/\Ch (fun b=>SM g mb tv cv ov b\/b=xb) w w'/\(∀b,Zai tv'=some b->Zai tv=some b\/w.heap.size<=b)
theorem SBind.of_ch(h:SvI base P q g mb xb pv tv cv ov s w')(hc:Ch (fun b=>b=xb) w w'):SBind base P q g mb xb pv tv cv ov s w w':=⟨tv,h,hc.mono fun x _ e=> .inr e,fun b h=> .inl h⟩
theorem SBind.trans{s':Sv}{w'':World}(hc:Ch (fun b=>SM g mb tv cv ov b\/b=xb) w w')(ht:∀b,Zai tv'=some b->Zai tv=some b\/w.heap.size<=b)(h:SBind base P q g mb xb pv tv' cv ov s' w' w''):SBind base P q g mb xb pv tv cv ov s' w w'':=by
 obtain⟨tv2,h1,h2,h3⟩:=h;refine⟨tv2,h1,hc.trans h2 fun x hx=>?_,fun b hb=>?_⟩
 ·rcases hx with(hx|hx|hx|hx|hx)|hx;·exact .inl (.inl (.inl hx))
  ·exact .inl (.inl (.inr (.inl hx)))
  ·rcases ht x hx with h|h;·exact .inl (.inl (.inr (.inr (.inl h))))
   ·exact .inr h
  ·exact .inl (.inl (.inr (.inr (.inr (.inl hx)))))
  ·exact .inl (.inl (.inr (.inr (.inr (.inr hx)))))
  ·exact .inl (.inr hx)
 ·rcases h3 b hb with h4|h4;·exact ht b h4
  ·exact .inr (Nat.le_trans hc.size h4)
def Zhe(base:Nat)(P:List Cl)(q g mb xb:Nat)(pv tv cv ov:Value)(s':Sv)(w:World)(e:Ending)(w':World):Prop:=∃r,e= .returned r/\SBind base P q g mb xb pv tv cv ov s' w w'/\(xb≠g->w'.heap[xb]?=w.heap[xb]?)
theorem ZlH(v:Int)(hv:I64 v)(t:Tm)(vs:List Value)(h:SvI base P q g mb xb pv tv cv ov s w)(hfree:eget s.env v=none)(hlen:s.env.length+1<=1000000)(ht:Tm.rep (SA g mb xb tv cv ov) w t vs):Calls Try.prog 68 #[.pointer (some ⟨g,0,none⟩),.int .i64 v,.agg vs.toArray] w (Zhe base P q g mb xb pv tv cv ov {s with env:=s.env++[(v,t)]} w):=by
 have HU:=zh h;have HV:=zh hv;have HT:=zh ht;have HLEN:=zh hlen;have HAP:=zh h.apart;have hgm:=h.mb_ne;obtain⟨a,cap,rfl, -⟩:=Tm.rep4 ht;obtain⟨pa,pc,ta,tc,ca,cc,oa,oc,rfl,rfl,rfl,rfl, -⟩:=h.vals;obtain⟨hl1,hl2,hl3⟩:=h.lt;obtain⟨b0,b1,b2,b3,b4,b5,b6,b7,bf⟩:=ZbW h.box;obtain⟨L,hM,hL⟩:=h.env;have hfree':mget L v=none:=by
  rcases hL.get v with⟨_,e⟩|⟨t',_,e,_⟩;·exact e
  ·rw[hfree]at e;cases e
 have HM:=zh hM;have HLL:=zh hL;have HFR:=zh hfree';have hcs:=Zak;clear h hv ht hM hL hfree hfree' hlen;go_enter Try.func68,Try.ntmps68;go_wp2_with fail;obtain⟨W,hW⟩:∃W,W=w.alloc (.cells #[.int .i64 t.kind,.int .i64 t.n,.string t.s,.slice a t.args.length cap] 43):=⟨_,rfl⟩;have HX:=zh (show W.heap[w.heap.size]?=some (.cells #[.int .i64 t.kind,.int .i64 t.n,.string t.s,.slice a t.args.length cap] 43 (0,0))by rw[hW];exact Zao _ _);have HBW:=zh (show Below w.heap.size w W by rw[hW];exact(zB _ _).alloc (zL _) _);have hWs:W.heap.size=w.heap.size+1:=by rw[hW];simp
 have hWl:w.heap.size<W.heap.size:=by omega
 have hWg:g<W.heap.size:=by omega
 have HKW:=zh (show Keeps (fun _=>True) w W by rw[hW];exact Keeps.alloc _ _ _);have HUW:=zh (HU.o.below HBW.o);rw[<-hW];clear hW hWs b0 b1 b2 b3 b4 b5 b6 b7 bf;obtain⟨b0,b1,b2,b3,b4,b5,b6,b7,bf⟩:=ZbW HUW.o.box;obtain⟨x0,x1,x2,x3,xf⟩:=Za0 HX.o;obtain⟨W1,hput,hm1,hch1,hsz1⟩:=Zg9 ZlB (HM.o.keeps (HKW.o.trans (Keeps.drew _ _)) trivial) HFR.o (.agg #[.int .i64 t.kind,.int .i64 t.n,.string t.s,.slice a t.args.length cap]);have HPUT:=zh hput;have HM1:=zh hm1;have HCH1:=zh (show Ch (fun b=>b=mb) W W1 from((Ch.refl _ W).drew).trans hch1 (fun _ h=> .inl h));simp only[World.size_drew]at hsz1;have hs1:W.heap.size<=W1.heap.size:=by omega
 clear hput hm1 hch1 hsz1;go_still_tail 6,(by kernel_rfl);change wpList _ _ _ _ _ W.drew;have hput:=HPUT.o;have HX1:=zh ((HCH1.o.block g hWg (fun e=>hgm e.symm)).trans HUW.o.box);have HT1:=zh (HUW.o.trail.kept (w':=W1) fun b hb=>HCH1.o.block b (HUW.o.trail.lt b hb).2 (fun e=>HAP.o.tm (hb.trans (congrArg some e))));obtain⟨d0,d1,d2,d3,d4,d5,d6,d7,df⟩:=ZbW HX1.o;have HB1l:=zh (HUW.o.trail.lt);have hg1:g<W1.heap.size:=by omega
 go_wp2_with(at_builtin;go_must(refine Zau rfl (.tmp 16) (.tmp 18) 37 rfl base 3 1 8 Za1 Zae (A:=fun _=>True) (.slice ta s.env.length tc) (s.env.map (·.1)) rfl (OwnF.ownR Zaw HT1.o _) v [.int .i64 v] (by rfl) rfl ⟨HV.o,rfl⟩ ⟨by have :=HLEN.o;simp;omega,by omega⟩ ?_);go_must(intro v2 w2 hown hgrew;obtain⟨va2,vc2,hv2,hvl2,hvm2⟩:=OwnR.val' hown;rw[show(s.env.map (·.1)++[v]).length=s.env.length+1 by simp]at hv2;subst hv2;have HO2:=zh (OwnF.of_ownR hown);have HG2:=zh hgrew;have hz2:=hgrew.size;simp only[World.size_alloc]at hz2;have hB2:=(hgrew.grown.block g (by simp;omega) (fun e=>HAP.o.tg e.symm)).trans (Zaf HX1.o _);have HB2:=zh hB2;obtain⟨k0,k1,k2,k3,k4,k5,k6,k7,kf⟩:=ZbW hB2;clear hown hgrew hB2));refine bodyPost_end (v:= .tuple #[]) (by simp[results,Try.results68,go_sem]) rfl ?_;have ho2:=HO2.o;have hng:Zai (.slice va2 (s.env.length+1) vc2)≠some g:=by intro e;obtain⟨c,hc⟩:=Zbt ho2.1 e;exact absurd (Zbk hc HB2.o) (by decide)
 have htb:∀b,Zai (.slice va2 (s.env.length+1) vc2)=some b->Zai (.slice ta s.env.length tc)=some b\/w.heap.size<=b:=by
  intro b hb;rcases HG2.o.block with h9|h9;·exact .inl (h9.symm.trans hb)
  ·have :=h9 b hb;simp only[World.size_alloc]at this;exact .inr (by omega)
 have hch0:Ch (fun b=>b=g\/b=mb\/Zai (.slice ta s.env.length tc)=some b) w (w2.setCell ⟨g,2,none⟩ (.slice va2 (s.env.length+1) vc2)):=by refine Ch.setCell (p:=⟨g,2,none⟩) ?_ (.inl (.inl rfl)) _;refine HG2.o.ch (Ch.alloc ?_ _) fun b hb=> .inl (.inr (.inr hb));exact(Ch.of_below (M:=fun b=>b=g\/b=mb\/Zai (.slice ta s.env.length tc)=some b) HBW.o).trans HCH1.o (fun b hb=> .inl (.inr (.inl hb)))
 have hch:Ch (fun b=>SM g mb (.slice ta s.env.length tc) (.slice ca s.choices.length cc) (.slice oa s.out.length oc) b\/b=xb) w (w2.setCell ⟨g,2,none⟩ (.slice va2 (s.env.length+1) vc2)):=hch0.mono fun b _ hb=> .inl (hb.elim .inl fun e=>e.elim (fun e=> .inr (.inl e)) fun e=> .inr (.inr (.inl e)));have hmid:=ZiT (tv':= .slice va2 (s.env.length+1) vc2) (cv':= .slice ca s.choices.length cc) (ov':= .slice oa s.out.length oc) hch htb (fun b h=> .inl h) (fun b h=> .inl h);have hlb:=HU.o.sm_lt;have hap:=HAP.o;refine⟨_,rfl,⟨.slice va2 (s.env.length+1) vc2,?_,hch,htb⟩,fun hxg=>hch0.block xb HU.o.bxl fun e=>?_⟩;rotate_left
 ·rcases HU.o.nx with h|h;·exact hxg h
  ·exact h (e.elim .inl fun e=>e.elim (fun e=> .inr (.inl e)) fun e=> .inr (.inr (.inl e)))
 obtain⟨h1,h2,h3,h4,h5,h6,h7,h8,h8',h8'',h9,h10,h11,h12,h13,h14,h15,h16⟩:=HU.o;refine⟨(Zal HB2.o 2 _).trans rfl,?_,?_,?_,?_,?_,h7,h8,h8',Nat.lt_of_lt_of_le h8'' hch.size,?_,h10,h11,h12,h13,?_,h15,h16⟩
 ·exact SlR.keeps Cl.rep_lasts h2 (hch.keeps fun b hb hA e=>by
   rcases e with e|e;·have :=(hlb b e).1;omega
   ·omega)
 ·refine⟨L++[(v,.agg #[.int .i64 t.kind,.int .i64 t.n,.string t.s,.slice a t.args.length cap])],?_,?_⟩;·refine(((HM1.o.keeps (Keeps.alloc (fun _=>True) _ _) trivial).keeps (HG2.o.keeps (A:=fun b=>Zai (.slice ta s.env.length tc)≠some b) fun _ h=>h) hap.tm).keeps (Keeps.setCell (fun b=>b≠g) _ _ _ (fun h=>h rfl)) hgm)
  ·exact EnvL.append (((HLL.o.mono (A':=fun b=>SA g mb xb (.slice ta s.env.length tc) (.slice ca s.choices.length cc) (.slice oa s.out.length oc) b/\b<w.heap.size) fun b hb hA=>⟨hA,hb⟩).keeps hmid.1).mono fun b _ hb=>hmid.2 b hb) ⟨⟨rfl,_,rfl,ZmV Tm.rep_lasts HT.o hch htb (fun b h=> .inl h) (fun b h=> .inl h)⟩,trivial⟩
 ·have :=ho2.kept (w':=w2.setCell ⟨g,2,none⟩ (.slice va2 (s.env.length+1) vc2)) fun b hb=>Below.heap_setCell _ _ _ _ (fun e=>hng (hb.trans (congrArg some e)));simpa using this
 ·refine((h5.mono (A':=fun b=>SA g mb xb (.slice ta s.env.length tc) (.slice ca s.choices.length cc) (.slice oa s.out.length oc) b/\b<w.heap.size) ZaI fun b hb hA=>⟨hA,hb⟩).keeps (B:=fun b=>¬(b=g\/b=mb\/Zai (.slice ta s.env.length tc)=some b)) ZaI (hch0.keeps fun b _ hb=>hb) (fun b hb e=>hb.1.1 ?_) (fun b hb e=>?_)).mono ZaI fun b _ hb=>hmid.2 b hb;·exact e.elim .inl fun e=>e.elim (fun e=> .inr (.inl e)) fun e=> .inr (.inr (.inl e))
  ·exact e.elim (fun e=>hap.cg (e▸hb)) fun e=>e.elim (fun e=>hap.cm (e▸hb)) fun e=>hap.tc b e hb
 ·refine((h6.mono (A':=fun b=>SA g mb xb (.slice ta s.env.length tc) (.slice ca s.choices.length cc) (.slice oa s.out.length oc) b/\b<w.heap.size) ZaB fun b hb hA=>⟨hA,hb⟩).keeps (B:=fun b=>¬(b=g\/b=mb\/Zai (.slice ta s.env.length tc)=some b)) ZaB (hch0.keeps fun b _ hb=>hb) (fun b hb e=>hb.1.1 ?_) (fun b hb e=>?_)).mono ZaB fun b _ hb=>hmid.2 b hb;·exact e.elim .inl fun e=>e.elim (fun e=> .inr (.inl e)) fun e=> .inr (.inr (.inl e))
  ·exact e.elim (fun e=>hap.og (e▸hb)) fun e=>e.elim (fun e=>hap.om (e▸hb)) fun e=>hap.too b e hb
 ·rcases h9 with h9|h9;·exact .inl h9
  ·refine .inr fun e=>?_;rcases e with e|e|e|e|e;·exact h9 (.inl e)
   ·exact h9 (.inr (.inl e))
   ·rcases htb _ e with e|e;·exact h9 (.inr (.inr (.inl e)))
    ·omega
   ·exact h9 (.inr (.inr (.inr (.inl e))))
   ·exact h9 (.inr (.inr (.inr (.inr e))))
 ·have :=HLEN.o;simp;omega
end
noncomputable def Znx(k:Nat)(E:Env)(x y:Tm):US:=if x.kind=0/\y.kind=0 then(if x.n=y.n then⟨true,E,k⟩else⟨true,E++[(max x.n y.n,tvar (min x.n y.n))],k⟩)else if x.kind=0\/y.kind=0 then let v:=if y.kind=0 then y.n else x.n;let z:=if y.kind=0 then x else y;let p:=inS E v k [z];if p.1=true\/p.2<0 then⟨false,E,p.2⟩else⟨true,E++[(v,z)],((min k p.2.toNat:Nat):Int)⟩else if ¬(x.kind=y.kind/\x.n=y.n/\x.s=y.s/\x.args.length=y.args.length)then⟨false,E,k⟩else uniS k (x.args.zip y.args) E
theorem ZlI(k:Nat)(a b:Tm)(E:Env):uniS (k+1) [(a,b)] E=Znx k E (slook E a) (slook E b):=by rw[uniS];simp only[Zb3,List.append_nil];rfl
def ZlJ(base:Nat)(P:List Cl)(q g mb xb:Nat)(pv tv cv ov:Value)(s:Sv)(w:World)(u:US)(e:Ending)(w':World):Prop:=e= .returned (.bool u.ok)/\SBind base P q g mb xb pv tv cv ov {s with env:=u.env} w w'/\WkAt xb u.work w'
def ZiU(base:Nat)(P:List Cl)(q g mb xb:Nat)(pv cv ov:Value)(N:Int)(k:Nat):Prop:=∀(tv:Value)(s:Sv)(a b:Tm)(w:World)(us vs:List Value),SvI base P q g mb xb pv tv cv ov s w->WkAt xb k w->EnvOk N s.env->a.In N->b.In N->Tm.rep (SA g mb xb tv cv ov) w a us->Tm.rep (SA g mb xb tv cv ov) w b vs->s.env.length+k<=1000000->Calls Try.prog 53 #[.pointer (some ⟨g,0,none⟩),.agg us.toArray,.agg vs.toArray,.pointer (some ⟨xb,0,none⟩)] w (ZlJ base P q g mb xb pv tv cv ov s w (uniS k [(a,b)] s.env))
theorem ZeD{s s':ByteArray}(h:¬s=s'):¬s.toList=s'.toList:=by intro e;rw[ByteArray.toList_eq,ByteArray.toList_eq]at e;apply h;cases s;cases s';simp only[ByteArray.mk.injEq];exact Array.toList_inj.1 e
theorem SvI.box_free{base:Nat}{P:List Cl}{q g mb xb:Nat}{pv tv cv ov:Value}{s:Sv}{w:World}(h:SvI base P q g mb xb pv tv cv ov s w){c:Array Value}{k:Nat}(hk:w.heap[k]?=some (.cells c 43 (0,0))):¬SM g mb tv cv ov k:=by
 rintro(e|e|e|e|e);·subst e;exact absurd (Zbk hk h.box) (by decide)
 ·subst e;obtain⟨L,⟨es,clock,hm,_⟩,_⟩:=h.env;rw[hm]at hk;simp at hk
 ·obtain⟨c',hc⟩:=Zbt h.trail.1 e;exact absurd (Zbk hk hc) (by decide)
 ·obtain⟨c',hc⟩:=h.chc.ty e;exact absurd (Zbk hk hc) (by decide)
 ·obtain⟨c',hc⟩:=h.out.ty e;exact absurd (Zbk hk hc) (by decide)
section
variable {base : Nat} {P : List Cl} {q g mb xb : Nat} {pv cv ov : Value} {N : Int}
theorem Zh2(hx:xb≠g):ZiU base P q g mb xb pv cv ov N 0:=by intro tv s a b w us vs h hw hE ha hb hva hvb hlen;obtain⟨aa,aca,rfl, -⟩:=Tm.rep4 hva;obtain⟨ba,bca,rfl, -⟩:=Tm.rep4 hvb;obtain⟨x0,xf,xl⟩:=hw.cell;have HW:=zh hw;have HU:=zh h;have hcs:=Zak;rw[show((0:Nat):Int)=0 from rfl]at x0;clear hva hvb ha hb h hw hE hlen;go_enter Try.func53,Try.ntmps53;go_wp2_with fail;go_ret;rw[ZcL];have hc:Ch (fun b=>b=xb) w (((w.setCell ⟨xb,0,none⟩ (.int .i64 (-1))).alloc (.cells #[.int .i64 a.kind,.int .i64 a.n,.string a.s,.slice aa a.args.length aca] 43)).alloc (.cells #[.int .i64 b.kind,.int .i64 b.n,.string b.s,.slice ba b.args.length bca] 43)):=((ZjB _ _ _ _).alloc _).alloc _;exact⟨rfl,SBind.of_ch (HU.o.ch hx hc) hc,Zaf (Zaf (HW.o.set (k':= -1)) _) _⟩
theorem Zh3(hx:xb≠g)(k:Nat)(hk4:k<=400)(ih:∀m,m<=k->ZiU base P q g mb xb pv cv ov N m):ZiU base P q g mb xb pv cv ov N (k+1):=by
 intro tv s a b w us vs h hw hE ha hb hva hvb hlen;have HU:=zh h;have HE:=zh hE;have HTA:=zh ha;have HTB:=zh hb;have IH:=zh ih;have HX:=zh hx;have HLEN:=zh hlen;obtain⟨aa,aca,rfl, -⟩:=Tm.rep4 hva;obtain⟨ba,bca,rfl, -⟩:=Tm.rep4 hvb;obtain⟨A,hA⟩:∃A:Nat->Prop,A=fun b=>SA g mb xb tv cv ov b/\b<w.heap.size:=⟨_,rfl⟩;have HA:=zh (show ∀b,A b->SA g mb xb tv cv ov b/\b<w.heap.size by rw[hA];exact fun b h=>h);have HVA0:=zh (show Tm.rep A w a _ by rw[hA];exact Tm.rep_lasts.2.1 _ _ _ _ _ hva fun b hb h=>⟨h,hb⟩);have HVB0:=zh (show Tm.rep A w b _ by rw[hA];exact Tm.rep_lasts.2.1 _ _ _ _ _ hvb fun b hb h=>⟨h,hb⟩);have HEN0:=zh (show EnvR A w mb s.env by rw[hA];exact h.envAt);obtain⟨x0,xf,xl⟩:=hw.cell;have HW:=zh hw;have hcs:=Zak;obtain⟨hl1,hl2,hl3⟩:=h.lt;have hk0:(0:Int)<=(k:Int):=zN _;have hk400:(k:Int)<=400:=by omega
 rw[show((k+1:Nat):Int)=(k:Int)+1 by omega]at x0;have HONE:=zh (ZlI k a b s.env);have HXI:=zh (ZaY HE.o HTA.o);have HYI:=zh (ZaY HE.o HTB.o);have HXS:=zh (ZdB HE.o HTA.o);have HYS:=zh (ZdB HE.o HTB.o);have HXF:=zh (Zb0 HE.o HTA.o);have HYF:=zh (Zb0 HE.o HTB.o);clear h hE ha hb hva hvb hw ih hA hlen;go_enter Try.func53,Try.ntmps53;go_wp2_with fail;obtain⟨W0,hW0⟩:∃W0,W0=((w.setCell ⟨xb,0,none⟩ (.int .i64 (k:Int))).alloc (.cells #[.int .i64 a.kind,.int .i64 a.n,.string a.s,.slice aa a.args.length aca] 43)).alloc (.cells #[.int .i64 b.kind,.int .i64 b.n,.string b.s,.slice ba b.args.length bca] 43):=⟨_,rfl⟩;have HCW:=zh (show Ch (fun b=>b=xb) w W0 by rw[hW0];exact((ZjB _ _ _ _).alloc _).alloc _);have HA5:=zh (show W0.heap[w.heap.size]?=some (.cells #[.int .i64 a.kind,.int .i64 a.n,.string a.s,.slice aa a.args.length aca] 43 (0,0))by rw[hW0];have :=(Zcv (w.setCell ⟨xb,0,none⟩ (.int .i64 (k:Int))) (.cells #[.int .i64 a.kind,.int .i64 a.n,.string a.s,.slice aa a.args.length aca] 43) (.cells #[.int .i64 b.kind,.int .i64 b.n,.string b.s,.slice ba b.args.length bca] 43)).1;simpa using this);have HA6:=zh (show W0.heap[w.heap.size+1]?=some (.cells #[.int .i64 b.kind,.int .i64 b.n,.string b.s,.slice ba b.args.length bca] 43 (0,0))by rw[hW0];have :=(Zcv (w.setCell ⟨xb,0,none⟩ (.int .i64 (k:Int))) (.cells #[.int .i64 a.kind,.int .i64 a.n,.string a.s,.slice aa a.args.length aca] 43) (.cells #[.int .i64 b.kind,.int .i64 b.n,.string b.s,.slice ba b.args.length bca] 43)).2;simpa using this);have HWK:=zh (show WkAt xb k W0 by rw[hW0];exact Zaf (Zaf (HW.o.set (k':=(k:Int))) _) _);have hW0z:w.heap.size+2<=W0.heap.size:=by rw[hW0];simp
 have HUW:=zh (HU.o.ch HX.o HCW.o);have HKW:=zh (HCW.o.keeps (A:=fun b=>b≠xb) fun b _ hb e=>hb e);have HVA:=zh (Tm.rep_lasts.1 _ _ _ _ _ HVA0.o (HKW.o.mono fun b _ hb=>(HA.o b hb).1.2));have HVB:=zh (Tm.rep_lasts.1 _ _ _ _ _ HVB0.o (HKW.o.mono fun b _ hb=>(HA.o b hb).1.2));have HENV:=zh (HEN0.o.keeps HKW.o (fun b hb=>(HA.o b hb).1.2) (fun e=>by
  rcases HU.o.nx with h|h;·exact HX.o h
  ·exact h (e▸ .inr (.inl rfl))));rw[<-hW0];have HA0:Hd (∀w',Below W0.heap.size W0 w'->w'.cell? ⟨w.heap.size,0,none⟩=some (.int .i64 a.kind)/\w'.cell? ⟨w.heap.size,1,none⟩=some (.int .i64 a.n)/\w'.cell? ⟨w.heap.size,2,none⟩=some (.string a.s)/\w'.cell? ⟨w.heap.size,3,none⟩=some (.slice aa a.args.length aca)/\w'.cell? ⟨w.heap.size+1,0,none⟩=some (.int .i64 b.kind)/\w'.cell? ⟨w.heap.size+1,1,none⟩=some (.int .i64 b.n)/\w'.cell? ⟨w.heap.size+1,2,none⟩=some (.string b.s)/\w'.cell? ⟨w.heap.size+1,3,none⟩=some (.slice ba b.args.length bca)):=zh fun w' hb=>by obtain⟨z0,z1,z2,z3, -⟩:=Za0 (Zac HA5.o hb);obtain⟨y0,y1,y2,y3, -⟩:=Za0 (Zac HA6.o hb);exact⟨z0,z1,z2,z3,y0,y1,y2,y3⟩
 clear x0 xf hW0;obtain⟨x,hxx⟩:∃x,x=slook s.env a:=⟨_,rfl⟩;obtain⟨y,hyy⟩:∃y,y=slook s.env b:=⟨_,rfl⟩;rw[<-hxx]at HONE HXI HXS HXF;rw[<-hyy]at HONE HYI HYS HYF;have HXX:=zh hxx;have HYY:=zh hyy;clear hxx hyy;refine Zav (F:=fun k w'=>(k=1->w'.heap[w.heap.size]?=some (.cells #[.int .i64 a.kind,.int .i64 a.n,.string a.s,.slice aa a.args.length aca] 43 (0,0)))/\(k=4->w'.heap[w.heap.size+1]?=some (.cells #[.int .i64 b.kind,.int .i64 b.n,.string b.s,.slice ba b.args.length bca] 43 (0,0)))) (by kernel_rfl) ?_;have HF:∀k,(k=1->W0.drew.heap[w.heap.size]?=some (.cells #[.int .i64 a.kind,.int .i64 a.n,.string a.s,.slice aa a.args.length aca] 43 (0,0)))/\(k=4->W0.drew.heap[w.heap.size+1]?=some (.cells #[.int .i64 b.kind,.int .i64 b.n,.string b.s,.slice ba b.args.length bca] 43 (0,0))):=fun k=>⟨fun _=>HA5.o,fun _=>HA6.o⟩;refine ZaE (i:=0) (v:=?_) rfl (Or.inl ⟨by rfl,?_⟩) (HF 0) ?_;rotate_left;·(intro w' hw;clear hw;go_simp<;>with_reducible rfl)
 try simp only[zP]
 refine ZaE (i:=1) (v:= .agg #[.int .i64 a.kind,.int .i64 a.n,.string a.s,.slice aa a.args.length aca]) rfl (Or.inl ⟨by rfl,?_⟩) (HF 1) ?_;·(intro w' hw;obtain⟨q0,q1,q2,q3, -⟩:=Za0 (hw.1 rfl);clear hw;go_simp)
 try simp only[zP]
 refine ZaE (i:=3) (v:=?_) rfl (Or.inl ⟨by rfl,?_⟩) (HF 3) ?_;rotate_left;·(intro w' hw;clear hw;go_simp<;>with_reducible rfl)
 try simp only[zP]
 refine ZaE (i:=4) (v:= .agg #[.int .i64 b.kind,.int .i64 b.n,.string b.s,.slice ba b.args.length bca]) rfl (Or.inl ⟨by rfl,?_⟩) (HF 4) ?_;·(intro w' hw;obtain⟨q0,q1,q2,q3, -⟩:=Za0 (hw.2 rfl);clear hw;go_simp)
 try simp only[zP]
 refine Zab (i:=2) (by kernel_rfl) (Zad rfl (by rfl) ?_);go_simp;refine(Zcz a A _ _ (HUW.o.below ((zB _ _).drew)) HE.o HTA.o (HENV.o.keeps (Keeps.drew (fun _=>True) _) (fun _ _=>trivial) trivial) (Tm.rep_lasts.1 _ _ _ _ _ HVA.o (Keeps.drew _ _))).mono ?_;rintro e w1⟨r,rfl,hb1,hr1⟩;rw[<-HXX.o]at hr1;obtain⟨us,rfl,hr2⟩:=hr1;have HB1:=zh (show Below W0.heap.size W0 w1 from((Below.refl _ W0).drew).trans hb1);have HRX1:=zh hr2;obtain⟨xa,xc,rfl, -, -, -,hxc1,hxc2,hxc3, -⟩:=Tm.rep4 hr2;have HR15:=zh (Zac HA5.o HB1.o);have HR16:=zh (Zac HA6.o HB1.o);clear hb1 hr2;refine⟨fun k _ _=>⟨fun _=>HR15.o,fun _=>HR16.o⟩,?_⟩;refine Zab (i:=5) (by kernel_rfl) (Zad rfl (by rfl) ?_);go_simp;refine(Zcz b A _ _ (HUW.o.below HB1.o) HE.o HTB.o (HENV.o.keeps (Keeps.ob (A:=fun _=>True) HB1.o) (fun _ _=>trivial) trivial) (Tm.rep_lasts.1 _ _ _ _ _ HVB.o (Keeps.ob HB1.o))).mono ?_;rintro e ww⟨r,rfl,hb2,hr1⟩;rw[<-HYY.o]at hr1;obtain⟨us',rfl,hr5⟩:=hr1;have hinv:Below W0.heap.size W0 ww:=HB1.o.trans (hb2.mono HB1.o.size);have HRX:=zh (Tm.rep_lasts.1 _ _ _ _ _ HRX1.o (Keeps.ob hb2));have HRY:=zh hr5;obtain⟨ya,yc,rfl, -, -, -,hyc1,hyc2,hyc3, -⟩:=Tm.rep4 hr5;have HX5:=zh (Zac HA5.o hinv);have HX6:=zh (Zac HA6.o hinv);have HWW:=zh (show WkAt xb k ww from Zac HWK.o hinv);have HUV:=zh (HUW.o.below hinv);have HCC:=zh (HCW.o.tb hinv);have hz:=hinv.size;obtain⟨x0,x1,x2,x3,xf⟩:=Za0 HX5.o;obtain⟨y0,y1,y2,y3,yf⟩:=Za0 HX6.o;have hzw:w.heap.size+1<ww.heap.size:=by omega
 have hzw0:w.heap.size<ww.heap.size:=by omega
 clear hr5 hinv hb2;refine⟨fun k _ _=>⟨fun _=>HX5.o,fun _=>HX6.o⟩,?_⟩;refine Zab (i:=6) (by kernel_rfl) (Zad rfl (by rfl) ?_);go_simp;refine⟨fun k hk _=>⟨fun h=>absurd (hk.symm.trans (by subst h;kernel_rfl:waits _ 6 k=true)) (by decide),fun _=>(Zbp _ _ _ _ _ _ _ (by omega)).trans HX6.o⟩,?_⟩;refine Zab (i:=7) (by kernel_rfl) (Zad rfl (by rfl) ?_);go_simp;refine⟨fun k hk _=>⟨fun h=>absurd (hk.symm.trans (by subst h;kernel_rfl:waits _ 7 k=true)) (by decide),fun h=>absurd (hk.symm.trans (by subst h;kernel_rfl:waits _ 7 k=true)) (by decide)⟩,?_⟩;refine Zan (by kernel_rfl) ?_ _;generalize hW3:((((((((ww.setCell ⟨w.heap.size,0,none⟩ (.int .i64 x.kind)).setCell ⟨w.heap.size,1,none⟩ (.int .i64 x.n)).setCell ⟨w.heap.size,2,none⟩ (.string x.s)).setCell ⟨w.heap.size,3,none⟩ (.slice xa x.args.length xc)).setCell ⟨w.heap.size+1,0,none⟩ (.int .i64 y.kind)).setCell ⟨w.heap.size+1,1,none⟩ (.int .i64 y.n)).setCell ⟨w.heap.size+1,2,none⟩ (.string y.s)).setCell ⟨w.heap.size+1,3,none⟩ (.slice ya y.args.length yc))=w3;have hk3:Keeps (fun b=>b≠w.heap.size/\b≠w.heap.size+1) ww w3:=by subst hW3;exact(Zbx _ _ (fun h=>h.1 rfl) _ _ _ _).trans (Zbx _ _ (fun h=>h.2 rfl) _ _ _ _)
 have HB5:=zh (show w3.heap[w.heap.size]?=some (.cells #[.int .i64 x.kind,.int .i64 x.n,.string x.s,.slice xa x.args.length xc] 43 (0,0))by subst hW3;exact(Zbp _ _ _ _ _ _ _ (by omega)).trans (Zks HX5.o));have HB6:=zh (show w3.heap[w.heap.size+1]?=some (.cells #[.int .i64 y.kind,.int .i64 y.n,.string y.s,.slice ya y.args.length yc] 43 (0,0))by subst hW3;exact Zks ((Zbp _ _ _ _ _ _ _ (by omega)).trans HX6.o));have HC3:=zh (show Ch (fun b=>b=xb) w w3 by subst hW3;exact Zgz (Zgz HCC.o (.inr (zL _)) _ _ _ _) (.inr (by omega)) _ _ _ _);have HW3:=zh (show WkAt xb k w3 from Zaj HWW.o hk3 (by omega));have HU3:=zh (HU.o.ch HX.o HC3.o);have HKA:=zh (hk3.mono (A':=A) fun b _ hb=>by have :=(HA.o b hb).2;omega);have HRX3:=zh (Tm.rep_lasts.1 _ _ _ _ _ HRX.o HKA.o);have HRY3:=zh (Tm.rep_lasts.1 _ _ _ _ _ HRY.o HKA.o);have hz3:=hk3.size;have hzz:w.heap.size+1<w3.heap.size:=by omega
 have hzz0:w.heap.size<w3.heap.size:=by omega
 clear x0 x1 x2 x3 xf y0 y1 y2 y3 yf hW3 hk3;obtain⟨c50,c51,c52,c53,c5f⟩:=Za0 HB5.o;obtain⟨c60,c61,c62,c63,c6f⟩:=Za0 HB6.o;obtain⟨k0,kf,kl⟩:=HW3.o.cell;have hxn:I64 x.n:=by obtain⟨_,_,_,_,h,_⟩:=Tm.rep4 HRX3.o;exact h
 have hyn:I64 y.n:=by obtain⟨_,_,_,_,h,_⟩:=Tm.rep4 HRY3.o;exact h
 have HXN:=zh hxn;have HYN:=zh hyn;have hne0:xb≠w.heap.size:=by omega
 have hne1:xb≠w.heap.size+1:=by omega
 have HSX:=zh (Tm.rep_lasts.2.1 _ (SA g mb xb tv cv ov) _ _ _ HRX3.o fun b _ hb=>(HA.o b hb).1);have HSY:=zh (Tm.rep_lasts.2.1 _ (SA g mb xb tv cv ov) _ _ _ HRY3.o fun b _ hb=>(HA.o b hb).1);have hvar:∀(n:Int)(W:World),I64 n->Tm.rep (SA g mb xb tv cv ov) W (tvar n) [.int .i64 0,.int .i64 n,.string ⟨#[]⟩,.slice none 0 0]:=fun n W hn=>by show Tm.rep _ _ (.mk 0 n ByteArray.empty []) [.int .i64 0,.int .i64 n,.string ByteArray.empty,.slice none 0 0];rw[Tm.rep_iff];exact⟨by unfold I64;omega,hn,by simp,_,rfl,SlR.nil ..⟩
 have HVAR:=zh hvar;have hstep:∀{s':Sv}{w6:World},SBind base P q g mb xb pv tv cv ov s' w3 w6->SBind base P q g mb xb pv tv cv ov s' w w6:=fun h=>SBind.trans (HC3.o.mono fun x _ e=> .inr e) (fun b h=> .inl h) h;have HSTEP:=@hstep;clear hxn hyn hvar hstep HX5 HX6 HWW HUV HCC HRX HRY HRX1 HB1 HR15 HR16 HXX HYY HKA HF;have hlen':s.env.length+1<=1000000:=by have :=HLEN.o;omega
 have HL1:=zh hlen';clear hlen';have hbnd:∀(v:Int)(z:Tm)(zs:List Value)(W:World),I64 v->SvI base P q g mb xb pv tv cv ov s W->eget s.env v=none->Tm.rep (SA g mb xb tv cv ov) W z zs->Calls Try.prog 68 #[.pointer (some ⟨g,0,none⟩),.int .i64 v,.agg zs.toArray] W (Zhe base P q g mb xb pv tv cv ov {s with env:=s.env++[(v,z)]} W):=fun v z zs W h1 h2 h3 h4=>ZlH v h1 z zs h2 h3 HL1.o h4;have HBND:=zh hbnd;clear hbnd;by_cases hk:x.kind=0
 ·by_cases hk2:y.kind=0
  ·have HR:=zh (show uniS (k+1) [(a,b)] s.env=if x.n=y.n then⟨true,s.env,k⟩else⟨true,s.env++[(max x.n y.n,tvar (min x.n y.n))],k⟩by rw[HONE.o,Znx,if_pos ⟨hk,hk2⟩]);have HFX:=zh (HXF.o hk);have HFY:=zh (HYF.o hk2);rw[hk]at c50;rw[hk2]at c60;clear hk hk2 HONE;rcases Int.lt_trichotomy x.n y.n with hxy|hxy|hxy
   ·have hxy':(x.n != y.n)=true:=by simp;omega
    have hm1:max x.n y.n=y.n:=by omega
    have hm2:min x.n y.n=x.n:=by omega
    have hres:=zh (show uniS (k+1) [(a,b)] s.env=⟨true,s.env++[(y.n,tvar x.n)],k⟩by rw[HR.o,if_neg (by omega),hm1,hm2]);go_wp2_with fail;refine(HBND.o y.n (tvar x.n) [_,_,_,_] w3 HYN.o HU3.o HFY.o (HVAR.o x.n w3 HXN.o)).mono ?_;rintro e w6⟨r,rfl,hst,hxq⟩;have HST:=zh hst;have HWQ:=zh (show WkAt xb k w6 from(hxq HX.o).trans HW3.o);clear hst hxq k0 kf;go_wp2_with fail;go_ret;rw[hres.o];exact⟨rfl,HSTEP HST.o,HWQ.o⟩
   ·rw[<-hxy]at c61;have hres:=zh (show uniS (k+1) [(a,b)] s.env=⟨true,s.env,k⟩by rw[HR.o,if_pos hxy]);clear hxy;go_wp2_with fail;go_ret;rw[hres.o];exact⟨rfl,SBind.of_ch HU3.o HC3.o,HW3.o⟩
   ·have hxy':(x.n != y.n)=true:=by simp;omega
    have hm1:max x.n y.n=x.n:=by omega
    have hm2:min x.n y.n=y.n:=by omega
    have hres:=zh (show uniS (k+1) [(a,b)] s.env=⟨true,s.env++[(x.n,tvar y.n)],k⟩by rw[HR.o,if_neg (by omega),hm1,hm2]);go_wp2_with fail;refine(HBND.o x.n (tvar y.n) [_,_,_,_] w3 HXN.o HU3.o HFX.o (HVAR.o y.n w3 HYN.o)).mono ?_;rintro e w6⟨r,rfl,hst,hxq⟩;have HST:=zh hst;have HWQ:=zh (show WkAt xb k w6 from(hxq HX.o).trans HW3.o);clear hst hxq k0 kf;go_wp2_with fail;go_ret;rw[hres.o];exact⟨rfl,HSTEP HST.o,HWQ.o⟩
  ·have hk2':(y.kind==0)=false:=by simpa using hk2
   have HR:=zh (show uniS (k+1) [(a,b)] s.env=(if(inS s.env x.n k [y]).1=true\/(inS s.env x.n k [y]).2<0 then⟨false,s.env,(inS s.env x.n k [y]).2⟩else⟨true,s.env++[(x.n,y)],((min k (inS s.env x.n k [y]).2.toNat:Nat):Int)⟩)by rw[HONE.o,Znx,if_neg (fun h=>hk2 h.2),if_pos (.inl hk)];simp only[if_neg hk2]);have HFX:=zh (HXF.o hk);have HBB5:=zh (show w3.heap[w.heap.size]?=some (.cells #[.int .i64 0,.int .i64 x.n,.string x.s,.slice xa x.args.length xc] 43 (0,0))by rw[<-hk];exact HB5.o);have HBB6:=zh HB6.o;rw[hk]at c50;clear hk hk2 HONE HB5 HB6;go_wp2_with fail;refine(Zmx x.n HXN.o HX.o HE.o k hk4 y w3 _ HU3.o HW3.o HYI.o HSY.o).mono ?_;rintro e w5⟨rfl,hch5,hw5⟩;have HC5:=zh (HC3.o.trans hch5 (fun _ h=> .inl h));have HW5:=zh hw5;have HU5:=zh (HU.o.ch HX.o HC5.o);have hsz5:=hch5.size;have HY5:=zh (Tm.rep_lasts.1 _ _ _ _ _ HSY.o (hch5.keeps (A:=SA g mb xb tv cv ov) fun b _ hb e=>hb.2 e));have HB55:=zh (show w5.heap[w.heap.size]?=_ from(hch5.block _ (by omega) (fun e=>hne0 e.symm)).trans HBB5.o);have HB56:=zh (show w5.heap[w.heap.size+1]?=_ from(hch5.block _ (by omega) (fun e=>hne1 e.symm)).trans HBB6.o);obtain⟨d50,d51,d52,d53,d5f⟩:=Za0 HB55.o;obtain⟨d60,d61,d62,d63,d6f⟩:=Za0 HB56.o;obtain⟨r0,rf,rl⟩:=hw5.cell;have hple:=Zf4 s.env x.n k [y];have htru:=Zeb s.env x.n k [y];generalize inS s.env x.n k [y]=p at*;obtain⟨pf,pw⟩:=p;simp only at hple htru r0;obtain⟨hp1,hp2⟩:=hple;have HTRU:=zh htru;clear hch5 hw5 htru c50 c51 c52 c53 c5f c60 c61 c62 c63 c6f k0 kf;cases pf with
    |true=>have hpw:0<=pw:=HTRU.o rfl;have hres:=zh (show uniS (k+1) [(a,b)] s.env=⟨false,s.env,pw⟩by rw[HR.o,if_pos (.inl rfl)]);go_wp2_with fail;go_ret;rw[hres.o];exact⟨rfl,SBind.of_ch HU5.o HC5.o,HW5.o⟩
    |false=>
     by_cases hpw:pw<0;·have hres:=zh (show uniS (k+1) [(a,b)] s.env=⟨false,s.env,pw⟩by rw[HR.o,if_pos (.inr hpw)]);go_wp2_with fail;go_ret;rw[hres.o];exact⟨rfl,SBind.of_ch HU5.o HC5.o,HW5.o⟩
     ·obtain⟨pm,rfl⟩:=Int.eq_ofNat_of_zero_le (show 0<=pw by omega);have hres:=zh (show uniS (k+1) [(a,b)] s.env=⟨true,s.env++[(x.n,y)],(pm:Int)⟩by rw[HR.o,if_neg (by simp),show min k (pm:Int).toNat=pm by simp;omega]);go_wp2_with fail;refine(HBND.o x.n y [_,_,_,_] w5 HXN.o HU5.o HFX.o HY5.o).mono ?_;rintro e w6⟨r,rfl,hst,hxq⟩;have HST:=zh (SBind.trans (HC5.o.mono fun x _ e=> .inr e) (fun b h=> .inl h) hst);have HWQ:=zh (show WkAt xb pm w6 from(hxq HX.o).trans HW5.o);clear hst hxq r0 rf;go_wp2_with fail;go_ret;rw[hres.o];exact⟨rfl,HST.o,HWQ.o⟩
 ·have hk':(x.kind==0)=false:=by simpa using hk
  by_cases hk2:y.kind=0
  ·have HR:=zh (show uniS (k+1) [(a,b)] s.env=(if(inS s.env y.n k [x]).1=true\/(inS s.env y.n k [x]).2<0 then⟨false,s.env,(inS s.env y.n k [x]).2⟩else⟨true,s.env++[(y.n,x)],((min k (inS s.env y.n k [x]).2.toNat:Nat):Int)⟩)by rw[HONE.o,Znx,if_neg (fun h=>hk h.1),if_pos (.inr hk2)];simp only[if_pos hk2]);have HFY:=zh (HYF.o hk2);rw[hk2]at c60;have HK2:=zh hk2;clear hk hk2 HONE;go_wp2_with fail;generalize hW4:((((((((w3.setCell ⟨w.heap.size,0,none⟩ (.int .i64 0)).setCell ⟨w.heap.size,1,none⟩ (.int .i64 y.n)).setCell ⟨w.heap.size,2,none⟩ (.string y.s)).setCell ⟨w.heap.size,3,none⟩ (.slice ya y.args.length yc)).setCell ⟨w.heap.size+1,0,none⟩ (.int .i64 x.kind)).setCell ⟨w.heap.size+1,1,none⟩ (.int .i64 x.n)).setCell ⟨w.heap.size+1,2,none⟩ (.string x.s)).setCell ⟨w.heap.size+1,3,none⟩ (.slice xa x.args.length xc))=w4;have hk4':Keeps (fun b=>b≠w.heap.size/\b≠w.heap.size+1) w3 w4:=by subst hW4;exact(Zbx _ _ (fun h=>h.1 rfl) _ _ _ _).trans (Zbx _ _ (fun h=>h.2 rfl) _ _ _ _)
   have HBB5:=zh (show w4.heap[w.heap.size]?=some (.cells #[.int .i64 0,.int .i64 y.n,.string y.s,.slice ya y.args.length yc] 43 (0,0))by subst hW4;exact(Zbp _ _ _ _ _ _ _ (by omega)).trans (Zks HB5.o));have HBB6:=zh (show w4.heap[w.heap.size+1]?=some (.cells #[.int .i64 x.kind,.int .i64 x.n,.string x.s,.slice xa x.args.length xc] 43 (0,0))by subst hW4;exact Zks ((Zbp _ _ _ _ _ _ _ (by omega)).trans HB6.o));have HC4:=zh (show Ch (fun b=>b=xb) w w4 by subst hW4;exact Zgz (Zgz HC3.o (.inr (zL _)) _ _ _ _) (.inr (by omega)) _ _ _ _);have HW4:=zh (show WkAt xb k w4 from Zaj HW3.o hk4' (by omega));have HU4:=zh (HU.o.ch HX.o HC4.o);have HS4:=zh (Tm.rep_lasts.2.1 _ (SA g mb xb tv cv ov) _ _ _ (Tm.rep_lasts.1 _ _ _ _ _ HRX3.o (hk4'.mono (A':=A) fun b _ hb=>by have :=(HA.o b hb).2;omega)) fun b _ hb=>(HA.o b hb).1);obtain⟨e50,e51,e52,e53,e5f⟩:=Za0 HBB5.o;obtain⟨e60,e61,e62,e63,e6f⟩:=Za0 HBB6.o;obtain⟨l0,lf,ll⟩:=HW4.o.cell;have hz4:=hk4'.size;clear hW4 hk4' c50 c51 c52 c53 c5f c60 c61 c62 c63 c6f k0 kf kl;go_wp2_with fail;refine(Zmx y.n HYN.o HX.o HE.o k hk4 x w4 _ HU4.o HW4.o HXI.o HS4.o).mono ?_;rintro e w5⟨rfl,hch5,hw5⟩;have HC5:=zh (HC4.o.trans hch5 (fun _ h=> .inl h));have HW5:=zh hw5;have HU5:=zh (HU.o.ch HX.o HC5.o);have hsz5:=hch5.size;have HY5:=zh (Tm.rep_lasts.1 _ _ _ _ _ HS4.o (hch5.keeps (A:=SA g mb xb tv cv ov) fun b _ hb e=>hb.2 e));have HB55:=zh (show w5.heap[w.heap.size]?=_ from(hch5.block _ (by omega) (fun e=>hne0 e.symm)).trans HBB5.o);have HB56:=zh (show w5.heap[w.heap.size+1]?=_ from(hch5.block _ (by omega) (fun e=>hne1 e.symm)).trans HBB6.o);obtain⟨d50,d51,d52,d53,d5f⟩:=Za0 HB55.o;obtain⟨d60,d61,d62,d63,d6f⟩:=Za0 HB56.o;obtain⟨r0,rf,rl⟩:=hw5.cell;have hple:=Zf4 s.env y.n k [x];have htru:=Zeb s.env y.n k [x];generalize inS s.env y.n k [x]=p at*;obtain⟨pf,pw⟩:=p;simp only at hple htru r0;obtain⟨hp1,hp2⟩:=hple;have HTRU:=zh htru;clear hch5 hw5 htru e50 e51 e52 e53 e5f e60 e61 e62 e63 e6f l0 lf;cases pf with
    |true=>have hpw:0<=pw:=HTRU.o rfl;have hres:=zh (show uniS (k+1) [(a,b)] s.env=⟨false,s.env,pw⟩by rw[HR.o,if_pos (.inl rfl)]);go_wp2_with fail;go_ret;rw[hres.o];exact⟨rfl,SBind.of_ch HU5.o HC5.o,HW5.o⟩
    |false=>
     by_cases hpw:pw<0;·have hres:=zh (show uniS (k+1) [(a,b)] s.env=⟨false,s.env,pw⟩by rw[HR.o,if_pos (.inr hpw)]);go_wp2_with fail;go_ret;rw[hres.o];exact⟨rfl,SBind.of_ch HU5.o HC5.o,HW5.o⟩
     ·obtain⟨pm,rfl⟩:=Int.eq_ofNat_of_zero_le (show 0<=pw by omega);have hres:=zh (show uniS (k+1) [(a,b)] s.env=⟨true,s.env++[(y.n,x)],(pm:Int)⟩by rw[HR.o,if_neg (by simp),show min k (pm:Int).toNat=pm by simp;omega]);go_wp2_with fail;refine(HBND.o y.n x [_,_,_,_] w5 HYN.o HU5.o HFY.o HY5.o).mono ?_;rintro e w6⟨r,rfl,hst,hxq⟩;have HST:=zh (SBind.trans (HC5.o.mono fun x _ e=> .inr e) (fun b h=> .inl h) hst);have HWQ:=zh (show WkAt xb pm w6 from(hxq HX.o).trans HW5.o);clear hst hxq r0 rf;go_wp2_with fail;go_ret;rw[hres.o];exact⟨rfl,HST.o,HWQ.o⟩
  ·have hk2':(y.kind==0)=false:=by simpa using hk2
   have HR:=zh (show uniS (k+1) [(a,b)] s.env=if ¬(x.kind=y.kind/\x.n=y.n/\x.s=y.s/\x.args.length=y.args.length)then⟨false,s.env,k⟩else uniS k (x.args.zip y.args) s.env by rw[HONE.o,Znx,if_neg (fun h=>hk h.1),if_neg (fun h=>h.elim hk hk2)]);clear hk hk2 HONE;by_cases e1:x.kind=y.kind;rotate_left
   ·have hres:=zh (show uniS (k+1) [(a,b)] s.env=⟨false,s.env,k⟩by rw[HR.o,if_pos (fun h=>e1 h.1)]);have e1':(x.kind != y.kind)=true:=by simpa using e1
    clear e1;go_wp2_with fail;go_ret;rw[hres.o];exact⟨rfl,SBind.of_ch HU3.o HC3.o,HW3.o⟩
   rw[<-e1]at c60;have E1:=zh e1;clear e1 hk2';by_cases e2:x.n=y.n;rotate_left
   ·have hres:=zh (show uniS (k+1) [(a,b)] s.env=⟨false,s.env,k⟩by rw[HR.o,if_pos (fun h=>e2 h.2.1)]);have e2':(x.n != y.n)=true:=by simpa using e2
    clear e2;go_wp2_with fail;go_ret;rw[hres.o];exact⟨rfl,SBind.of_ch HU3.o HC3.o,HW3.o⟩
   rw[<-e2]at c61;have E2:=zh e2;clear e2;by_cases e3:x.s=y.s;rotate_left;·have hres:=zh (show uniS (k+1) [(a,b)] s.env=⟨false,s.env,k⟩by rw[HR.o,if_pos (fun h=>e3 h.2.2.1)]);have e3':=ZeD e3;clear e3;go_wp2_with fail;go_ret;rw[hres.o];exact⟨rfl,SBind.of_ch HU3.o HC3.o,HW3.o⟩
   rw[<-e3]at c62;have E3:=zh e3;clear e3;by_cases e4:x.args.length=y.args.length;rotate_left
   ·have hres:=zh (show uniS (k+1) [(a,b)] s.env=⟨false,s.env,k⟩by rw[HR.o,if_pos (fun h=>e4 h.2.2.2)]);have e4':((x.args.length:Int)!= (y.args.length:Int))=true:=by simp;omega
    clear e4;go_wp2_with fail;go_ret;rw[hres.o];exact⟨rfl,SBind.of_ch HU3.o HC3.o,HW3.o⟩
   have hres0:=zh (show uniS (k+1) [(a,b)] s.env=uniS k (x.args.zip y.args) s.env by rw[HR.o,if_neg (by simp[E1.out,E2.out,E3.out,e4])]);have HAX:=zh (show TmsR A w3 x.args (.slice xa x.args.length xc)by obtain⟨_,_,e, -, -, -, -, -, -,h⟩:=Tm.rep4 HRX3.o;simp only[List.cons.injEq,Value.slice.injEq,and_true,true_and]at e;obtain⟨rfl,rfl⟩:=e;exact h);have HAY:=zh (show TmsR A w3 y.args (.slice ya y.args.length yc)by obtain⟨_,_,e, -, -, -, -, -, -,h⟩:=Tm.rep4 HRY3.o;simp only[List.cons.injEq,Value.slice.injEq,and_true,true_and]at e;obtain⟨rfl,rfl⟩:=e;exact h);have hyc1':=hyc1;rw[<-e4]at c63 hyc1';have E4:=zh e4;clear e4 hyc1 HR;unfold maxLen at hxc2 hyc2;go_wp2_with fail;obtain⟨_,_,eb,eo,e9, -, -, -,hea,hee⟩:=HAX.o.at;simp only[Value.slice.injEq,true_and]at e9;obtain⟨rfl,rfl⟩:=e9;obtain⟨_,_,fb,fo,e9, -, -, -,hfa,hfe⟩:=HAY.o.at;simp only[Value.slice.injEq,true_and]at e9;obtain⟨rfl,rfl⟩:=e9;have HEA:=zh hea;have HEE:=zh hee;have HFA:=zh hfa;have HFE:=zh hfe;rw[<-E4.out]at HB6;clear hea hee hfa hfe;go_loopw[9,109](fun _ i wr=>∃(j m:Nat)(E':Env)(tv':Value),j<=x.args.length/\i= .int .i64 (j:Int)/\m<=k/\uniS k ((x.args.zip y.args).take j) s.env=⟨true,E',(m:Int)⟩/\SvI base P q g mb xb pv tv' cv ov {s with env:=E'} wr/\WkAt xb m wr/\Ch (fun b=>SM g mb tv cv ov b\/b=xb) w wr/\(∀b,Zai tv'=some b->Zai tv=some b\/w.heap.size<=b)/\w3.heap.size<=wr.heap.size/\wr.heap[w.heap.size]?=some (.cells #[.int .i64 x.kind,.int .i64 x.n,.string x.s,.slice xa x.args.length xc] 43 (0,0))/\wr.heap[w.heap.size+1]?=some (.cells #[.int .i64 y.kind,.int .i64 y.n,.string y.s,.slice ya x.args.length yc] 43 (0,0)))(fun _ i _=>x.args.length - (intOf i).toNat);case atStart=>exact⟨0,k,s.env,tv,Nat.zero_le _,rfl,zL _,by rw[List.take_zero,Zb3],HU3.o,HW3.o,HC3.o.mono fun x _ e=> .inr e,fun b h=> .inl h,zL _,HB5.o,HB6.o⟩
   case round=>
    obtain⟨j,m,E',tv',hj,rfl,hm,htk,hsv,hwk,hch,hown,hsz,hb5,hb6⟩:=hrel;have HTK:=zh htk;have HSV:=zh hsv;have HWK4:=zh hwk;have HCH:=zh hch;have HOW:=zh hown;have HB54:=zh hb5;have HB64:=zh hb6;obtain⟨q0,qf,ql⟩:=hwk.cell;obtain⟨p50,p51,p52,p53,p5f⟩:=Za0 hb5;obtain⟨p60,p61,p62,p63,p6f⟩:=Za0 hb6;have HLZ:=zh (show(x.args.zip y.args).length=x.args.length by rw[List.length_zip,<-E4.out];exact Nat.min_self _);clear htk hsv hwk hch hown hb5 hb6;by_cases hlt:j<x.args.length
    ·have hlty:j<y.args.length:=by have :=E4.out;omega
     obtain⟨rfl,hAb⟩:=HEA.o (by omega);obtain⟨rfl,hAb'⟩:=HFA.o (by have :=E4.out;omega);have hkA:Keeps A w3 wr:=⟨hsz,fun b hb ha=>by have h1:=HA.o b ha;rw[HCH.o.block b h1.2 (fun e=>e.elim h1.1.1 h1.1.2),HC3.o.block b h1.2 h1.1.2]⟩;obtain⟨sa,sc,g0,g1,g2,g3,hr3⟩:=ZaG HEE.o hAb hkA hlt;obtain⟨sa',sc',i0,i1,i2,i3,hr4⟩:=ZaG HFE.o hAb' hkA hlty;have hmv:=(ZiT HCH.o HOW.o (fun b h=> .inl h) (fun b h=> .inl h)).2;have HR3:=zh (Tm.rep_lasts.2.1 _ (SA g mb xb tv' cv ov) _ _ _ hr3 fun b _ h=>hmv b (HA.o b h));have HR4:=zh (Tm.rep_lasts.2.1 _ (SA g mb xb tv' cv ov) _ _ _ hr4 fun b _ h=>hmv b (HA.o b h));have hz0:(x.args.zip y.args)[j]?=some (x.args[j],y.args[j]):=by rw[List.getElem?_zip_eq_some];exact⟨List.getElem?_eq_getElem hlt,List.getElem?_eq_getElem hlty⟩
     have hjz:j<(x.args.zip y.args).length:=by rw[HLZ.o];exact hlt
     have hzj:(x.args.zip y.args)[j]=(x.args[j],y.args[j]):=by rw[List.getElem?_eq_getElem hjz]at hz0;exact zI hz0
     have hsplit:x.args.zip y.args=(x.args.zip y.args).take j++([(x.args[j],y.args[j])]++(x.args.zip y.args).drop (j+1)):=by
      conv=>lhs;rw[<-List.take_append_drop j (x.args.zip y.args),List.drop_eq_getElem_cons hjz,hzj]
      rfl
     have HSP:=zh (show uniS k (x.args.zip y.args) s.env=uniS m ([(x.args[j],y.args[j])]++(x.args.zip y.args).drop (j+1)) E' by
      conv=>lhs;rw[hsplit]
      rw[Zgw,HTK.o,if_pos rfl];simp);have HNX:=zh (show uniS k ((x.args.zip y.args).take (j+1)) s.env=uniS m [(x.args[j],y.args[j])] E' by rw[List.take_succ_eq_append_getElem hjz,hzj,Zgw,HTK.o,if_pos rfl];simp);have HEO:=zh (show EnvOk N E' by have :=(Zcd k ((x.args.zip y.args).take j) s.env HE.o (fun p hp=>by have :=List.of_mem_zip (List.mem_of_mem_take hp);exact⟨HXI.o.arg this.1,HYI.o.arg this.2⟩)).1;rw[HTK.o]at this;exact this);have HLE:=zh (show E'.length+m<=1000000 by have :=Zly k ((x.args.zip y.args).take j) s.env (by rw[HTK.o]);rw[HTK.o]at this;have h2:=HLEN.o;simp only[Int.toNat_natCast]at this;omega);have hj0:(0:Int)<=(j:Int):=zN _;have hj1:(j:Int)<(x.args.length:Int):=by omega
     clear hsplit hr3 hr4 hkA hmv hz0 hzj hjz;go_wp2_with fail;go_still_tail 12,(by kernel_rfl);change wpList _ _ _ _ _ wr.drew;have HCALL:=zh (IH.out m hm tv' {s with env:=E'} x.args[j] y.args[j] wr.drew _ _ (HSV.o.below ((zB _ _).drew)) (show WkAt xb m wr.drew from HWK4.o) HEO.o (HXI.o.arg (List.getElem_mem hlt)) (HYI.o.arg (List.getElem_mem hlty)) (Tm.rep_lasts.1 _ _ _ _ _ HR3.o (Keeps.drew _ _)) (Tm.rep_lasts.1 _ _ _ _ _ HR4.o (Keeps.drew _ _)) HLE.o);have HNB5:=zh (HSV.o.box_free HB54.o);have HNB6:=zh (HSV.o.box_free HB64.o);have HBD5:=zh (show wr.drew.heap[w.heap.size]?=_ from HB54.o);have HBD6:=zh (show wr.drew.heap[w.heap.size+1]?=_ from HB64.o);have HCD:=zh (HCH.o.drew);have hszd:w3.heap.size<=wr.drew.heap.size:=hsz;generalize wr.drew=wd at*;clear g0 g1 g2 g3 i0 i1 i2 i3 p50 p51 p52 p53 p5f p60 p61 p62 p63 p6f q0 qf ql;go_wp2_with fail;refine(HCALL.o).mono ?_;rintro e w5⟨rfl,⟨tv5,hsv5,hch5,how5⟩,hwk5⟩;have HSV5:=zh hsv5;have HWK5:=zh hwk5;have hxlt:w.heap.size<wd.heap.size:=Zag HBD5.o;have hxlt1:w.heap.size+1<wd.heap.size:=Zag HBD6.o;have HB55:=zh ((hch5.block _ hxlt (fun e=>e.elim HNB5.o (fun e=>hne0 e.symm))).trans HBD5.o);have HB65:=zh ((hch5.block _ hxlt1 (fun e=>e.elim HNB6.o (fun e=>hne1 e.symm))).trans HBD6.o);have hs5:=hch5.size;have HSB:=zh (SBind.trans HCD.o (fun b hb=>HOW.o b hb) (⟨tv5,hsv5,hch5.mono fun _ _ h=>h,how5⟩:SBind base P q g mb xb pv tv' cv ov _ wd w5));have HOW5:=zh (show ∀b,Zai tv5=some b->Zai tv=some b\/w.heap.size<=b from fun b hb=>(how5 b hb).elim (fun h=>HOW.o b h) (fun h=> .inr (by omega)));have HCH5:=zh (show Ch (fun b=>SM g mb tv cv ov b\/b=xb) w w5 from HCD.o.trans hch5 (fun b hb=>by
      rcases hb with(e|e|e|e|e)|e;·exact .inl (.inl (.inl e))
      ·exact .inl (.inl (.inr (.inl e)))
      ·rcases HOW.o b e with h|h;·exact .inl (.inl (.inr (.inr (.inl h))))
       ·exact .inr h
      ·exact .inl (.inl (.inr (.inr (.inr (.inl e)))))
      ·exact .inl (.inl (.inr (.inr (.inr (.inr e)))))
      ·exact .inl (.inr e)));have happ:=Zgw m [(x.args[j],y.args[j])] ((x.args.zip y.args).drop (j+1)) E';have hwrk:=Zkm m [(x.args[j],y.args[j])] E';obtain⟨u5,hu5⟩:∃u5,u5=uniS m [(x.args[j],y.args[j])] E':=⟨_,rfl⟩;rw[<-hu5]at happ hwrk HSV5 HWK5 HNX HSB ⊢;have HAPP:=zh happ;obtain⟨uo,ue,uw⟩:=u5;simp only at hwrk;obtain⟨hwr1,hwr2,hwr3⟩:=hwrk;have HWR3:=zh hwr3;clear hsv5 hwk5 hch5 how5 happ hu5 hwr3;cases uo with
      |false=>have hres:=zh (show uniS (k+1) [(a,b)] s.env=⟨false,ue,uw⟩by rw[hres0.o,HSP.o,HAPP.o,if_neg (by simp)]);go_wp2_with fail;go_ret;rw[hres.o];exact⟨rfl,HSB.o,HWK5.o⟩
      |true=>
       obtain⟨pm,hpm⟩:=Int.eq_ofNat_of_zero_le (HWR3.o rfl);have HPM:=zh hpm;clear hpm;go_wp2_with fail;go_roundw;case rel=>have hpm:=HPM.o;subst hpm;exact⟨j+1,pm,ue,tv5,by omega,by go_num,by omega,HNX.o,HSV5.o,HWK5.o,HCH5.o,HOW5.o,by omega,HB55.o,HB65.o⟩
       case measure=>simp[intOf];omega
    ·have hje:j=x.args.length:=by omega
     have hres:=zh (show uniS (k+1) [(a,b)] s.env=⟨true,E',(m:Int)⟩by have :=HTK.o;rw[List.take_of_length_le (by rw[HLZ.o];omega)]at this;rw[hres0.o,this]);clear hje;go_wp2_with fail;go_ret;rw[hres.o];exact⟨rfl,⟨tv',HSV.o,HCH.o,HOW.o⟩,HWK4.o⟩
theorem Zeg(hx:xb≠g):∀k,k<=400->ZiU base P q g mb xb pv cv ov N k:=by intro k;induction k using Nat.strongRecOn with|_ k ih=>intro hk;cases k with|zero=>exact Zh2 hx|succ k=>exact Zh3 hx k (by omega) fun m hm=>ih m (by omega) (by omega)
end
theorem SlR.dropS{α:Type}{size:Nat}{R:(Nat->Prop)->World->α->List Value->Prop}{A:Nat->Prop}{w:World}{l:List α}{a:Option Addr}{len cap:Nat}(h:SlR size R A w l (.slice a len cap)){k:Nat}(hk:k<=l.length):SlR size R A w (l.drop k) (.slice (if cap=k then a else a.map fun x=>x.add (k*size)) (len - k) (cap - k)):=by
 obtain⟨b,off,hs,he⟩:=h;refine⟨b,off+k*size,?_,fun i x hx=>?_⟩
 ·obtain⟨h1,⟨h0,a',c',e,hc⟩|⟨h0,hA,c',e,hc,hm⟩⟩:=hs;·simp only[Value.slice.injEq]at e;obtain⟨rfl,rfl,rfl⟩:=e;exact⟨by simp;omega,.inl ⟨by simp;omega,_,_,by rw[Nat.zero_sub],by omega⟩⟩
  ·simp only[Value.slice.injEq]at e;obtain⟨rfl,rfl,rfl⟩:=e;by_cases hkl:k=l.length;·exact⟨by simp;omega,.inl ⟨by simp;omega,_,_,by rw[hkl,Nat.sub_self],by omega⟩⟩
   ·refine⟨by simp;omega,.inr ⟨by simp;omega,hA,cap - k,?_,by simp;omega,by omega⟩⟩;rw[if_neg (by omega),List.length_drop];simp[Addr.add]
 ·rw[List.getElem?_drop]at hx;obtain⟨vs,h1,h2,h3⟩:=he _ _ hx;exact⟨vs,h1,h2,by rw[show off+k*size+i*size=off+(k+i)*size by rw[Nat.add_mul];omega];exact h3⟩
theorem Ze4(W:World)(a:Option Addr)(len cap m:Nat)(hm:m<=len):(Instr.slice 37 (.slice a len cap) (some (.int .i64 (m:Int))) none none).run Try.prog W= .ok (.slice (if cap=m then a else a.map fun x=>x.add (m*1)) (len - m) (cap - m)) W:=by
 have h0:(0:Int)<=(m:Int):=zN _;have h1:(m:Int)<=(len:Int):=by omega
 rw[Go.run_slice_l (P:=Try.prog) (w:=W) (t:=37) (a:=a) (len:=len) (cap:=cap) (ht:=by kernel_rfl) (kl:= .i64) (l:=(m:Int)) h0 h1];obtain⟨⟨i,z,ht,hi,hz,k1,k2,k3⟩, -⟩:=Za1;have e:Program.elem Try.prog 37=3:=by kernel_rfl
 simp[e,sizeOf,typeInfo,hi,k1,sliced]
theorem ZlK:ElemTy Try.prog 24 71 2 32:= .mk' (z:= .agg #[.int .i64 0,.slice none 0 0]) Try.underlying24 (by kernel_rfl) rfl (by omega) (by omega)
section
variable {base : Nat} {P : List Cl} {q g mb xb : Nat} {pv tv cv ov tv' cv' ov' : Value} {s s' : Sv} {N : Int} {w w' : World}
def SStep(base:Nat)(P:List Cl)(q g mb:Nat)(pv tv cv ov:Value)(s':Sv)(w w':World):Prop:=∃tv' cv' ov',SvI base P q g mb g pv tv' cv' ov' s' w'/\Ch (SM g mb tv cv ov) w w'/\(∀b,Zai tv'=some b->Zai tv=some b\/w.heap.size<=b)/\(∀b,Zai cv'=some b->Zai cv=some b\/w.heap.size<=b)/\(∀b,Zai ov'=some b->Zai ov=some b\/w.heap.size<=b)
theorem SStep.refl(h:SvI base P q g mb g pv tv cv ov s w):SStep base P q g mb pv tv cv ov s w w:=⟨tv,cv,ov,h,Ch.refl _ _,fun b h=> .inl h,fun b h=> .inl h,fun b h=> .inl h⟩
theorem ZgD(ht:∀b,Zai tv'=some b->Zai tv=some b\/w.heap.size<=b)(hc:∀b,Zai cv'=some b->Zai cv=some b\/w.heap.size<=b)(ho:∀b,Zai ov'=some b->Zai ov=some b\/w.heap.size<=b):∀b,SM g mb tv' cv' ov' b->SM g mb tv cv ov b\/w.heap.size<=b:=by
 rintro b(e|e|e|e|e);·exact .inl (.inl e)
 ·exact .inl (.inr (.inl e))
 ·exact(ht b e).imp (fun h=> .inr (.inr (.inl h))) id
 ·exact(hc b e).imp (fun h=> .inr (.inr (.inr (.inl h)))) id
 ·exact(ho b e).imp (fun h=> .inr (.inr (.inr (.inr h)))) id
theorem SStep.trans{w'':World}(hch:Ch (SM g mb tv cv ov) w w')(ht:∀b,Zai tv'=some b->Zai tv=some b\/w.heap.size<=b)(hc:∀b,Zai cv'=some b->Zai cv=some b\/w.heap.size<=b)(ho:∀b,Zai ov'=some b->Zai ov=some b\/w.heap.size<=b)(h:SStep base P q g mb pv tv' cv' ov' s' w' w''):SStep base P q g mb pv tv cv ov s' w w'':=by
 obtain⟨t2,c2,o2,h1,h2,h3,h4,h5⟩:=h;have hs:=hch.size;refine⟨t2,c2,o2,h1,hch.trans h2 (ZgD ht hc ho),fun b hb=>?_,fun b hb=>?_,fun b hb=>?_⟩;·exact(h3 b hb).elim (fun e=>ht b e) (fun e=> .inr (Nat.le_trans hs e))
 ·exact(h4 b hb).elim (fun e=>hc b e) (fun e=> .inr (Nat.le_trans hs e))
 ·exact(h5 b hb).elim (fun e=>ho b e) (fun e=> .inr (Nat.le_trans hs e))
theorem ZfB(hc:Ch (SM g mb tv cv ov) w w')(ht:∀b,Zai tv'=some b->Zai tv=some b\/w.heap.size<=b)(hcv:∀b,Zai cv'=some b->Zai cv=some b\/w.heap.size<=b)(hov:∀b,Zai ov'=some b->Zai ov=some b\/w.heap.size<=b):Keeps (fun b=>SA g mb g tv cv ov b/\b<w.heap.size) w w'/\∀b,(SA g mb g tv cv ov b/\b<w.heap.size)->SA g mb g tv' cv' ov' b:=ZiT (xb:=g) (hc.mono fun b _ h=> .inl h) ht hcv hov
theorem GlsR.move{l:List Gl}{v:Value}(h:GlsR (SA g mb g tv cv ov) w l v)(hc:Ch (SM g mb tv cv ov) w w')(ht:∀b,Zai tv'=some b->Zai tv=some b\/w.heap.size<=b)(hcv:∀b,Zai cv'=some b->Zai cv=some b\/w.heap.size<=b)(hov:∀b,Zai ov'=some b->Zai ov=some b\/w.heap.size<=b):GlsR (SA g mb g tv' cv' ov') w' l v:=by obtain⟨h1,h2⟩:=ZfB hc ht hcv hov;exact((h.mono (A':=fun b=>SA g mb g tv cv ov b/\b<w.heap.size) fun b hb hA=>⟨hA,hb⟩).keeps h1).mono fun b _ hb=>h2 b hb
theorem SvI.tell{e:Ev}{ov2:Value}{w2:World}{cells:Array Value}(h:SvI base P q g mb g pv tv cv ov s w)(hsz:s.out.length+1<=20)(hown:OwnR w2 base 71 2 evR (SA g mb g tv cv ov) (s.out++[e]) ov2)(hg:Grew (w.alloc (.cells cells 71)) w2 ov ov2):SStep base P q g mb pv tv cv ov {s with out:=s.out++[e]} w (w2.setCell ⟨g,6,none⟩ ov2):=by
 have hap:=h.apart;have hlt:=h.lt;have hog:∀b,Zai ov2=some b->Zai ov=some b\/w.heap.size<=b:=fun b hb=>by
  rcases hg.block with e|e;·exact .inl (e▸hb)
  ·have :=e b hb;simp only[World.size_alloc]at this;exact .inr (by omega)
 have hch0:Ch (fun b=>b=g\/Zai ov=some b) w (w2.setCell ⟨g,6,none⟩ ov2):=(hg.ch ((Ch.refl _ _).alloc _) (fun b hb=> .inl (.inr hb))).setCell (p:=⟨g,6,none⟩) (.inl (.inl rfl)) _;have hch:Ch (SM g mb tv cv ov) w (w2.setCell ⟨g,6,none⟩ ov2):=hch0.mono fun b _ hb=>hb.elim .inl fun e=> .inr (.inr (.inr (.inr e)));have hmid:=ZfB (tv':=tv) (cv':=cv) (ov':=ov2) hch (fun b h=> .inl h) (fun b h=> .inl h) hog;have hlb:=h.sm_lt;have hB2:w2.heap[g]?=_:=(hg.grown.block g (by simp;omega) (fun e=>hap.og e.symm)).trans (Zaf h.box _);refine⟨tv,cv,ov2,?_,hch,fun b h=> .inl h,fun b h=> .inl h,hog⟩;obtain⟨h1,h2,h3,h4,h5,h6,h7,h8,h8',h8'',h9,h10,h11,h12,h13,h14,h15,h16⟩:=h;have hk0:Keeps (fun b=>¬(b=g\/Zai ov=some b)) w (w2.setCell ⟨g,6,none⟩ ov2):=hch0.keeps fun b _ hb=>hb;refine⟨(Zal hB2 6 _).trans rfl,?_,?_,?_,?_,?_,h7,h8,h8',Nat.lt_of_lt_of_le h8'' hch.size,.inl rfl,h10,h11,h12,h13,h14,h15,by simpa using hsz⟩;·exact SlR.keeps Cl.rep_lasts h2 (hch.keeps fun b hb hA e=>by have :=(hlb b e).1;omega)
 ·obtain⟨L,hm,hL⟩:=h3;refine⟨L,hm.keeps hk0 (fun e=>e.elim (fun e=>?_) hap.om),((hL.mono (A':=fun b=>SA g mb g tv cv ov b/\b<w.heap.size) fun b hb hA=>⟨hA,hb⟩).keeps hmid.1).mono fun b _ hb=>hmid.2 b hb⟩;obtain⟨es,clock,hm1,_⟩:=hm;rw[e,h1]at hm1;simp at hm1
 ·exact⟨Own.keeps h4.1 hk0 (fun b hb e=>e.elim (fun e=>hap.tg (e▸hb)) (fun e=>hap.too b hb e)),h4.2⟩
 ·refine((h5.mono (A':=fun b=>SA g mb g tv cv ov b/\b<w.heap.size) ZaI fun b hb hA=>⟨hA,hb⟩).keeps ZaI hk0 (fun b hb e=>hb.1.1 (e.elim .inl fun e=> .inr (.inr (.inr (.inr e))))) (fun b hb e=>e.elim (fun e=>hap.cg (e▸hb)) (fun e=>hap.co b hb e))).mono ZaI fun b _ hb=>hmid.2 b hb
 ·have hng:Zai ov2≠some g:=fun e=>by
   rcases hog g e with e|e;·exact hap.og e
   ·omega
  refine(hown.keeps (B:=fun b=>b≠g) ZaB (Keeps.setCell _ _ _ _ (fun h=>h rfl)) (fun b hb=>hb.2) (fun b hb e=>hng (e▸hb))).mono' ZaB fun b hb hA hn=>⟨fun hs=>?_,hA.2⟩;rcases hs with e|e|e|e|e;·exact hA.1 (.inl e)
  ·exact hA.1 (.inr (.inl e))
  ·exact hA.1 (.inr (.inr (.inl e)))
  ·exact hA.1 (.inr (.inr (.inr (.inl e))))
  ·exact hn e
def ZlL(base:Nat)(P:List Cl)(q g mb:Nat)(pv tv cv ov:Value)(s':Sv)(w:World)(e:Ending)(w':World):Prop:=e= .returned (.bool false)/\SStep base P q g mb pv tv cv ov s' w w'
theorem ZbO(kind:Int)(hk:I64 kind)(h:SvI base P q g mb g pv tv cv ov s w)(hsz:s.out.length+1<=20):Calls Try.prog 25 #[.pointer (some ⟨g,0,none⟩),.int .i64 kind] w (ZlL base P q g mb pv tv cv ov (s.put kind) w):=by have HU:=zh h;have HK:=zh hk;have HSZ:=zh hsz;have HAP:=zh h.apart;obtain⟨pa,pc,ta,tc,ca,cc,oa,oc,rfl,rfl,rfl,rfl, -⟩:=h.vals;obtain⟨hl1,hl2,hl3⟩:=h.lt;obtain⟨b0,b1,b2,b3,b4,b5,b6,b7,bf⟩:=ZbW h.box;have hcs:=Zak;clear h hk;go_enter Try.func25,Try.ntmps25;go_wp2_with(at_builtin;go_must(refine Zau rfl (.tmp 9) (.tmp 12) 24 rfl base 71 2 32 ZlK ZaB (A:=SA g mb g (.slice ta s.env.length tc) (.slice ca s.choices.length cc) (.slice oa s.out.length oc)) (.slice oa s.out.length oc) s.out rfl HU.o.out ⟨kind,[]⟩ [.int .i64 kind,.slice none 0 0] (by rfl) rfl ⟨_,rfl,SlR.nil ..,HK.o⟩ ⟨by omega,by omega⟩ ?_);go_must(intro v2 w2 hown hgrew;have hB2:=(hgrew.grown.block g (by simp;omega) (fun e=>HAP.o.og e.symm)).trans (Zaf HU.o.box _);obtain⟨va2,vc2,hv2,hvl2,hvm2⟩:=OwnR.val' hown;rw[show(s.out++[(⟨kind,[]⟩:Ev)]).length=s.out.length+1 by simp]at hv2;subst hv2;have HO2:=zh hown;have HG2:=zh hgrew;obtain⟨k0,k1,k2,k3,k4,k5,k6,k7,kf⟩:=ZbW hB2;clear hown hgrew hB2));go_ret;exact⟨rfl,HU.o.tell HSZ.o HO2.o HG2.o⟩
def Zkx(w:World)(a b:Tm)(e:Ending)(w':World):Prop:=∃t,e= .returned (.bool t)/\Below w.heap.size w w'/\(t=true↔ZbK a b)
theorem ZgE(a b:Tm)(A A':Nat->Prop)(w:World)(us vs:List Value)(ha:Tm.rep A w a us)(hb:Tm.rep A' w b vs):Calls Try.prog 31 #[.agg us.toArray,.agg vs.toArray] w (Zkx w a b):=by
 obtain⟨aa,aca,rfl, -⟩:=Tm.rep4 ha;obtain⟨ba,bca,rfl, -⟩:=Tm.rep4 hb;have hB:=zh (((Below.refl _ w).alloc (zL _) (.cells #[.int .i64 a.kind,.int .i64 a.n,.string a.s,.slice aa a.args.length aca] 43)).alloc (by simp) (.cells #[.int .i64 b.kind,.int .i64 b.n,.string b.s,.slice ba b.args.length bca] 43));have hd:=Classical.em (ZbK a b);by_cases e1:a.s=b.s
 ·by_cases e2:a.args.length=b.args.length;·have hL:=zh (show ZbK a b from⟨e1,e2⟩);rw[<-e1,<-e2]at hB ⊢;clear ha hb e1 e2 hd;go_enter Try.func31,Try.ntmps31;go_wp2_with fail;go_ret;exact⟨true,rfl,hB.out,by simp[hL.out]⟩
  ·have hL:=zh (show ¬ZbK a b from fun h=>e2 h.2);have e2':((a.args.length:Int)==(b.args.length:Int))=false:=by simp;omega
   rw[<-e1]at hB ⊢;clear ha hb e1 e2 hd;go_enter Try.func31,Try.ntmps31;go_wp2_with fail;go_ret;exact⟨false,rfl,hB.out,by simp[hL.out]⟩
 ·have hL:=zh (show ¬ZbK a b from fun h=>e1 h.1);have e1':=ZeD e1;clear ha hb e1 hd;go_enter Try.func31,Try.ntmps31;go_wp2_with fail;go_ret;exact⟨false,rfl,hB.out,by simp[hL.out]⟩
end
theorem Zdj{α β:Type}(f:α->β):∀(l:List α)(i:Nat),(l.eraseIdx i).map f=(l.map f).eraseIdx i|[],_=>rfl|x::l,0=>rfl|x::l,i+1=>by simp[Zdj f l i]
section
variable {P : Program} {t e : TypeId} {z : Value} {w : World} {r : Nat} {L1 L2 : List (Int × Value)} {n : Int} {v : Value}
theorem Zh4(hty:Ze8 P t e z)(h:MapIs w r (L1++(n,v)::L2))(hn:∀p∈L1,p.1≠n)(kt:TypeId):∃w',(∀ty,(Builtin.delete_ #[t,kt] ty #[.map (some r),.int .i64 n]).run P w= .ok (.tuple #[]) w')/\MapIs w' r (L1++L2)/\Ch (fun b=>b=r) w w'/\w'.heap.size=w.heap.size:=by
 obtain⟨k,ht,hk,hz⟩:=hty;obtain⟨es,clock,h1,h2⟩:=h;obtain⟨x,h3,h4,h5⟩:=ZcS n es.toList (L1++(n,v)::L2) 0 h2;have hg:mget (L1++(n,v)::L2) n=some v:=by unfold mget;rw[List.find?_append,List.find?_eq_none.2 (by simpa using hn)];simp
 rw[hg]at h4;match x,h3,h4,h5 with
  |none,h3,h4,h5=>simp at h4
  |some (i,u),h3,h4,h5=>
   obtain⟨-,⟨en,he1,he2⟩,h6⟩:=h5 i u rfl;simp only[Nat.sub_zero]at he1 h6;have hL:es.toList.length=(L1++(n,v)::L2).length:=by have :=congrArg List.length h2;simpa using this
   have hi:i=L1.length:=by
    rcases Nat.lt_trichotomy i L1.length with h7|h7|h7
    ·have h8:(es.toList.map (fun e=>(e.key,e.val)))[i]?=some (en.key,en.val):=by rw[List.getElem?_map,he1];rfl
     rw[h2,List.getElem?_map,List.getElem?_append_left h7,List.getElem?_eq_getElem h7]at h8;simp only[Option.map_some,Option.some.injEq,Prod.mk.injEq]at h8;rw[he2]at h8;have :=h8.1;simp only[Value.int.injEq,true_and]at this;exact absurd this (hn _ (List.getElem_mem h7))
    ·exact h7
    ·exact absurd rfl (h6 L1.length h7 (n,v) (by simp))
   subst hi;have h7:=ZdT (P:=P) (w:=w) k hk es.toList _ h3;have h8:=Zda (P:=P) (w:=w) (n:=n) k hk es.isEmpty;have hlt:=Zag h1;refine⟨{w with heap:=w.heap.setIfInBounds r (.map (es.eraseIdxIfInBounds L1.length) clock)},fun ty=>?_,⟨es.eraseIdxIfInBounds L1.length,clock,?_,?_⟩,⟨rfl,rfl,rfl,by simp,fun b hb hne=>?_⟩,by simp⟩;·simp[Builtin.delete_,run_underlying ht,getObj,setObj,Sem.run,h1,h7,h8]
   ·simp[hlt]
   ·have hb:L1.length<es.size:=by rw[Array.length_toList]at hL;rw[hL];simp
    rw[Array.eraseIdxIfInBounds,dif_pos hb,Array.toList_eraseIdx,Zdj,h2,<-Zdj,List.eraseIdx_append_of_length_le (zL _)];simp
   ·rw[Array.getElem?_setIfInBounds_ne (Ne.symm hne)]
end
section
variable {base : Nat} {P : List Cl} {q g mb xb : Nat} {pv tv cv ov : Value} {s : Sv} {w : World}
def Zky(base:Nat)(P:List Cl)(q g mb:Nat)(pv tv cv ov:Value)(s':Sv)(w:World)(e:Ending)(w':World):Prop:=∃r,e= .returned r/\SStep base P q g mb pv tv cv ov s' w w'
theorem SvI.untrail{n:Nat}{wr:World}{ta:Option Addr}{tc:Nat}(h:SvI base P q g mb g pv (.slice ta s.env.length tc) cv ov s w)(hT:OwnN w base ((s.env.take n).map (·.1)) (.slice ta n tc))(hn:n<=s.env.length)(hc:Ch (fun b=>b=mb) w wr)(hE:∃L,MapIs wr mb L/\EnvL (SA g mb g (.slice ta s.env.length tc) cv ov) w (s.env.take n) L)(hap:Apart g mb (.slice ta s.env.length tc) cv ov)(hgm:mb≠g):SStep base P q g mb pv (.slice ta s.env.length tc) cv ov {s with env:=s.env.take n} w (wr.setCell ⟨g,2,none⟩ (.slice ta n tc)):=by
 have hlt:=h.lt;have ho:Zai (.slice ta n tc)=Zai (.slice ta s.env.length tc):=by cases ta<;>rfl
 have hch0:Ch (fun b=>b=g\/b=mb) w (wr.setCell ⟨g,2,none⟩ (.slice ta n tc)):=(hc.mono fun b _ e=> .inr e).setCell (p:=⟨g,2,none⟩) (.inl (.inl rfl)) _;have hch:Ch (SM g mb (.slice ta s.env.length tc) cv ov) w (wr.setCell ⟨g,2,none⟩ (.slice ta n tc)):=hch0.mono fun b _ hb=>hb.elim .inl fun e=> .inr (.inl e);have hk0:Keeps (fun b=>¬(b=g\/b=mb)) w (wr.setCell ⟨g,2,none⟩ (.slice ta n tc)):=hch0.keeps fun b _ hb=>hb;have hlb:=h.sm_lt;have htt:∀b,Zai (.slice ta n tc)=some b->Zai (.slice ta s.env.length tc)=some b\/w.heap.size<=b:=fun b hb=> .inl (ho▸hb);have hmid:=ZfB (tv':= .slice ta n tc) (cv':=cv) (ov':=ov) hch htt (fun b h=> .inl h) (fun b h=> .inl h);refine⟨.slice ta n tc,cv,ov,?_,hch,htt,fun b h=> .inl h,fun b h=> .inl h⟩;obtain⟨h1,h2,h3,h4,h5,h6,h7,h8,h8',h8'',h9,h10,h11,h12,h13,h14,h15,h16⟩:=h;refine⟨(Zal ((hc.block g hlt.1 (fun e=>hgm e.symm)).trans h1) 2 _).trans rfl,?_,?_,?_,?_,?_,h7,h8,h8',Nat.lt_of_lt_of_le h8'' hch.size,.inl rfl,h10,h11,h12,h13,by simp only[List.length_take];omega,h15,h16⟩;·exact SlR.keeps Cl.rep_lasts h2 (hch.keeps fun b hb hA e=>by have :=(hlb b e).1;omega)
 ·obtain⟨L,hm,hL⟩:=hE;exact⟨L,hm.keeps (Keeps.setCell (fun b=>b≠g) _ _ _ (fun h=>h rfl)) hgm,((hL.mono (A':=fun b=>SA g mb g (.slice ta s.env.length tc) cv ov b/\b<w.heap.size) fun b hb hA=>⟨hA,hb⟩).keeps hmid.1).mono fun b _ hb=>hmid.2 b hb⟩
 ·exact⟨Own.keeps hT.1 hk0 (fun b hb e=>e.elim (fun e=>hap.tg (by rw[<-ho,<-e];exact hb)) (fun e=>hap.tm (by rw[<-ho,<-e];exact hb))),hT.2⟩
 ·refine((h5.mono (A':=fun b=>SA g mb g (.slice ta s.env.length tc) cv ov b/\b<w.heap.size) ZaI fun b hb hA=>⟨hA,hb⟩).keeps ZaI hk0 (fun b hb e=>hb.1.1 (e.elim .inl fun e=> .inr (.inl e))) (fun b hb e=>e.elim (fun e=>hap.cg (e▸hb)) (fun e=>hap.cm (e▸hb)))).mono ZaI fun b _ hb=>hmid.2 b hb
 ·refine((h6.mono (A':=fun b=>SA g mb g (.slice ta s.env.length tc) cv ov b/\b<w.heap.size) ZaB fun b hb hA=>⟨hA,hb⟩).keeps ZaB hk0 (fun b hb e=>hb.1.1 (e.elim .inl fun e=> .inr (.inl e))) (fun b hb e=>e.elim (fun e=>hap.og (e▸hb)) (fun e=>hap.om (e▸hb)))).mono ZaB fun b _ hb=>hmid.2 b hb
theorem Zhf{α:Type}(l:List α)(n j:Nat)(h:n+j<l.length):l.take n++l.drop (n+j)=l.take n++l[n+j]::l.drop (n+(j+1)):=by rw[List.drop_eq_getElem_cons h];rfl
theorem ZgF(n:Nat)(h:SvI base P q g mb g pv tv cv ov s w)(hn:n<=s.env.length)(hE:(s.env.map (·.1)).Nodup):Calls Try.prog 27 #[.pointer (some ⟨g,0,none⟩),.int .i64 (n:Int)] w (Zky base P q g mb pv tv cv ov {s with env:=s.env.take n} w):=by
 have HU:=zh h;have HN:=zh hn;have HND:=zh hE;have HAP:=zh h.apart;have hgm:=h.mb_ne;have hgm':g≠mb:=fun e=>hgm e.symm;obtain⟨pa,pc,ta,tc,ca,cc,oa,oc,rfl,rfl,rfl,rfl, -, -,ht1,ht2, -⟩:=h.vals;obtain⟨hl1,hl2,hl3⟩:=h.lt;obtain⟨b0,b1,b2,b3,b4,b5,b6,b7,bf⟩:=ZbW h.box;have hlen:=h.len;have hcs:=Zak;obtain⟨L,hM,hL⟩:=h.env;have HM:=zh hM;have HL:=zh hL;have hkeys:=hL.keys;have HLK:=zh hkeys;have hLl:L.length=s.env.length:=by have :=congrArg List.length hkeys;simpa using this
 have HLL:=zh hLl;have hT:OwnN w base (s.env.map (·.1)) (.slice ta (s.env.map (·.1)).length tc):=by simpa using h.trail
 have HT:=zh hT;have hsl:=hT.sl (by simp;omega) (A:=fun _=>True) (fun _ _=>trivial);have HDR:=zh (SlR.dropS hsl (show n<=(s.env.map (·.1)).length by simpa using hn));simp only[List.length_map]at HDR;obtain⟨sa,hsa⟩:∃sa,sa=(if tc=n then ta else ta.map fun x=>x.add (n*1)):=⟨_,rfl⟩;rw[<-hsa]at HDR;have HSA:=zh hsa;obtain⟨_,_,db,doff,e, -, -, -,hda,hde⟩:=SlR.at HDR.o;simp only[Value.slice.injEq,List.length_drop,List.length_map]at e;obtain⟨rfl, -,rfl⟩:=e;have HDA:=zh hda;have HDE:=zh hde;have qS:∀W:World,(Instr.slice 37 (.slice ta s.env.length tc) (some (.int .i64 (n:Int))) none none).run Try.prog W= .ok (.slice sa (s.env.length - n) (tc - n)) W:=fun W=>by rw[HSA.o];exact Ze4 W ta s.env.length tc n hn
 have hn1:(n:Int)<=(s.env.length:Int):=by omega
 have hn0:(0:Int)<=(n:Int):=zN _;have hnt:(n:Int)<=(tc:Int):=by omega
 unfold maxLen at ht2;clear h hE hM hL hkeys hLl hT hsl hsa hda hde hn;go_enter Try.func27,Try.ntmps27;go_wp2_with fail;go_loopw[5,13](fun _ i wr=>∃j:Nat,j<=s.env.length - n/\i= .int .i64 (j:Int)/\MapIs wr mb (L.take n++L.drop (n+j))/\Ch (fun b=>b=mb) w wr)(fun _ i _=>s.env.length - n - (intOf i).toNat);case atStart=>exact⟨0,Nat.zero_le _,rfl,by rw[Nat.add_zero,List.take_append_drop];exact HM.o,Ch.refl _ _⟩
 case round=>
  obtain⟨j,hj,rfl,hm,hch⟩:=hrel;have HM4:=zh hm;have HCH:=zh hch;have HB4:=zh ((hch.block g hl1 hgm').trans HU.o.box);obtain⟨d0,d1,d2,d3,d4,d5,d6,d7,df⟩:=ZbW HB4.o;clear b0 b1 b2 b3 b4 b5 b6 b7 bf hm hch;by_cases hlt:j<s.env.length - n
  ·have hjl:n+j<L.length:=by rw[HLL.o];omega
   have hjm:n+j<(s.env.map (·.1)).length:=by simp;omega
   have hkey:(L[n+j]).1=(s.env.map (·.1))[n+j]:=by
    have :=HLK.o;have h2:(L.map (·.1))[n+j]'(by simpa using hjl)=(s.env.map (·.1))[n+j]:=by simp only[this]
    simpa using h2
   obtain⟨rfl, -⟩:=HDA.o (by simp;omega);obtain⟨vs,hvl,⟨hvk,rfl⟩,hrow⟩:=HDE.o j ((s.env.map (·.1))[n+j]) (by rw[List.getElem?_drop];exact List.getElem?_eq_getElem hjm);have hcell:=hrow 0 (.int .i64 ((s.env.map (·.1))[n+j])) rfl;have hdb:db<w.heap.size:=World.block_lt_of_cell? w _ hcell;have hdm:db≠mb:=by intro e;subst e;obtain⟨es,clock,h1,_⟩:=HM.o;simp[World.cell?,h1]at hcell
   have hc4:=(World.cell?_of_block (a:=⟨db,doff+j*1+0,none⟩) (HCH.o.block db hdb hdm)).trans hcell;simp only[Nat.mul_one,Nat.add_zero]at hc4;obtain⟨⟨kn,kv⟩,hkk⟩:∃x,x=L[n+j]:=⟨_,rfl⟩;have hm4:=HM4.o;rw[Zhf L n j hjl,<-hkk]at hm4;rw[<-hkk]at hkey;simp only at hkey;rw[<-hkey]at hc4;obtain⟨w2,hdel,hm5,hch5,hsz5⟩:=Zh4 ZlB hm4 (by
    intro p hp e;obtain⟨i,hi,rfl⟩:=List.mem_iff_getElem.1 hp;have hi':i<n:=by simp at hi;omega
    have hil:i<L.length:=by omega
    have h2:((L.take n)[i]).1=(s.env.map (·.1))[i]'(by simp;omega):=by
     have :=HLK.o;have h2:(L.map (·.1))[i]'(by simpa using hil)=(s.env.map (·.1))[i]'(by simp;omega):=by simp only[this]
     simpa using h2
    rw[h2,hkey]at e;have :=(List.getElem_inj HND.o).1 e;omega) 3;have HM5:=zh hm5;have HCH5:=zh (HCH.o.trans hch5 (fun b h=> .inl h));have hj0:(0:Int)<=(j:Int):=zN _;clear hm4 hm5 hch5 hsz5 hkk hkey hcell hrow hvk hvl hjm hjl;go_wp2_with fail;go_roundw;case rel=>exact⟨j+1,by omega,by go_num,HM5.o,HCH5.o⟩
   case measure=>simp[intOf];omega
  ·have hje:j=s.env.length - n:=by omega
   have HM6:=zh (show MapIs wr mb (L.take n)by have :=HM4.o;rw[hje,List.drop_eq_nil_of_le (by rw[HLL.o];have :=HN.o;omega),List.append_nil]at this;exact this);clear hje;go_wp2_with fail;refine bodyPost_end (v:= .tuple #[]) (by simp[results,Try.results27,go_sem]) rfl ?_;have hT0:OwnN w base ((s.env.take n).map (·.1)) (.slice ta n tc):=by rw[List.map_take];have :=HT.o;exact OwnF.take Zaw this (k:=n) (by simpa using HN.o)
   exact⟨_,rfl,HU.o.untrail hT0 HN.o HCH.o ⟨_,HM6.o,HL.o.take n⟩ HAP.o hgm⟩
end
theorem ZnV:ElemTy Try.prog 38 79 3 24:= .mk' (z:= .agg #[.pointer none,.int .i64 0,.int .i64 0]) Try.underlying38 (by kernel_rfl) rfl (by omega) (by omega)
section
variable {base : Nat} {P : List Cl} {q g mb xb : Nat} {pv tv cv ov tv' cv' ov' : Value} {s s' : Sv} {N : Int} {w w' : World}
theorem SvI.ty_free(h:SvI base P q g mb xb pv tv cv ov s w){E:TypeId}{c:Array Value}{k:Nat}(hk:w.heap[k]?=some (.cells c E (0,0)))(e1:E≠40)(e2:E≠3)(e3:E≠79)(e4:E≠71):¬SM g mb tv cv ov k:=by
 rintro(e|e|e|e|e);·subst e;exact e1 (Zbk hk h.box)
 ·subst e;obtain⟨L,⟨es,clock,hm,_⟩,_⟩:=h.env;rw[hm]at hk;simp at hk
 ·obtain⟨c',hc⟩:=Zbt h.trail.1 e;exact e2 (Zbk hk hc)
 ·obtain⟨c',hc⟩:=h.chc.ty e;exact e3 (Zbk hk hc)
 ·obtain⟨c',hc⟩:=h.out.ty e;exact e4 (Zbk hk hc)
theorem SvI.turned{wx:World}{c2:Value}(h:SvI base P q g mb g pv tv cv ov s w)(hbox:wx.heap[g]?=some (.cells #[pv,.map (some mb),tv,c2,.int .i64 s'.vars,.int .i64 (s'.fuel:Int),ov,.int .i64 (q:Int)] 40 (0,0)))(henv:s'.env=s.env)(hou:s'.out=s.out)(hv0:0<=s'.vars)(hv1:s'.vars<=1000000)(hf:s'.fuel<=150)(hfew:s'.choices.length<=1000)(hc:Ch (fun b=>b=g\/Zai cv=some b) w wx)(hcb:∀b,Zai c2=some b->Zai cv=some b\/w.heap.size<=b)(hchc:OwnR wx base 79 3 Znh (SA g mb g tv cv ov) s'.choices.reverse c2):SStep base P q g mb pv tv cv ov s' w wx:=by
 have hap:=h.apart;have hlt:=h.lt;have hlb:=h.sm_lt;have hch:Ch (SM g mb tv cv ov) w wx:=hc.mono fun b _ hb=>hb.elim .inl fun e=> .inr (.inr (.inr (.inl e)));have hmid:=ZfB (tv':=tv) (cv':=c2) (ov':=ov) hch (fun b h=> .inl h) hcb (fun b h=> .inl h);have hk0:Keeps (fun b=>¬(b=g\/Zai cv=some b)) w wx:=hc.keeps fun b _ hb=>hb;refine⟨tv,c2,ov,?_,hch,fun b h=> .inl h,hcb,fun b h=> .inl h⟩;have hmg:=h.mb_ne;obtain⟨h1,h2,h3,h4,h5,h6,h7,h8,h8',h8'',h9,h10,h11,h12,h13,h14,h15,h16⟩:=h;refine⟨hbox,?_,?_,?_,?_,?_,h7,h8,h8',Nat.lt_of_lt_of_le h8'' hch.size,.inl rfl,hv0,hv1,hf,h13,by rw[henv];exact h14,hfew,by rw[hou];exact h16⟩;·exact SlR.keeps Cl.rep_lasts h2 (hch.keeps fun b hb hA e=>by have :=(hlb b e).1;omega)
 ·obtain⟨L,hm,hL⟩:=h3;rw[henv];exact⟨L,hm.keeps hk0 (fun e=>e.elim hmg hap.cm),((hL.mono (A':=fun b=>SA g mb g tv cv ov b/\b<w.heap.size) fun b hb hA=>⟨hA,hb⟩).keeps hmid.1).mono fun b _ hb=>hmid.2 b hb⟩
 ·rw[henv];exact⟨Own.keeps h4.1 hk0 (fun b hb e=>e.elim (fun e=>hap.tg (e▸hb)) (fun e=>hap.tc b hb e)),h4.2⟩
 ·refine hchc.mono' ZaI fun b hb hA hn=>⟨fun hs=>?_,hA.2⟩;rcases hs with e|e|e|e|e;·exact hA.1 (.inl e)
  ·exact hA.1 (.inr (.inl e))
  ·exact hA.1 (.inr (.inr (.inl e)))
  ·exact hn e
  ·exact hA.1 (.inr (.inr (.inr (.inr e))))
 ·rw[hou];refine((h6.mono (A':=fun b=>SA g mb g tv cv ov b/\b<w.heap.size) ZaB fun b hb hA=>⟨hA,hb⟩).keeps ZaB hk0 (fun b hb e=>hb.1.1 (e.elim .inl fun e=> .inr (.inr (.inr (.inl e))))) (fun b hb e=>e.elim (fun e=>hap.og (e▸hb)) (fun e=>hap.co b e hb))).mono ZaB fun b _ hb=>hmid.2 b hb
theorem SvI.push{x:Chc}{c2:Value}{w2:World}{cells:Array Value}(h:SvI base P q g mb g pv tv cv ov s w)(hsz:s.choices.length+1<=1000)(hown:OwnR w2 base 79 3 Znh (SA g mb g tv cv ov) (s.choices.reverse++[x]) c2)(hg:Grew (w.alloc (.cells cells 79)) w2 cv c2):SStep base P q g mb pv tv cv ov {s with choices:=x::s.choices} w (w2.setCell ⟨g,3,none⟩ c2):=by
 have hap:=h.apart;have hlt:=h.lt;have hog:∀b,Zai c2=some b->Zai cv=some b\/w.heap.size<=b:=fun b hb=>by
  rcases hg.block with e|e;·exact .inl (e▸hb)
  ·have :=e b hb;simp only[World.size_alloc]at this;exact .inr (by omega)
 have hB2:w2.heap[g]?=_:=(hg.grown.block g (by simp;omega) (fun e=>hap.cg e.symm)).trans (Zaf h.box _);have hng:Zai c2≠some g:=fun e=>by
  rcases hog g e with e|e;·exact hap.cg e
  ·omega
 refine h.turned (s':={s with choices:=x::s.choices}) ((Zal hB2 3 _).trans rfl) rfl rfl h.v0 h.v1 h.fu (by simpa using hsz) ((hg.ch ((Ch.refl _ _).alloc _) (fun b hb=> .inl (.inr hb))).setCell (p:=⟨g,3,none⟩) (.inl (.inl rfl)) _) hog ?_;rw[List.reverse_cons];exact hown.keeps (B:=fun b=>b≠g) ZaI (Keeps.setCell _ _ _ _ (fun h=>h rfl)) (fun b hb=>hb.2) (fun b hb e=>hng (e▸hb))
theorem SvI.setVars(h:SvI base P q g mb g pv tv cv ov s w){v:Int}(h0:0<=v)(h1:v<=1000000):SStep base P q g mb pv tv cv ov {s with vars:=v} w (w.setCell ⟨g,4,none⟩ (.int .i64 v)):=h.turned (s':={s with vars:=v}) ((Zal h.box 4 _).trans rfl) rfl rfl h0 h1 h.fu h.few ((Ch.refl _ _).setCell (p:=⟨g,4,none⟩) (.inl (.inl rfl)) _) (fun b h=> .inl h) (h.chc.keeps (B:=fun b=>b≠g) ZaI (Keeps.setCell _ _ _ _ (fun h=>h rfl)) (fun b hb=>hb.2) (fun b hb e=>h.apart.cg (e▸hb)))
theorem SvI.setFuel(h:SvI base P q g mb g pv tv cv ov s w){v:Nat}(h1:v<=150):SStep base P q g mb pv tv cv ov {s with fuel:=v} w (w.setCell ⟨g,5,none⟩ (.int .i64 (v:Int))):=h.turned (s':={s with fuel:=v}) ((Zal h.box 5 _).trans rfl) rfl rfl h.v0 h.v1 h1 h.few ((Ch.refl _ _).setCell (p:=⟨g,5,none⟩) (.inl (.inl rfl)) _) (fun b h=> .inl h) (h.chc.keeps (B:=fun b=>b≠g) ZaI (Keeps.setCell _ _ _ _ (fun h=>h rfl)) (fun b hb=>hb.2) (fun b hb e=>h.apart.cg (e▸hb)))
end
end Go.Proofs.Ytlpmfkpefoegeac
