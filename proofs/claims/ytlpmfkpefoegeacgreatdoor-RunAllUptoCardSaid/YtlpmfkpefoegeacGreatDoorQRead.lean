import Derived.Test.YtlpmfkpefoegeacGreatDoorQSolveE
import Derived.StillTailTactics
import Derived.BigQuiet
namespace Go.Proofs.YtlpmfkpefoegeacGreatDoor
set_option maxRecDepth 99999
set_option maxHeartbeats 0
set_option linter.all false
open Go.RowKit
def QJ(A:Nat->Prop)(w:World)(c:Cl)(vs:List Value):Prop:=∃cv gv,vs=[.string c.head.s,.int .i64 (c.head.args.length:Int),cv,.int .i64 (aN c).vars,.int .i64 (aN c).head,gv]/\rC A w (aN c).cells cv/\gD A w (aN c).goals gv
theorem sD:iq QJ:=by
 refine⟨fun A w w' c vs h hk=>?_,fun A A' w c vs h hA=>?_,fun A w c vs h=>?_⟩;·obtain⟨cv,gv,e,h1,h2⟩:=h;exact⟨cv,gv,e,au.keeps Ce.aj h1 hk,au.keeps aW h2 hk⟩
 ·obtain⟨cv,gv,e,h1,h2⟩:=h;exact⟨cv,gv,e,au.mono Ce.aj (by omega) h1 hA,au.mono aW (by omega) h2 hA⟩
 ·obtain⟨cv,gv,rfl,h1,h2⟩:=h;obtain⟨_,_,_,_,rfl, -⟩:=au.at h1;obtain⟨_,_,_,_,rfl, -⟩:=au.at h2;simp[Value.oneCell']
def QK(g:Gm):List Value:=[.int .i64 g.at_,.int .i64 (g.bar:Int),.int .i64 g.next]
def K4(g:Gm):Prop:=aA g.at_/\aA g.next/\g.bar<=1000000
def CU(c:Cm):List Value:=[.int .i64 (c.goal:Int),.int .i64 (c.from_:Int),.int .i64 (c.top:Int),.int .i64 (c.trail:Int)]
def QL(c:Cm):Prop:=c.goal<=1000000/\c.from_<=1000000/\c.top<=1000000/\c.trail<=1000000
theorem Wy(g:Gm):(QK g).length=3:=rfl
theorem aef(g:Gm):∀u∈QK g,u.oneCell'=true:=by simp[QK,Value.oneCell']
theorem QM(c:Cm):(CU c).length=4:=rfl
theorem aob(c:Cm):∀u∈CU c,u.oneCell'=true:=by simp[CU,Value.oneCell']
abbrev qO(w:World)(base:Nat)(l:List Gm)(v:Value):Prop:=ah QK K4 117 3 w base l v
abbrev qP(w:World)(base:Nat)(l:List Cm)(v:Value):Prop:=ah CU QL 124 4 w base l v
structure Mo where
  gv : Value
  cv : Value
  ov : Value
def MM(g:Nat)(o:Mo)(b:Nat):Prop:=b=g\/ownB o.gv=some b\/ownB o.cv=some b\/ownB o.ov=some b
def MA(g:Nat)(o:Mo)(b:Nat):Prop:=¬MM g o b
structure bZ (base : Nat) (P : List Cl) (q g : Nat) (pv hc ht : Value) (o : Mo) (m : Mv) (w : World) : Prop where
  box : w.heap[g]? = some (.cells #[pv, hc, ht, o.gv, o.cv, .int .i64 m.now, .int .i64 (q : Int), .int .i64 m.query, .int .i64 (m.fuel : Int), o.ov] 63 (0, 0))
  prog : au 6 QJ (fun b => b < base ∧ b ≠ g) w P pv
  heap : Hp.rep (MA g o) w m.h [hc, ht]
  goals : qO w base m.goals o.gv
  cO : qP w base m.choices.reverse o.cv
  out : aG w base 42 2 yC (MA g o) m.out o.ov
  bg : g < base ∧ base ≤ w.heap.size
  vB : aA m.now
  qb : aA m.query
  fu : m.fuel ≤ 150
  qq : q ≤ 8
  gl : m.goals.length ≤ 6000
  cl : m.choices.length ≤ 1000
  ol : m.out.length ≤ 20
theorem bV{w:World}{g:Nat}{E:TypeId}{v0 v1 v2 v3 v4 v5 v6 v7 v8 v9:Value}(h:w.heap[g]?=some (.cells #[v0,v1,v2,v3,v4,v5,v6,v7,v8,v9] E (0,0))):w.cell? ⟨g,0,none⟩=some v0/\w.cell? ⟨g,1,none⟩=some v1/\w.cell? ⟨g,2,none⟩=some v2/\w.cell? ⟨g,3,none⟩=some v3/\w.cell? ⟨g,4,none⟩=some v4/\w.cell? ⟨g,5,none⟩=some v5/\w.cell? ⟨g,6,none⟩=some v6/\w.cell? ⟨g,7,none⟩=some v7/\w.cell? ⟨g,8,none⟩=some v8/\w.cell? ⟨g,9,none⟩=some v9/\∀o,w.frozen? ⟨g,o,none⟩=false:=⟨(bW h 0).trans rfl,(bW h 1).trans rfl,(bW h 2).trans rfl,(bW h 3).trans rfl,(bW h 4).trans rfl,(bW h 5).trans rfl,(bW h 6).trans rfl,(bW h 7).trans rfl,(bW h 8).trans rfl,(bW h 9).trans rfl,fun o=>by simp[World.frozen?,h]⟩
section
variable {base : Nat} {P : List Cl} {q g : Nat} {pv hc ht hc' ht' : Value} {o o' : Mo} {m m' : Mv} {w w' : World}
structure aoc (g : Nat) (o : Mo) : Prop where
  gg : ownB o.gv ≠ some g
  cg : ownB o.cv ≠ some g
  og : ownB o.ov ≠ some g
  gc : ∀ b, ownB o.gv = some b → ownB o.cv ≠ some b
  go : ∀ b, ownB o.gv = some b → ownB o.ov ≠ some b
  co : ∀ b, ownB o.cv = some b → ownB o.ov ≠ some b
theorem bZ.apart(h:bZ base P q g pv hc ht o m w):aoc g o:=by
 refine⟨fun e=>?_,fun e=>?_,fun e=>?_,fun b e e'=>?_,fun b e e'=>?_,fun b e e'=>?_⟩;·obtain⟨c,hc⟩:=qN h.goals.1 e;exact absurd (yE h.box hc) (by decide)
 ·obtain⟨c,hc⟩:=qN h.cO.1 e;exact absurd (yE h.box hc) (by decide)
 ·obtain⟨c,hc⟩:=h.out.ty e;exact absurd (yE h.box hc) (by decide)
 ·obtain⟨c,hc⟩:=qN h.goals.1 e;obtain⟨c',hc'⟩:=qN h.cO.1 e';exact absurd (yE hc hc') (by decide)
 ·obtain⟨c,hc⟩:=qN h.goals.1 e;obtain⟨c',hc'⟩:=h.out.ty e';exact absurd (yE hc hc') (by decide)
 ·obtain⟨c,hc⟩:=qN h.cO.1 e;obtain⟨c',hc'⟩:=h.out.ty e';exact absurd (yE hc hc') (by decide)
theorem bZ.lt(h:bZ base P q g pv hc ht o m w):g<w.heap.size/\base<=w.heap.size:=⟨aJ h.box,h.bg.2⟩
theorem bZ.uj(h:bZ base P q g pv hc ht o m w):∀b,MM g o b->(b=g\/base<=b)/\b<w.heap.size:=by
 rintro b(rfl|hb|hb|hb);·exact⟨.inl rfl,h.lt.1⟩
 ·exact⟨.inr (h.goals.lt b hb).1,(h.goals.lt b hb).2⟩
 ·exact⟨.inr (h.cO.lt b hb).1,(h.cO.lt b hb).2⟩
 ·exact⟨.inr (h.out.lt b hb).1,(h.out.lt b hb).2⟩
theorem bZ.vals(h:bZ base P q g pv hc ht o m w):∃pa pc ga gc ca cc oa oc ha hac hb hbc,pv= .slice pa P.length pc/\o.gv= .slice ga m.goals.length gc/\o.cv= .slice ca m.choices.length cc/\o.ov= .slice oa m.out.length oc/\hc= .slice ha m.h.cells.length hac/\ht= .slice hb m.h.trail.length hbc/\P.length<=pc/\pc<=maxLen/\m.goals.length<=gc/\gc<=maxLen/\m.choices.length<=cc/\cc<=maxLen/\m.out.length<=oc/\oc<=maxLen:=by obtain⟨pa,pc,_,_,rfl,p1,p2, -⟩:=au.at h.prog;obtain⟨ga,gc,e1,g1,g2⟩:=h.goals.val;obtain⟨ca,cc,e2,c1,c2⟩:=h.cO.val;obtain⟨oa,oc,e3,o1,o2⟩:=aG.pO h.out;obtain⟨ha,hac,hb,hbc,e4, -⟩:=Hp.mG h.heap;simp only[tL,lF]at e4;rw[xJ]at e2 c1;exact⟨pa,pc,ga,gc,ca,cc,oa,oc,ha,hac,hb,hbc,rfl,e1,e2,e3,e4.1,e4.2,p1,p2,g1,g2,c1,c2,o1,o2⟩
theorem bZ.below(h:bZ base P q g pv hc ht o m w)(hb:Below w.heap.size w w'):bZ base P q g pv hc ht o m w':=⟨aL h.box hb,au.keeps sD h.prog (af.ob hb),h.heap.below hb,h.goals.below hb,h.cO.below hb,h.out.below nN hb,⟨h.bg.1,fM h.bg.2 hb.size⟩,h.vB,h.qb,h.fu,h.qq,h.gl,h.cl,h.ol⟩
structure cu (w : World) (o o' : Mo) : Prop where
  gv : ∀ b, ownB o'.gv = some b → ownB o.gv = some b ∨ w.heap.size ≤ b
  cv : ∀ b, ownB o'.cv = some b → ownB o.cv = some b ∨ w.heap.size ≤ b
  ov : ∀ b, ownB o'.ov = some b → ownB o.ov = some b ∨ w.heap.size ≤ b
theorem cu.refl(w:World)(o:Mo):cu w o o:=⟨fun b h=> .inl h,fun b h=> .inl h,fun b h=> .inl h⟩
theorem cu.trans{o'':Mo}(h:cu w o o')(h':cu w' o' o'')(hs:w.heap.size<=w'.heap.size):cu w o o'':=⟨fun b hb=>(h'.gv b hb).elim (h.gv b) (fun e=> .inr (fM hs e)),fun b hb=>(h'.cv b hb).elim (h.cv b) (fun e=> .inr (fM hs e)),fun b hb=>(h'.ov b hb).elim (h.ov b) (fun e=> .inr (fM hs e))⟩
theorem cu.up(h:cu w o o'):∀b,MM g o' b->MM g o b\/w.heap.size<=b:=by
 rintro b(e|e|e|e);·exact .inl (.inl e)
 ·exact(h.gv b e).imp (fun e=> .inr (.inl e)) id
 ·exact(h.cv b e).imp (fun e=> .inr (.inr (.inl e))) id
 ·exact(h.ov b e).imp (fun e=> .inr (.inr (.inr e))) id
def bP(base:Nat)(P:List Cl)(q g:Nat)(pv:Value)(o:Mo)(m':Mv)(w w':World):Prop:=∃hc' ht' o',bZ base P q g pv hc' ht' o' m' w'/\Ch (MM g o) w w'/\cu w o o'
theorem bP.refl(h:bZ base P q g pv hc ht o m w):bP base P q g pv o m w w:=⟨hc,ht,o,h,Ch.refl _ _,cu.refl _ _⟩
theorem bP.trans{w'':World}(hch:Ch (MM g o) w w')(hg:cu w o o')(h:bP base P q g pv o' m' w' w''):bP base P q g pv o m' w w'':=by obtain⟨c2,t2,o2,h1,h2,h3⟩:=h;exact⟨c2,t2,o2,h1,hch.trans h2 hg.up,hg.trans h3 hch.size⟩
theorem Wz(hc:Ch (MM g o) w w')(hg:cu w o o'):af (fun b=>MA g o b/\b<w.heap.size) w w'/\∀b,(MA g o b/\b<w.heap.size)->MA g o' b:=by
 refine⟨hc.keeps fun b _ hb e=>hb.1 e,fun b hb e=>?_⟩;rcases hg.up b e with e|e;·exact hb.1 e
 ·have :=hb.2;omega
theorem CV{h:Hp}{vs:List Value}(hh:Hp.rep (MA g o) w h vs)(hc:Ch (MM g o) w w')(hg:cu w o o'):Hp.rep (MA g o') w' h vs:=by obtain⟨h1,h2⟩:=Wz hc hg;exact((hh.mono (A':=fun b=>MA g o b/\b<w.heap.size) fun b hb hA=>⟨hA,hb⟩).keeps h1).mono fun b _ hb=>h2 b hb
theorem bZ.turned(h:bZ base P q g pv hc ht o m w)(nK:w'.heap[g]?=some (.cells #[pv,hc',ht',o'.gv,o'.cv,.int .i64 m'.now,.int .i64 (q:Int),.int .i64 m'.query,.int .i64 (m'.fuel:Int),o'.ov] 63 (0,0)))(hch:Ch (MM g o) w w')(hg:cu w o o')(hh:Hp.rep (MA g o') w' m'.h [hc',ht'])(hgs:qO w' base m'.goals o'.gv)(hcs:qP w' base m'.choices.reverse o'.cv)(hou:aG w' base 42 2 yC (MA g o') m'.out o'.ov)(hn:aA m'.now)(hq:aA m'.query)(hf:m'.fuel<=150)(hgl:m'.goals.length<=6000)(hcl:m'.choices.length<=1000)(hol:m'.out.length<=20):bP base P q g pv o m' w w':=⟨hc',ht',o',⟨nK,au.keeps sD h.prog (hch.keeps fun b hb hA e=>by have :=(h.uj b e).1;have :=hA.1;have :=hA.2;omega),hh,hgs,hcs,hou,⟨h.bg.1,fM h.bg.2 hch.size⟩,hn,hq,hf,h.qq,hgl,hcl,hol⟩,hch,hg⟩
theorem bZ.Hm(h:bZ base P q g pv hc ht o m w){Z:Nat->Prop}(hch:Ch Z w w')(hz:∀b,ownB o.gv=some b->¬Z b):qO w' base m.goals o.gv:=h.goals.kept fun k hk=>hch.block k (h.goals.lt k hk).2 (hz k hk)
theorem bZ.K5(h:bZ base P q g pv hc ht o m w){Z:Nat->Prop}(hch:Ch Z w w')(hz:∀b,ownB o.cv=some b->¬Z b):qP w' base m.choices.reverse o.cv:=h.cO.kept fun k hk=>hch.block k (h.cO.lt k hk).2 (hz k hk)
theorem bZ.ET(h:bZ base P q g pv hc ht o m w){Z:Nat->Prop}(hch:Ch Z w w')(hZ:∀b,Z b->MM g o b)(hz:∀b,ownB o.ov=some b->¬Z b)(hg:cu w o o')(ho:o'.ov=o.ov):aG w' base 42 2 yC (MA g o') m.out o'.ov:=by have hmid:=Wz (hch.mono fun b _ hb=>hZ b hb) hg;rw[ho];refine((h.out.mono (A':=fun b=>MA g o b/\b<w.heap.size) nN fun b hb hA=>⟨hA,hb⟩).keeps nN (hch.keeps (A:=fun b=>¬Z b) fun b _ hb=>hb) (fun b hb e=>hb.1 (hZ b e)) hz).mono nN fun b _ hb=>hmid.2 b hb
theorem bZ.Ho(h:bZ base P q g pv hc ht o m w)(k:Nat)(u:Value)(hm:m'.h=m.h/\m'.goals=m.goals/\m'.choices=m.choices/\m'.out=m.out)(nK:(w.setCell ⟨g,k,none⟩ u).heap[g]?=some (.cells #[pv,hc,ht,o.gv,o.cv,.int .i64 m'.now,.int .i64 (q:Int),.int .i64 m'.query,.int .i64 (m'.fuel:Int),o.ov] 63 (0,0)))(hn:aA m'.now)(hq:aA m'.query)(hf:m'.fuel<=150):bP base P q g pv o m' w (w.setCell ⟨g,k,none⟩ u):=by
 have hap:=h.apart;have iN:Ch (fun b=>b=g) w (w.setCell ⟨g,k,none⟩ u):=(Ch.refl (fun b=>b=g) w).setCell (p:=⟨g,k,none⟩) (.inl rfl) _;have hch:Ch (MM g o) w (w.setCell ⟨g,k,none⟩ u):=iN.mono fun b _ hb=> .inl hb;obtain⟨e1,e2,e3,e4⟩:=hm;refine h.turned nK hch (cu.refl _ _) ?_ ?_ ?_ ?_ hn hq hf (by rw[e2];exact h.gl) (by rw[e3];exact h.cl) (by rw[e4];exact h.ol);·rw[e1];exact CV h.heap hch (cu.refl _ _)
 ·rw[e2];exact h.Hm iN fun b hb e=>hap.gg (e▸hb)
 ·rw[e3];exact h.K5 iN fun b hb e=>hap.cg (e▸hb)
 ·rw[e4];exact h.ET iN (fun b e=> .inl e) (fun b hb e=>hap.og (e▸hb)) (cu.refl _ _) rfl
theorem bZ.setH(h:bZ base P q g pv hc ht o m w){x:Hp}(hx:Hp.rep (MA g o) w x [hc',ht']):bP base P q g pv o {m with h:=x} w ((w.setCell ⟨g,1,none⟩ hc').setCell ⟨g,2,none⟩ ht'):=by
 have hap:=h.apart;have iN:Ch (fun b=>b=g) w ((w.setCell ⟨g,1,none⟩ hc').setCell ⟨g,2,none⟩ ht'):=((Ch.refl (fun b=>b=g) w).setCell (p:=⟨g,1,none⟩) (.inl rfl) _).setCell (p:=⟨g,2,none⟩) (.inl rfl) _;have hch:Ch (MM g o) w ((w.setCell ⟨g,1,none⟩ hc').setCell ⟨g,2,none⟩ ht'):=iN.mono fun b _ hb=> .inl hb;refine h.turned (m':={m with h:=x}) ((bG ((bG h.box 1 hc').trans rfl) 2 ht').trans rfl) hch (cu.refl _ _) (CV hx hch (cu.refl _ _)) ?_ ?_ ?_ h.vB h.qb h.fu h.gl h.cl h.ol;·exact h.Hm iN fun b hb e=>hap.gg (e▸hb)
 ·exact h.K5 iN fun b hb e=>hap.cg (e▸hb)
 ·exact h.ET iN (fun b e=> .inl e) (fun b hb e=>hap.og (e▸hb)) (cu.refl _ _) rfl
theorem bZ.tell{e:Ev}{jZ:Value}{w2:World}{cells:Array Value}(h:bZ base P q g pv hc ht o m w)(hsz:m.out.length+1<=20)(hown:aG w2 base 42 2 yC (MA g o) (m.out++[e]) jZ)(hg:kK (w.alloc (.cells cells 42)) w2 o.ov jZ):bP base P q g pv o {m with out:=m.out++[e]} w (w2.setCell ⟨g,9,none⟩ jZ):=by
 have hap:=h.apart;have hlt:=h.lt;have hog:∀b,ownB jZ=some b->ownB o.ov=some b\/w.heap.size<=b:=fun b hb=>by
  rcases hg.block with e|e;·exact .inl (e▸hb)
  ·have :=e b hb;simp only[bQ]at this;exact .inr (by omega)
 have hgr:cu w o ⟨o.gv,o.cv,jZ⟩:=⟨fun b h=> .inl h,fun b h=> .inl h,hog⟩;have iN:Ch (fun b=>b=g\/ownB o.ov=some b) w (w2.setCell ⟨g,9,none⟩ jZ):=(hg.ch ((Ch.refl _ _).alloc _) (fun b hb=> .inl (.inr hb))).setCell (p:=⟨g,9,none⟩) (.inl (.inl rfl)) _;have hch:Ch (MM g o) w (w2.setCell ⟨g,9,none⟩ jZ):=iN.mono fun b _ hb=>hb.elim .inl fun e=> .inr (.inr (.inr e));have hB2:w2.heap[g]?=_:=(hg.grown.block g (by simp;omega) (fun e=>hap.og e.symm)).trans (aX h.box _);refine h.turned (o':=⟨o.gv,o.cv,jZ⟩) (m':={m with out:=m.out++[e]}) ((bG hB2 9 _).trans rfl) hch hgr (CV h.heap hch hgr) ?_ ?_ ?_ h.vB h.qb h.fu h.gl h.cl (by simpa using hsz);·exact h.Hm iN fun b hb e=>e.elim (fun e=>hap.gg (e▸hb)) (fun e=>hap.go b hb e)
 ·exact h.K5 iN fun b hb e=>e.elim (fun e=>hap.cg (e▸hb)) (fun e=>hap.co b hb e)
 ·have oD:ownB jZ≠some g:=fun e=>by
   rcases hog g e with e|e;·exact hap.og e
   ·omega
  refine(hown.keeps (B:=fun b=>b≠g) nN (af.setCell _ _ _ _ (fun h=>h rfl)) (fun b hb e=>hb (.inl e)) (fun b hb e=>oD (e▸hb))).mono' nN fun b hb hA hn=>fun hs=>?_;rcases hs with e|e|e|e;·exact hA (.inl e)
  ·exact hA (.inr (.inl e))
  ·exact hA (.inr (.inr (.inl e)))
  ·exact hn e
theorem bZ.aod{x:Cm}{lI:Value}{w2:World}{cells:Array Value}(h:bZ base P q g pv hc ht o m w)(hsz:m.choices.length+1<=1000)(hown:qP w2 base (m.choices.reverse++[x]) lI)(hg:kK (w.alloc (.cells cells 124)) w2 o.cv lI):bP base P q g pv o {m with choices:=x::m.choices} w (w2.setCell ⟨g,4,none⟩ lI):=by
 have hap:=h.apart;have hlt:=h.lt;have hog:∀b,ownB lI=some b->ownB o.cv=some b\/w.heap.size<=b:=fun b hb=>by
  rcases hg.block with e|e;·exact .inl (e▸hb)
  ·have :=e b hb;simp only[bQ]at this;exact .inr (by omega)
 have hgr:cu w o ⟨o.gv,lI,o.ov⟩:=⟨fun b h=> .inl h,hog,fun b h=> .inl h⟩;have iN:Ch (fun b=>b=g\/ownB o.cv=some b) w (w2.setCell ⟨g,4,none⟩ lI):=(hg.ch ((Ch.refl _ _).alloc _) (fun b hb=> .inl (.inr hb))).setCell (p:=⟨g,4,none⟩) (.inl (.inl rfl)) _;have hZ:∀b,(b=g\/ownB o.cv=some b)->MM g o b:=fun b hb=>hb.elim .inl fun e=> .inr (.inr (.inl e));have hch:Ch (MM g o) w (w2.setCell ⟨g,4,none⟩ lI):=iN.mono fun b _ hb=>hZ b hb;have hB2:w2.heap[g]?=_:=(hg.grown.block g (by simp;omega) (fun e=>hap.cg e.symm)).trans (aX h.box _);have oD:ownB lI≠some g:=fun e=>by
  rcases hog g e with e|e;·exact hap.cg e
  ·omega
 refine h.turned (o':=⟨o.gv,lI,o.ov⟩) (m':={m with choices:=x::m.choices}) ((bG hB2 4 _).trans rfl) hch hgr (CV h.heap hch hgr) ?_ ?_ ?_ h.vB h.qb h.fu h.gl (by simpa using hsz) h.ol;·exact h.Hm iN fun b hb e=>e.elim (fun e=>hap.gg (e▸hb)) (fun e=>hap.gc b hb e)
 ·rw[Vl];exact hown.kept fun k hk=>bH _ _ _ _ (fun e=>oD ((show k=g from e)▸hk))
 ·exact h.ET iN hZ (fun b hb e=>e.elim (fun e=>hap.og (e▸hb)) (fun e=>hap.co b e hb)) hgr rfl
theorem bZ.WA(h:bZ base P q g pv hc ht o m w){k:Nat}(hk:k<=m.choices.length){ca:Option Addr}{cc:Nat}(hcv:o.cv= .slice ca m.choices.length cc):bP base P q g pv o {m with choices:=m.choices.drop (m.choices.length - k)} w (w.setCell ⟨g,4,none⟩ (.slice ca k cc)):=by
 have hap:=h.apart;have iN:Ch (fun b=>b=g) w (w.setCell ⟨g,4,none⟩ (.slice ca k cc)):=(Ch.refl (fun b=>b=g) w).setCell (p:=⟨g,4,none⟩) (.inl rfl) _;have hch:Ch (MM g o) w (w.setCell ⟨g,4,none⟩ (.slice ca k cc)):=iN.mono fun b _ hb=> .inl hb;have hlr:m.choices.reverse.length=m.choices.length:=xJ;have hown:qP w base (m.choices.reverse.take k) (.slice ca k cc):=by have h1:=h.cO;rw[hcv,<-hlr]at h1;exact h1.take QM (by rw[hlr];exact hk)
 have hog:∀b,ownB (.slice ca k cc)=some b->ownB o.cv=some b:=fun b hb=>by rw[hcv];cases ca with|none=>simp[ownB]at hb|some a=>simpa[ownB]using hb
 have hgr:cu w o ⟨o.gv,.slice ca k cc,o.ov⟩:=⟨fun b h=> .inl h,fun b h=> .inl (hog b h),fun b h=> .inl h⟩;refine h.turned (o':=⟨o.gv,.slice ca k cc,o.ov⟩) (m':={m with choices:=m.choices.drop (m.choices.length - k)}) ((bG h.box 4 _).trans rfl) hch hgr (CV h.heap hch hgr) ?_ ?_ ?_ h.vB h.qb h.fu h.gl (by have :=h.cl;simp only[PG];omega) h.ol;·exact h.Hm iN fun b hb e=>hap.gg (e▸hb)
 ·have e:(m.choices.drop (m.choices.length - k)).reverse=m.choices.reverse.take k:=by rw[List.reverse_drop];congr 1;omega
  simp only;rw[e];exact hown.kept fun b hb=>bH _ _ _ _ (fun e=>hap.cg ((show b=g from e)▸hog b hb))
 ·exact h.ET iN (fun b e=> .inl e) (fun b hb e=>hap.og (e▸hb)) hgr rfl
end
section
variable {base : Nat} {P : List Cl} {q g : Nat} {pv hc ht : Value} {o : Mo} {m : Mv} {w : World}
def aoe(base:Nat)(P:List Cl)(q g:Nat)(pv:Value)(o:Mo)(m':Mv)(w:World)(e:Ending)(w':World):Prop:=e= .returned (.bool false)/\bP base P q g pv o m' w w'
theorem yF(kind:Int)(hk:aA kind)(h:bZ base P q g pv hc ht o m w)(hsz:m.out.length+1<=20):Calls Tryz.prog 63 #[.pointer (some ⟨g,0,none⟩),.int .i64 kind] w (aoe base P q g pv o (m.put kind) w):=by have HU:=zh h;have HK:=zh hk;have lX:=zh hsz;have EU:=zh h.apart;obtain⟨gv,cv,ov⟩:=o;obtain⟨pa,pc,ga,gc,ca,cc,oa,oc,ha,hac,hb,hbc,rfl,rfl,rfl,rfl,rfl,rfl, -⟩:=h.vals;obtain⟨hl1,hl2⟩:=h.lt;obtain⟨b0,b1,b2,b3,b4,b5,b6,b7,b8,b9,bf⟩:=bV h.box;clear h hk;go_enter Tryz.func63,Tryz.ntmps63;go_wp2_with(at_builtin;go_must(refine jf rfl (.tmp 9) (.tmp 12) 24 rfl base 42 2 32 QI nN (A:=MA g _) (.slice oa m.out.length oc) m.out rfl HU.o.out ⟨kind,[]⟩ [.int .i64 kind,.slice none 0 0] (by rfl) rfl ⟨_,rfl,au.nil ..,HK.o⟩ ⟨by omega,by omega⟩ ?_);go_must(intro v2 w2 hown aB;have hB2:=(aB.grown.block g (by simp;omega) (fun e=>EU.o.og e.symm)).trans (aX HU.o.box _);obtain⟨aY,aZ,hv2,nI,rY⟩:=aG.pO hown;rw[show(m.out++[(⟨kind,[]⟩:Ev)]).length=m.out.length+1 by simp]at hv2;subst hv2;have bA:=zh hown;have HG2:=zh aB;obtain⟨k0,k1,k2,k3,k4,k5,k6,k7,k8,k9,kf⟩:=bV hB2;clear hown aB hB2));go_ret;exact⟨rfl,HU.o.tell lX.o bA.o HG2.o⟩
theorem WB(x:Gm)(hx:Inb m.h.cells x.at_)(h:bZ base P q g pv hc ht o m w):Calls Tryz.prog 70 #[.pointer (some ⟨g,0,none⟩),.agg #[.int .i64 x.at_,.int .i64 (x.bar:Int),.int .i64 x.next]] w (fun e w'=>e= .returned (.tuple #[.string (cellAt m.h.cells x.at_).s,.int .i64 (cellAt m.h.cells x.at_).n])/\Below w.heap.size w w'):=by
 have HU:=zh h;obtain⟨pa,pc,ga,gc,ca,cc,oa,oc,ha,hac,hb,hbc, -, -, -, -,rfl,rfl, -⟩:=h.vals;obtain⟨hl1,hl2⟩:=h.lt;obtain⟨k,hka,hkl,hce⟩:=oq hx;rw[hce];obtain⟨c,t,e0,yG, -⟩:=h.heap;simp only[tL,lF]at e0;obtain⟨rfl,rfl⟩:=e0;obtain⟨_,_,hb0,hoff,e9,WC,Hq,hh3,zQ,zR⟩:=au.at yG;simp only[dC,dL]at e9;obtain⟨rfl,rfl⟩:=e9;obtain⟨rfl,bC⟩:=zQ (by omega);have HE:=zh zR;have HA:=zh bC;rw[hka];have hk0:(0:Int)<=(k:Int):=zN _;have hk1:(k:Int)<(m.h.cells.length:Int):=by omega
 unfold maxLen at Hq;clear h yG zQ zR hx hce;go_enter Tryz.func70,Tryz.ntmps70;go_wp2_with fail;obtain⟨W1,hW1⟩:∃W1,W1=w.alloc (.cells #[.int .i64 (k:Int),.int .i64 (x.bar:Int),.int .i64 x.next] 117):=⟨_,rfl⟩;have HB1:=zh (show Below w.heap.size w W1 by rw[hW1];exact(zB _ _).alloc (zL _) _);have eO:=zh (show W1.heap[w.heap.size]?=some (.cells #[.int .i64 (k:Int),.int .i64 (x.bar:Int),.int .i64 x.next] 117 (0,0))by rw[hW1];exact bJ _ _);rw[<-hW1];clear hW1;have hz1:=HB1.o.size;obtain⟨b0,b1,b2,b3,b4,b5,b6,b7,b8,b9,bf⟩:=bV (HU.o.below HB1.o).box;obtain⟨c0,c1,c2⟩:=xO HE.o HA.o (af.ob HB1.o) hkl;have x0:W1.cell? ⟨w.heap.size,0,none⟩=some (.int .i64 (k:Int)):=(bW eO.o 0).trans rfl;have hbl:=fK W1 _ c0;have hxl:=aJ eO.o;have hgl:g<W1.heap.size:=by omega
 simp only at hbl;go_region;go_wp2_with fail;obtain⟨W2,hW2⟩:∃W2,W2=(W1.alloc (.cells #[.int .i64 (m.h.cells[k]).kind,.int .i64 (m.h.cells[k]).n,.string (m.h.cells[k]).s] 112)).drew:=⟨_,rfl⟩;have HB2:=zh (show Below w.heap.size w W2 by rw[hW2];exact(HB1.o.alloc hz1 _).drew);have dI:=zh (show W2.heap[W1.heap.size]?=some (.cells #[.int .i64 (m.h.cells[k]).kind,.int .i64 (m.h.cells[k]).n,.string (m.h.cells[k]).s] 112 (0,0))by rw[hW2];exact bJ W1 _);rw[<-hW2];clear hW2 b0 b1 b2 b3 b4 b5 b6 b7 b8 b9 bf c0 c1 c2 x0;have y1:W2.cell? ⟨W1.heap.size,1,none⟩=some (.int .i64 (m.h.cells[k]).n):=(bW dI.o 1).trans rfl;have y2:W2.cell? ⟨W1.heap.size,2,none⟩=some (.string (m.h.cells[k]).s):=(bW dI.o 2).trans rfl;go_quiet(fail);have HB3:=zh (show Below w.heap.size w (W2.drewN nq)from HB2.o.trans ⟨rfl,rfl,rfl,zL _,fun _ _=>rfl⟩);generalize W2.drewN nq=W3 at*;go_wp2_with fail;go_ret2;exact⟨rfl,HB3.o⟩
theorem K6(P:List Cl)(x:Ce):∀(n k:Nat),k<=cZ P x n k/\cZ P x n k<=k+n
 |0,k=>by simp[cZ]
 |n+1,k=>by
  unfold cZ;have :=K6 P x n (k+1);split;·omega
  ·split<;>omega
theorem aof{P:List Cl}{x:Ce}{k:Nat}(h:k<P.length):cZ P x (P.length - k) k=if wT P[k] x then k else cZ P x (P.length - (k+1)) (k+1):=by rw[show P.length - k=(P.length - (k+1))+1 by omega,cZ,aT h]
def nO(P:List Cl)(k:Nat):Int:=if k<P.length then(k:Int)else -1
theorem aeg{A:Nat->Prop}{w wr:World}{l:List Cl}{b off:Nat}(he:mF A w 6 QJ l b off)(hA:A b)(hk:af A w wr){k:Nat}(hlt:k<l.length):∃cv gv,wr.cell? ⟨b,off+k*6,none⟩=some (.string l[k].head.s)/\wr.cell? ⟨b,off+k*6+1,none⟩=some (.int .i64 (l[k].head.args.length:Int))/\wr.cell? ⟨b,off+k*6+2,none⟩=some cv/\wr.cell? ⟨b,off+k*6+3,none⟩=some (.int .i64 (aN l[k]).vars)/\wr.cell? ⟨b,off+k*6+4,none⟩=some (.int .i64 (aN l[k]).head)/\wr.cell? ⟨b,off+k*6+5,none⟩=some gv/\rC A wr (aN l[k]).cells cv/\gD A wr (aN l[k]).goals gv:=by obtain⟨vs,hvl,⟨cv,gv,rfl,h1,h2⟩,hrow⟩:=he k _ (aT hlt);have hr:=nz.keeps hA hrow hk;exact⟨cv,gv,hr 0 _ rfl,hr 1 _ rfl,hr 2 _ rfl,hr 3 _ rfl,hr 4 _ rfl,hr 5 _ rfl,au.keeps Ce.aj h1 hk,au.keeps aW h2 hk⟩
theorem QN(x:Ce)(k:Nat)(hk:k<=P.length+1)(h:bZ base P q g pv hc ht o m w):Calls Tryz.prog 71 #[.pointer (some ⟨g,0,none⟩),.string x.s,.int .i64 x.n,.int .i64 (k:Int)] w (fun e w'=>e= .returned (.int .i64 (nO P (cZ P x (P.length - k) k)))/\Below w.heap.size w w'):=by
 have HU:=zh h;obtain⟨hl1,hl2⟩:=h.lt;obtain⟨pa,pc,pb,K7,rfl,QO,CW,QP,zS,uk⟩:=au.at h.prog;have K8:=zh zS;have K9:=zh uk;unfold maxLen at CW;clear h zS uk;go_enter Tryz.func71,Tryz.ntmps71;go_wp2_with fail;go_loopw[9](fun i9 wr=>∃kk:Nat,k<=kk/\kk<=P.length+1/\i9= .int .i64 (kk:Int)/\Below w.heap.size w wr/\cZ P x (P.length - k) k=cZ P x (P.length - kk) kk)(fun i9 _=>P.length+1 - (intOf i9).toNat);case atStart=>exact⟨k,zL _,hk,rfl,zB _ _,rfl⟩
 case round=>
  obtain⟨kk,h1,h2,rfl,hb,hn⟩:=hrel;have HB:=zh hb;have HN:=zh hn;obtain⟨b0,b1,b2,b3,b4,b5,b6,b7,b8,b9,bf⟩:=bV (HU.o.below hb).box;have hkk:(0:Int)<=(kk:Int):=zN _;clear hb hn;by_cases hlt:kk<P.length
  ·obtain⟨rfl,hpb⟩:=K8.o (by omega);have hlt':(kk:Int)<(P.length:Int):=by omega
   obtain⟨cv,gv,c0,c1, -⟩:=aeg K9.o hpb (af.ob HB.o) hlt;have hbl:=fK wr _ c0;simp only at hbl;have hat:=aof (x:=x) hlt;by_cases e1:(P[kk]).head.s=x.s
   ·by_cases e2:((P[kk]).head.args.length:Int)=x.n
    ·have hres:=zh (show nO P (cZ P x (P.length - k) k)=(kk:Int)by rw[HN.o,hat,ai ⟨e1,e2⟩];unfold nO;rw[ai hlt]);have CX:((P[kk]).head.s.toList==x.s.toList)=true:=by simp[e1]
     have e2':(((P[kk]).head.args.length:Int)==x.n)=true:=by simpa using e2
     clear e1 e2 hat;go_wp2_with fail;go_ret;rw[hres.o];exact⟨rfl,HB.o⟩
    ·have hnx:=zh (HN.o.trans (hat.trans (ag (fun h=>e2 h.2))));have CX:((P[kk]).head.s.toList==x.s.toList)=true:=by simp[e1]
     have e2':(((P[kk]).head.args.length:Int)==x.n)=false:=by simpa using e2
     clear e1 e2 hat;go_wp2_with fail;go_roundw;case rel=>exact⟨kk+1,by omega,by omega,by go_num,HB.o,hnx.out⟩
     case measure=>simp[intOf];omega
   ·have hnx:=zh (HN.o.trans (hat.trans (ag (fun h=>e1 h.1))));have CX:=Wx e1;clear e1 hat;go_wp2_with fail;go_roundw;case rel=>exact⟨kk+1,by omega,by omega,by go_num,HB.o,hnx.out⟩
    case measure=>simp[intOf];omega
  ·have hres:=zh (show nO P (cZ P x (P.length - k) k)= -1 by rw[HN.o,show P.length - kk=0 by omega,cZ];unfold nO;rw[ag hlt]);have hlt':(P.length:Int)<=(kk:Int):=by omega
   go_wp2_with fail;go_ret;rw[hres.o];exact⟨rfl,HB.o⟩
end
def nP(g:Nat)(k:Int)(w:World):Prop:=w.heap[g]?=some (.cells #[.int .i64 k] 3 (0,0))
def aog(g:Nat)(w:World)(res:Option (Tm×Nat))(e:Ending)(w':World):Prop:=∃(us:List Value)(t:Tm)(k:Int),e= .returned (.agg us.toArray)/\Ch (fun b=>b=g) w w'/\Tm.rep (fun b=>New w b) w' t us/\nP g k w'/\((res=none/\k= -1)\/(res=some (t,k.toNat)/\0<=k))
def QQ(k:Nat):Prop:=∀(h:Hp)(a:Int)(g:Nat)(A:Nat->Prop)(w:World)(us:List Value),gU h.cells->aA a->¬A g->Hp.rep A w h us->nP g k w->k<=65536->Calls Tryz.prog 102 #[.agg us.toArray,.int .i64 a,.pointer (some ⟨g,0,none⟩)] w (aog g w (jD h.cells k a))
theorem yH(A:Nat->Prop)(w:World):Tm.rep A w vv [.int .i64 0,.int .i64 0,.string .empty,.slice none 0 0]:=by rw[vv,Tm.gL];exact⟨by unfold aA;omega,by unfold aA;omega,by decide,_,rfl,au.nil ..⟩
theorem Ht(A:Nat->Prop)(w:World)(k n:Int)(s:ByteArray)(hk:aA k)(hn:aA n)(hs:s.size<=1048576):Tm.rep A w (.mk k n s []) [.int .i64 k,.int .i64 n,.string s,.slice none 0 0]:=by rw[Tm.gL];exact⟨hk,hn,hs,_,rfl,au.nil ..⟩
theorem aoh{s:ByteArray}(h:s.toList=[]):s=.empty:=Gu (h.trans (by rw[F8];rfl))
theorem EW{g:Nat}{k:Int}{w:World}(h:nP g k w):w.cell? ⟨g,0,none⟩=some (.int .i64 k)/\(∀o,w.frozen? ⟨g,o,none⟩=false)/\g<w.heap.size:=⟨(bW h 0).trans rfl,fun o=>by unfold nP at h;simp[World.frozen?,h],aJ h⟩
theorem WG{g:Nat}{k k':Int}{w:World}(h:nP g k w):nP g k' (w.setCell ⟨g,0,none⟩ (.int .i64 k')):=(bG h 0 _).trans rfl
theorem Hu{g b o:Nat}{u:Value}{k:Int}{w:World}(h:nP g k w)(hb:g≠b):nP g k (w.setCell ⟨b,o,none⟩ u):=(bH _ _ _ _ hb).trans h
theorem aoi{g:Nat}{k:Int}{w w':World}(h:nP g k w)(hk:af (fun _=>True) w w'):nP g k w':=bB h hk trivial
theorem yI{g:Nat}{k:Int}{w:World}(h:nP g k w)(o:Obj):nP g k (w.alloc o):=aX h o
theorem aoj:QQ 0:=by
 intro h a g A w us hg ha WH hh hl hk;obtain⟨va,cap,vb,aR,rfl,hc1,hc2,hc3,ht1,ht2,ht3, -⟩:=Hp.mG hh;obtain⟨l0,lf,hgl⟩:=EW hl;have HL:=zh hl;have hcs:=dH;have aok:g<w.heap.size+1:=by omega
 clear hh hl hg;rw[adU];go_enter Tryz.func102,Tryz.ntmps102;go_wp2_with fail;refine dD (v:= .agg #[.int .i64 0,.int .i64 0,.string .empty,.slice none 0 0]) (by simp[results,Tryz.results102,go_sem,hcs];rfl) rfl ?_;exact⟨_,vv, -1,rfl,((CK g 0 w _).alloc _).alloc _,yH _ _,yI (yI (WG HL.o) _) _,.inl ⟨rfl,rfl⟩⟩
theorem aol(k:Nat)(ih:∀m,m<=k->QQ m):QQ (k+1):=by
 intro h a g A w us hg ha WH hh hl hk;obtain⟨va,cap,vb,aR,rfl,hc1,hc2,hc3,ht1,ht2,ht3,hc,ht⟩:=Hp.mG hh;obtain⟨_,_,cb,qD,e, -, -, -,j3,hce⟩:=hc.at;simp only[dC,dL]at e;obtain⟨rfl,rfl⟩:=e;obtain⟨l0,lf,hgl⟩:=EW hl;have HL:=zh hl;have HH:=zh hh;have HG:=zh hg;have HI:=zh ha;have sF:=zh j3;have vC:=zh hce;have QR:=zh WH;have IH:=zh ih;have hcs:=dH;have aok:g<w.heap.size+1:=by omega
 rw[show((k+1:Nat):Int)=(k:Int)+1 by omega]at l0;have hk0:(0:Int)<=(k:Int):=zN _;clear hh hl hg ha j3 hce ih hc ht WH;go_enter Tryz.func102,Tryz.ntmps102;go_wp2_with fail;have eO:Hd ((((w.setCell ⟨g,0,none⟩ (.int .i64 (k:Int))).alloc (.cells #[.slice va h.cells.length cap,.slice vb h.trail.length aR] 59)).alloc (.cells #[.int .i64 0,.int .i64 0,.string .empty,.slice none 0 0] 34)).heap[w.heap.size]?=some (.cells #[.slice va h.cells.length cap,.slice vb h.trail.length aR] 59)):=zh (by simpa using(je (w.setCell ⟨g,0,none⟩ (.int .i64 (k:Int))) (.cells #[.slice va h.cells.length cap,.slice vb h.trail.length aR] 59) (.cells #[.int .i64 0,.int .i64 0,.string .empty,.slice none 0 0] 34)).1);have dI:Hd ((((w.setCell ⟨g,0,none⟩ (.int .i64 (k:Int))).alloc (.cells #[.slice va h.cells.length cap,.slice vb h.trail.length aR] 59)).alloc (.cells #[.int .i64 0,.int .i64 0,.string .empty,.slice none 0 0] 34)).heap[w.heap.size+1]?=some (.cells #[.int .i64 0,.int .i64 0,.string .empty,.slice none 0 0] 34)):=zh (by simpa using(je (w.setCell ⟨g,0,none⟩ (.int .i64 (k:Int))) (.cells #[.slice va h.cells.length cap,.slice vb h.trail.length aR] 59) (.cells #[.int .i64 0,.int .i64 0,.string .empty,.slice none 0 0] 34)).2);have wS:=zh (show nP g k (((w.setCell ⟨g,0,none⟩ (.int .i64 (k:Int))).alloc (.cells #[.slice va h.cells.length cap,.slice vb h.trail.length aR] 59)).alloc (.cells #[.int .i64 0,.int .i64 0,.string .empty,.slice none 0 0] 34))from yI (yI (WG HL.o) _) _);have gW:=zh (show Ch (fun b=>b=g) w (((w.setCell ⟨g,0,none⟩ (.int .i64 (k:Int))).alloc (.cells #[.slice va h.cells.length cap,.slice vb h.trail.length aR] 59)).alloc (.cells #[.int .i64 0,.int .i64 0,.string .empty,.slice none 0 0] 34))from((CK g 0 w _).alloc _).alloc _);have hW1:(((w.setCell ⟨g,0,none⟩ (.int .i64 (k:Int))).alloc (.cells #[.slice va h.cells.length cap,.slice vb h.trail.length aR] 59)).alloc (.cells #[.int .i64 0,.int .i64 0,.string .empty,.slice none 0 0] 34)).heap.size=w.heap.size+2:=by simp
 generalize HW1:((w.setCell ⟨g,0,none⟩ (.int .i64 (k:Int))).alloc (.cells #[.slice va h.cells.length cap,.slice vb h.trail.length aR] 59)).alloc (.cells _ 34)=W1;have e1:((w.setCell ⟨g,0,none⟩ (.int .i64 (k:Int))).alloc (.cells #[.slice va h.cells.length cap,.slice vb h.trail.length aR] 59)).alloc (.cells #[.int .i64 0,.int .i64 0,.string .empty,.slice none 0 0] 34)=W1:=HW1;rw[e1]at eO dI wS gW hW1;clear e1 HW1;have HR1:=zh (Hp.rep.keeps HH.o (gW.o.keeps (A:=A) (fun b _ hb e=>by subst e;exact QR.o hb)));refine(look_ok h a HI.o A _ [_,_] HR1.o).mono ?_;rintro e w2⟨r,rfl,hb2,rfl⟩;have kS:=zh (aL eO.o hb2);have wV:=zh (aL dI.o hb2);have HL2:=zh (show nP g k w2 from aL wS.o hb2);have iL:=zh (gW.o.tb hb2);have hz2:w.heap.size+2<=w2.heap.size:=by have :=hb2.size;omega
 have La:w.heap.size+1<w2.heap.size:=by omega
 have hg2:g<w2.heap.size:=by omega
 obtain⟨q0,qf, -⟩:=EW HL2.o;obtain⟨x0,x1,xf⟩:=dO kS.o;obtain⟨y0,y1,y2,y3,yf⟩:=aU wV.o;clear l0 lf hb2 eO dI;have hne1:¬w.heap.size+1=g:=by omega
 have hne2:¬g=w.heap.size+1:=by omega
 by_cases hneg:look h.cells a<0
 ·have HR:=zh (show jD h.cells (k+1) a=none by rw[Wl,ai hneg]);go_wp2_with fail;refine dD (v:= .agg #[.int .i64 0,.int .i64 0,.string .empty,.slice none 0 0]) (by simp[results,Tryz.results102,go_sem,hcs,y0,y1,y2,y3,La,hne1,hne2];try rfl) rfl ?_;have hch:=iL.o.Qn 0 (.int .i64 (-1));have hle:=WG (k':= -1) HL2.o;refine⟨[.int .i64 0,.int .i64 0,.string .empty,.slice none 0 0],vv, -1,rfl,?_,yH _ _,?_,.inl ⟨HR.o,rfl⟩⟩;·repeat(with_reducible first|exact hch|refine Ch.alloc ?_ _|refine Ch.setCell ?_ (.inr (by simp)) _)
  ·repeat(with_reducible first|exact hle|refine yI ?_ _|refine Hu ?_ (by omega))
 ·obtain⟨x,hx,hxl,hcx⟩:=oq (JP (l:=h.cells) (a:=a) (by omega)).1;have Bg:=zh (show jD h.cells (k+1) a=if h.cells[x].kind=3 then(match eG h.cells k (argsAt (x:Int) h.cells[x].n)with|none=>none|some (ts,w1)=>some (.mk 3 0 h.cells[x].s ts,w1))else some (if h.cells[x].kind=0 then .mk 0 (x:Int) .empty []else .mk h.cells[x].kind h.cells[x].n h.cells[x].s [],k)by rw[Wl,ag hneg,hcx,hx]<;>rfl);have wL:=HG.o x hxl;rw[hx];have hx0:(0:Int)<=(x:Int):=zN _;have hx1:(x:Int)<(h.cells.length:Int):=by omega
  obtain⟨rfl,bC⟩:=sF.o (by omega);obtain⟨c0,c1,c2,i0,i1,i2⟩:=xO vC.o bC (iL.o.keeps (A:=A) (fun b _ hb e=>by subst e;exact QR.o hb)) hxl;have HI1:=zh i1;have HI2:=zh i2;generalize hcc:h.cells[x]=c at wL Bg c0 c1 c2 i0 i1 i2 HI1 HI2;have aeh:aA (x:Int):=by unfold aA;omega
  have aom:=zh aeh;clear hcx hx hneg i0 i1 i2 aeh;unfold Ce.fF at wL;rcases wL with⟨hk0', -, -, -⟩|⟨WI,hn1', -⟩|⟨zO,aei⟩|⟨Kq,hn1,rV,hnl, -⟩
  ·have HR:=zh (show jD h.cells (k+1) a=some (.mk 0 (x:Int) .empty [],k)by rw[Bg.o,ag (by omega),ai hk0']);rw[hk0']at c0;clear hk0' Bg;go_wp2_with fail;refine dD (v:= .agg #[.int .i64 0,.int .i64 (x:Int),.string .empty,.slice none 0 0]) (by simp[results,Tryz.results102,go_sem,hcs,y0,y1,y2,y3,La,hne1,hne2];try rfl) rfl ?_;have hch:=iL.o;have hle:=HL2.o;refine⟨[.int .i64 0,.int .i64 (x:Int),.string .empty,.slice none 0 0],.mk 0 (x:Int) .empty [],k,rfl,?_,Ht _ _ _ _ _ (by unfold aA;omega) aom.o (by decide),?_,.inr ⟨by rw[HR.o];rfl,hk0⟩⟩;·repeat(with_reducible first|exact hch|refine Ch.alloc ?_ _|refine Ch.setCell ?_ (.inr (by simp)) _)
   ·repeat(with_reducible first|exact hle|refine yI ?_ _|refine Hu ?_ (by omega))
  ·have HR:=zh (show jD h.cells (k+1) a=some (.mk 1 0 c.s [],k)by rw[Bg.o,ag (by omega),ag (by omega),WI,hn1']);rw[WI]at c0;clear WI hn1' Bg;go_wp2_with fail;refine dD (v:= .agg #[.int .i64 1,.int .i64 0,.string c.s,.slice none 0 0]) (by simp[results,Tryz.results102,go_sem,hcs,y0,y1,y2,y3,La,hne1,hne2];try rfl) rfl ?_;have hch:=iL.o;have hle:=HL2.o;refine⟨[.int .i64 1,.int .i64 0,.string c.s,.slice none 0 0],.mk 1 0 c.s [],k,rfl,?_,Ht _ _ _ _ _ (by unfold aA;omega) (by unfold aA;omega) HI2.o,?_,.inr ⟨by rw[HR.o];rfl,hk0⟩⟩;·repeat(with_reducible first|exact hch|refine Ch.alloc ?_ _|refine Ch.setCell ?_ (.inr (by simp)) _)
   ·repeat(with_reducible first|exact hle|refine yI ?_ _|refine Hu ?_ (by omega))
  ·have hse:=aoh aei;have HR:=zh (show jD h.cells (k+1) a=some (.mk 2 c.n .empty [],k)by rw[Bg.o,ag (by omega),ag (by omega),zO,hse]);rw[zO]at c0;clear zO aei Bg hse;go_wp2_with fail;refine dD (v:= .agg #[.int .i64 2,.int .i64 c.n,.string .empty,.slice none 0 0]) (by simp[results,Tryz.results102,go_sem,hcs,y0,y1,y2,y3,La,hne1,hne2];try rfl) rfl ?_;have hch:=iL.o;have hle:=HL2.o;refine⟨[.int .i64 2,.int .i64 c.n,.string .empty,.slice none 0 0],.mk 2 c.n .empty [],k,rfl,?_,Ht _ _ _ _ _ (by unfold aA;omega) HI1.o (by decide),?_,.inr ⟨by rw[HR.o];rfl,hk0⟩⟩;·repeat(with_reducible first|exact hch|refine Ch.alloc ?_ _|refine Ch.setCell ?_ (.inr (by simp)) _)
   ·repeat(with_reducible first|exact hle|refine yI ?_ _|refine Hu ?_ (by omega))
  ·rw[Kq]at c0;have HR:=zh (show jD h.cells (k+1) a=match eG h.cells k (argsAt (x:Int) c.n)with|none=>none|some (ts,w1)=>some (.mk 3 0 c.s ts,w1)by rw[Bg.o,ai Kq]);obtain⟨nn,hnn⟩:=dQ (show 0<=c.n by omega);rw[hnn]at c1 hn1 rV hnl HR;have hal:(argsAt (x:Int) (nn:Int)).length=nn:=by simp[argsAt]
   have pQ:=zh hal;clear Kq hnn Bg hal;go_wp2_with fail;have Bh:=zh (aX (aX kS.o (.cells #[.int .i64 3,.int .i64 (nn:Int),.string c.s] 112)) (.cells #[.int .i64 3,.int .i64 0,.string c.s,.slice none 0 0] 34));have WJ:=zh (aX (aX wV.o (.cells #[.int .i64 3,.int .i64 (nn:Int),.string c.s] 112)) (.cells #[.int .i64 3,.int .i64 0,.string c.s,.slice none 0 0] 34));have aej:=zh (je w2 (.cells #[.int .i64 3,.int .i64 (nn:Int),.string c.s] 112) (.cells #[.int .i64 3,.int .i64 0,.string c.s,.slice none 0 0] 34));have WK:=zh (yI (yI HL2.o (.cells #[.int .i64 3,.int .i64 (nn:Int),.string c.s] 112)) (.cells #[.int .i64 3,.int .i64 0,.string c.s,.slice none 0 0] 34));have wM:=zh ((iL.o.alloc (.cells #[.int .i64 3,.int .i64 (nn:Int),.string c.s] 112)).alloc (.cells #[.int .i64 3,.int .i64 0,.string c.s,.slice none 0 0] 34));have hs3:((w2.alloc (.cells #[.int .i64 3,.int .i64 (nn:Int),.string c.s] 112)).alloc (.cells #[.int .i64 3,.int .i64 0,.string c.s,.slice none 0 0] 34)).heap.size=w2.heap.size+2:=by simp
   clear q0 qf x0 x1 xf y0 y1 y2 y3 yf c0 c1 c2;go_loopw[9](fun i wr=>∃(j:Nat)(m:Int)(ts:List Tm)(v:Value),j<=nn/\i= .int .i64 ((j:Int)+1)/\Ch (fun b=>b=g) w wr/\wr.heap[w.heap.size]?=some (.cells #[.slice (some ⟨cb,qD,none⟩) h.cells.length cap,.slice vb h.trail.length aR] 59 (0,0))/\wr.heap[w.heap.size+1]?=some (.cells #[.int .i64 0,.int .i64 0,.string .empty,.slice none 0 0] 34 (0,0))/\wr.heap[w2.heap.size]?=some (.cells #[.int .i64 3,.int .i64 (nn:Int),.string c.s] 112)/\wr.heap[w2.heap.size+1]?=some (.cells #[.int .i64 3,.int .i64 0,.string c.s,v] 34 (0,0))/\aG wr (w2.heap.size+2) 34 4 Tm.rep (fun b=>w2.heap.size+2<=b) ts v/\nP g m wr/\ts.length<=j/\w2.heap.size+2<=wr.heap.size/\((m= -1/\eG h.cells k (argsAt (x:Int) (nn:Int))=none)\/(0<=m/\m<=k/\ts.length=j/\eG h.cells k ((argsAt (x:Int) (nn:Int)).take j)=some (ts,m.toNat))))(fun i _=>nn+1 - (intOf i).toNat);case atStart=>exact⟨0,k,[],_,dn _,rfl,wM.o,Bh.o,WJ.o,aej.o.1,aej.o.2,aG.nil ..,WK.o,zL _,by omega,.inr ⟨by omega,kr _,rfl,by rw[mE,AL];rfl⟩⟩
   case round=>
    obtain⟨j,m,ts,v,hj,rfl,hch,WL,WM,WN,QS,hown,hle,htl,hsz,hst⟩:=hrel;have bU:=zh hch;have HY1:=zh WL;have WO:=zh WM;have WQ:=zh WN;have EX:=zh QS;have HO:=zh hown;have Lb:=zh hle;obtain⟨EY,vc,rfl,qG⟩:=hown.val;obtain⟨q0,qf,hgr⟩:=EW hle;obtain⟨x0,x1,xf⟩:=dO WL;obtain⟨y0,y1,y2,y3,yf⟩:=aU WM;obtain⟨c0,c1,c2,cf⟩:=gH WN;obtain⟨t0,t1,t2,t3,tf⟩:=aU QS;have hz1:w.heap.size+1<wr.heap.size:=by omega
    clear hch WL WM WN QS hown hle;have Lc:Hd (m= -1\/j=nn)\/(0<=m/\j<nn):=by
     rcases hst with⟨e, -⟩|⟨e, -⟩;·exact .inl (zh (.inl e))
     ·by_cases h:j<nn;·exact .inr ⟨e,h⟩
      ·exact .inl (zh (.inr (by omega)))
    rcases Lc with Lc|⟨hm0,hlt⟩
    ·have CY:Hd ((jD h.cells (k+1) a=none/\m= -1)\/(jD h.cells (k+1) a=some (.mk 3 0 c.s ts,m.toNat)/\0<=m)):=by
      rw[HR.o];rcases hst with⟨e1,e2⟩|⟨e1, -, -,e2⟩;·exact zh (.inl ⟨by rw[e2],e1⟩)
      ·rcases Lc.out with e3|e3;·omega
       ·rw[e3,iZ (by rw[pQ.o];exact zL _)]at e2;exact zh (.inr ⟨by rw[e2],e1⟩)
     have hcond:((nn:Int)<(j:Int)+1)\/((j:Int)+1<=(nn:Int)/\m<0):=by rcases Lc.out with e|e<;>omega
     have QT:ts.length<=1048576:=by omega
     clear hst Lc;rcases hcond with hcond|⟨hcond,hcm⟩;all_goals
      go_wp2_with fail;refine dD (v:= .agg #[.int .i64 3,.int .i64 0,.string c.s,.slice EY ts.length vc]) (by simp[results,Tryz.results102,go_sem,hcs,y0,y1,y2,y3,hz1,hne1,hne2];try rfl) rfl ?_;have hch:=bU.o;have hle:=Lb.o;refine⟨[_,_,_,_],.mk 3 0 c.s ts,m,rfl,?_,?_,?_,CY.o⟩;·repeat(with_reducible first|exact hch|refine Ch.alloc ?_ _|refine Ch.setCell ?_ (.inr (by simp)) _)
      ·rw[Tm.gL];refine⟨by unfold aA;omega,by unfold aA;omega,HI2.o,_,rfl,?_⟩;have hsl:=HO.o.sl Tm.aj (A:=fun b=>w2.heap.size+2<=b) QT (fun b hb=>hb);refine au.mono Tm.aj (by omega) (au.keeps Tm.aj hsl ?_) (fun b _ hb=>by simp only[New]at*;omega);refine af.trans (af.trans (af.trans (af.setCell _ _ _ _ ?_) (af.setCell _ _ _ _ ?_)) (af.setCell _ _ _ _ ?_)) (af.setCell _ _ _ _ ?_)<;>(simp;omega)
      ·repeat(with_reducible first|exact hle|refine yI ?_ _|refine Hu ?_ (by omega))
    ·have hst':m<=k/\ts.length=j/\eG h.cells k ((argsAt (x:Int) (nn:Int)).take j)=some (ts,m.toNat):=by
      rcases hst with⟨e, -⟩|⟨-,e⟩;·omega
      ·exact e
     obtain⟨hmk,htj,hrd⟩:=hst';have aek:=zh hrd;have HTJ:=zh htj;have ax4:ts.length<=4:=by omega
     clear hst hrd htj htl;have hlt':(j:Int)+1<=(nn:Int):=by omega
     obtain⟨m,rfl⟩:=dQ hm0;rw[dG]at aek;go_wp2_with fail;have hW1:wr.drew.cell? ⟨w2.heap.size+1,3,none⟩=some (.slice EY ts.length vc):=(af.drew (fun _=>True) wr).cell trivial t3;have hW2:wr.drew.cell? ⟨w.heap.size,0,none⟩=some (.slice (some ⟨cb,qD,none⟩) h.cells.length cap):=(af.drew (fun _=>True) wr).cell trivial x0;have hW3:wr.drew.cell? ⟨w.heap.size,1,none⟩=some (.slice vb h.trail.length aR):=(af.drew (fun _=>True) wr).cell trivial x1;refine iG (F:=fun k w'=>(k=1\/k=2)->w'.cell? ⟨w2.heap.size+1,3,none⟩=some (.slice EY ts.length vc)/\w'.cell? ⟨w.heap.size,0,none⟩=some (.slice (some ⟨cb,qD,none⟩) h.cells.length cap)/\w'.cell? ⟨w.heap.size,1,none⟩=some (.slice vb h.trail.length aR)) (by kernel_rfl) ?_;refine aD (i:=0) (v:=?_) rfl (Or.inl ⟨by rfl,?_⟩) (fun _=>⟨hW1,hW2,hW3⟩) ?_;rotate_left;·(intro w' hw;clear hw;go_simp<;>with_reducible rfl)
     simp only[zP];refine aD (i:=1) (v:=?_) rfl (Or.inl ⟨by rfl,?_⟩) (fun _=>⟨hW1,hW2,hW3⟩) ?_;rotate_left;·(intro w' hw;obtain⟨q0,q1,q2⟩:=hw (by omega);go_simp<;>with_reducible rfl)
     simp only[zP];refine aD (i:=2) (v:=?_) rfl (Or.inl ⟨by rfl,?_⟩) (fun _=>⟨hW1,hW2,hW3⟩) ?_;rotate_left;·(intro w' hw;obtain⟨q0,q1,q2⟩:=hw (by omega);go_simp<;>with_reducible rfl)
     simp only[zP];refine aD (i:=3) (v:=?_) rfl (Or.inl ⟨by rfl,?_⟩) (fun _=>⟨hW1,hW2,hW3⟩) ?_;rotate_left;·(intro w' hw;clear hw;go_simp<;>with_reducible rfl)
     simp only[zP];refine aD (i:=4) (v:=?_) rfl (Or.inl ⟨by rfl,?_⟩) (fun _=>⟨hW1,hW2,hW3⟩) ?_;rotate_left;·(intro w' hw;clear hw;go_simp<;>with_reducible rfl)
     simp only[zP];refine rA (i:=5) (v:= .int .i64 ((x:Int)+((j:Int)+1))) rfl (by kernel_rfl) (by kernel_rfl) (by kernel_rfl) (fun _ _ _ h=>h) (Or.inl ⟨by rfl,?_⟩) (fun _=>⟨hW1,hW2,hW3⟩) ?_;·intro w' hw;clear hw;go_simp;rw[IntKind.wrap_i64];omega
     simp only[zP];refine aD (i:=6) (v:=?_) rfl (Or.inl ⟨by rfl,?_⟩) (fun _=>⟨hW1,hW2,hW3⟩) ?_;rotate_left;·(intro w' hw;clear hw;go_simp<;>with_reducible rfl)
     simp only[zP];refine aM (i:=7) (by kernel_rfl) (aF rfl (by rfl) ?_);go_simp;rw[show(x:Int)+((j:Int)+1)=(x:Int)+1+(j:Int)by omega];have hrh:Hp.rep A wr.drew h [.slice (some ⟨cb,qD,none⟩) h.cells.length cap,.slice vb h.trail.length aR]:=Hp.rep.keeps HH.o ((bU.o.keeps (A:=A) (fun b _ hb e=>by subst e;exact QR.o hb)).trans (af.drew _ _));refine(IH.out m (by omega) h ((x:Int)+1+(j:Int)) g A wr.drew [_,_] HG.o (by unfold aA;omega) QR.o hrh (aoi Lb.o (af.drew _ _)) (by omega)).mono ?_;rintro e w3⟨us,t',k',rfl,bN,hr1,hl1,hres⟩;obtain⟨sa',eQ,rfl, -⟩:=Tm.dw hr1;have hsz1:=bN.size;simp only[eZ]at hsz1;have hkg:af (fun b=>b≠g) wr w3:=(af.drew _ _).trans (bN.keeps (A:=fun b=>b≠g) (fun b _ hb e=>hb e));have eT:=zh (HO.o.keeps Tm.aj hkg (fun b hb=>by omega) (fun b hb=>by have :=(HO.o.lt b hb).1;omega));have HN:=zh (JF Tm.aj HO.o (wc:=wr.drew) (zL _) (A:=fun b=>w2.heap.size+2<=b) (fun b hb=>by simp only[eZ]at hb;omega) hr1);have Ld:=zh (show ts.length<4194304/\w2.heap.size+2<=w3.heap.size by omega);have WR:=zh (show Ch (fun b=>b=g) w w3 from(bU.o.drew).trans bN (fun _ h=> .inl h));have HQ:=zh (show w3.cell? ⟨w2.heap.size+1,3,none⟩=some (.slice EY ts.length vc)/\w3.cell? ⟨w.heap.size,0,none⟩=some (.slice (some ⟨cb,qD,none⟩) h.cells.length cap)/\w3.cell? ⟨w.heap.size,1,none⟩=some (.slice vb h.trail.length aR)from⟨hkg.cell (by omega) t3,hkg.cell (by omega) x0,hkg.cell (by omega) x1⟩);have aoo:=zh (bB HY1.o hkg (by omega));have aop:=zh (bB WO.o hkg (by omega));have aoq:=zh (bB WQ.o hkg (by omega));have aor:=zh (bB EX.o hkg (by omega));have Le:=zh hl1;have l7:=zh hres;clear hrh hr1 hl1 hres bN hkg q0 qf x0 x1 xf y0 y1 y2 y3 yf c0 c1 c2 cf t0 t1 t2 t3 tf;refine⟨fun _ _ _ _=>HQ.o,?_⟩;refine aM (i:=8) (by kernel_rfl) (aF rfl (by rfl) ?_);go_simp;refine⟨fun _ _ _ _=>?_,?_⟩;·obtain⟨q0,q1,q2⟩:=HQ.o;have ka:=af.alloc (fun _=>True) w3 (.cells #[.int .i64 t'.kind,.int .i64 t'.n,.string t'.s,.slice sa' t'.args.length eQ] 34);exact⟨ka.cell trivial q0,ka.cell trivial q1,ka.cell trivial q2⟩
     refine aM (i:=9) (by kernel_rfl) (aF rfl (by rfl) ?_);refine oh (.tmp 63) (.tmp 70) 23 rfl (w2.heap.size+2) 34 4 56 rz Tm.aj _ _ rfl eT.o t' [_,_,_,_] rfl rfl HN.o Ld.o ?_;intro v2 w4 hown2 aB;have hlt2:=HO.o.lt;have hk2:=aB.keeps (A:=fun b=>ownB (.slice EY ts.length vc)≠some b) (fun _ h=>h);have hka:=(af.alloc (fun b=>ownB (.slice EY ts.length vc)≠some b) w3 (.cells #[.int .i64 t'.kind,.int .i64 t'.n,.string t'.s,.slice sa' t'.args.length eQ] 34)).trans hk2;have hno:∀b,b<w2.heap.size+2->ownB (.slice EY ts.length vc)≠some b:=fun b hb e=>by have :=(hlt2 _ e).1;omega
     have aos:=zh (bB aoo.o hka (hno _ (by omega)));have aot:=zh (bB aop.o hka (hno _ (by omega)));have aou:=zh (bB aoq.o hka (hno _ (by omega)));have aen:=zh (bB aor.o hka (hno _ (by omega)));have WT:=zh (show nP g k' w4 from bB Le.o hka (hno _ (by omega)));have yt:=zh (aB.ch (WR.o.alloc _) (fun b hb=> .inr (by have :=(hlt2 b hb).1;omega)));obtain⟨aY,aZ,hv2,zy⟩:=hown2.val;rw[show(ts++[t']).length=ts.length+1 by simp]at hv2;subst hv2;have hz2':=aB.size;have bA:=zh hown2;simp only[bQ]at hz2';obtain⟨y0,y1,y2,y3,yf⟩:=aU aen.o;refine⟨fun _ _ _ _=>?_,?_⟩;·obtain⟨q0,q1,q2⟩:=HQ.o;exact⟨hka.cell (hno _ (by omega)) q0,hka.cell (hno _ (by omega)) q1,hka.cell (hno _ (by omega)) q2⟩
     clear hown2 hka hk2;simp only[zP];refine aD (i:=10) (v:=?_) rfl (Or.inl ⟨by rfl,?_⟩) (fun h=>by omega) ?_;rotate_left;·(intro w' hw;clear hw;go_simp<;>with_reducible rfl)
     simp only[zP];refine aM (i:=11) (by kernel_rfl) (aF rfl (by rfl) ?_);go_simp;refine⟨fun k0 hk0 _ h12=>?_,fO (by kernel_rfl) ?_ _⟩
     ·rcases h12 with rfl|rfl;·exact absurd (show waits _ 11 1=true by kernel_rfl) (by rw[hk0];decide)
      ·exact absurd (show waits _ 11 2=true by kernel_rfl) (by rw[hk0];decide)
     have HB3:=zh (bG aen.o 3 (.slice aY (ts.length+1) aZ));have ax5:(w4.setCell ⟨w2.heap.size+1,3,none⟩ (.slice aY (ts.length+1) aZ)).heap.size=w4.heap.size:=by simp
     have iH:=zh (af.setCell (fun b=>b≠w2.heap.size+1) w4 ⟨w2.heap.size+1,3,none⟩ (.slice aY (ts.length+1) aZ) (by simp));have hja:j<(argsAt (x:Int) (nn:Int)).length:=by rw[pQ.o];exact hlt
     have ji:=zh (show eG h.cells k ((argsAt (x:Int) (nn:Int)).take (j+1))=(match jD h.cells m ((x:Int)+1+(j:Int))with|none=>none|some (t,w2)=>some (ts++[t],w2))by rw[dX hja,GY,adV,aek.o]<;>rfl);clear aB;go_wp2_with fail;go_roundw;case rel=>
      refine⟨j+1,k',ts++[t'],_,by omega,by go_num,yt.o.setCell (.inr (by simp only;omega)) _,bB aos.o iH.o (by omega),bB aot.o iH.o (by omega),bB aou.o iH.o (by omega),HB3.o,?_,Hu WT.o (by omega),by have :=HTJ.o;simp;omega,by omega,?_⟩;·exact bA.o.keeps Tm.aj iH.o (fun b hb=>by omega) (fun b hb=>by have :=(bA.o.lt b hb).1;omega)
      ·rcases l7.o with⟨r1,r2⟩|⟨r1,r2⟩;·refine .inl ⟨r2,?_⟩;have :=anO h.cells k ((argsAt (x:Int) (nn:Int)).take (j+1)) ((argsAt (x:Int) (nn:Int)).drop (j+1)) (by rw[ji.o,r1]);rwa[Ju]at this
       ·refine .inr ⟨r2,?_,by have :=HTJ.o;simp;omega,by rw[ji.o,r1]⟩;have :=QB r1;omega
     case measure=>simp[intOf];omega
theorem WU:∀k,QQ k:=by intro k;induction k using Nat.strongRecOn with|_ k ih=>cases k with|zero=>exact aoj|succ k=>exact aol k fun m hm=>ih m (by omega)
