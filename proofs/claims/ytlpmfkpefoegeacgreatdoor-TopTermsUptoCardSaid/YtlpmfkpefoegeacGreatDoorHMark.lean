import Derived.Test.YtlpmfkpefoegeacGreatDoorQSolveE
import Derived.StillTailTactics
import Derived.BigQuiet
namespace Go.Proofs.YtlpmfkpefoegeacGreatDoor
set_option maxRecDepth 99999
set_option maxHeartbeats 0
set_option linter.all false
open Go.RowKit
def TN(A:Nat->Prop)(w:World)(c:Cl)(vs:List Value):Prop:=∃cv gv,vs=[.string c.head.s,↑c.head.args.length,cv,↑(aB c).vars,↑(aB c).head,gv]/\sN A w (aB c).cells cv/\gX A w (aB c).goals gv
def tZ:iy TN:=by
 refine⟨λA w w' c vs h hk=>?_,λA A' w c vs h hA=>?_,λA w c vs h=>?_⟩;·obtain⟨cv,gv,e,h1,h2⟩:=h;exact⟨cv,gv,e,ag.keeps Ce.ae h1 hk,ag.keeps aN h2 hk⟩
 ·obtain⟨cv,gv,e,h1,h2⟩:=h;exact⟨cv,gv,e,ag.mono Ce.ae zB h1 hA,ag.mono aN zB h2 hA⟩
 ·obtain⟨cv,gv,rfl,h1,h2⟩:=h;obtain⟨_,_,_,_,rfl, -⟩:=ag.at h1;obtain⟨_,_,_,_,rfl, -⟩:=ag.at h2;simp[Value.oneCell']
def TP(g:Gm):List Value:=[↑g.at_,↑g.bar,↑g.next]
def OI(g:Gm):Prop:=ah g.at_/\ah g.next/\g.bar<=1000000
def EZ(c:Cm):List Value:=[↑c.goal,↑c.from_,↑c.top,↑c.trail]
def TQ(c:Cm):Prop:=c.goal<=1000000/\c.from_<=1000000/\c.top<=1000000/\c.trail<=1000000
theorem ZB(g:Gm):(TP g).length=3:=rfl
def ahW(g:Gm):∀u∈TP g,u.oneCell'=true:=by simp[TP,Value.oneCell']
theorem TR(c:Cm):(EZ c).length=4:=rfl
def asg(c:Cm):∀u∈EZ c,u.oneCell'=true:=by simp[EZ,Value.oneCell']
abbrev rV(w:World)(base:Nat)(l:List Gm)(v:Value):Prop:=I TP OI 117 3 w base l v
abbrev rW(w:World)(base:Nat)(l:List Cm)(v:Value):Prop:=I EZ TQ 124 4 w base l v
structure Mo where
  gv : Value
  cv : Value
  ov : Value
def MM(g:Nat)(o:Mo)(b:Nat):Prop:=b=g\/ownB o.gv=some b\/ownB o.cv=some b\/ownB o.ov=some b
def MA(g:Nat)(o:Mo)(b:Nat):Prop:=¬MM g o b
structure bS (base : Nat) (P : List Cl) (q g : Nat) (pv hc ht : Value) (o : Mo) (m : Mv) (w : World) : Prop where
  box : w.heap[g]? = some (.cells #[pv, hc, ht, o.gv, o.cv, .int .i64 m.now, .int .i64 (q : Int), .int .i64 m.query, .int .i64 (m.fuel : Int), o.ov] 63 (0, 0))
  prog : ag 6 TN (fun b => b < base ∧ b ≠ g) w P pv
  heap : Hp.rep (MA g o) w m.h [hc, ht]
  goals : rV w base m.goals o.gv
  bC : rW w base m.choices.reverse o.cv
  out : az w base 42 2 uK (MA g o) m.out o.ov
  bg : g < base ∧ base ≤ w.heap.size
  wI : ah m.now
  qb : ah m.query
  fu : m.fuel ≤ 150
  qq : q ≤ 8
  gl : m.goals.length ≤ 6000
  cl : m.choices.length ≤ 1000
  ol : m.out.length ≤ 20
def bM{w:World}{g:Nat}{E:TypeId}{v0 v1 v2 v3 v4 v5 v6 v7 v8 v9:Value}(h:w.heap[g]?=some (.cells #[v0,v1,v2,v3,v4,v5,v6,v7,v8,v9] E (0,0))):w.cell? (g,0)=some v0/\w.cell? (g,1)=some v1/\w.cell? (g,2)=some v2/\w.cell? (g,3)=some v3/\w.cell? (g,4)=some v4/\w.cell? (g,5)=some v5/\w.cell? (g,6)=some v6/\w.cell? (g,7)=some v7/\w.cell? (g,8)=some v8/\w.cell? (g,9)=some v9/\∀o,w.frozen? ⟨g,o,none⟩=false:=⟨(bY h 0).trans rfl,(bY h 1).trans rfl,(bY h 2).trans rfl,(bY h 3).trans rfl,(bY h 4).trans rfl,(bY h 5).trans rfl,(bY h 6).trans rfl,(bY h 7).trans rfl,(bY h 8).trans rfl,(bY h 9).trans rfl,λo=>by simp[World.frozen?,h]⟩
section
variable {base : Nat} {P : List Cl} {q g : Nat} {pv hc ht hc' ht' : Value} {o o' : Mo} {m m' : Mv} {w w' : World}
structure ash (g : Nat) (o : Mo) : Prop where
  gg : ownB o.gv ≠ some g
  cg : ownB o.cv ≠ some g
  og : ownB o.ov ≠ some g
  gc : ∀ b, ownB o.gv = some b → ownB o.cv ≠ some b
  go : ∀ b, ownB o.gv = some b → ownB o.ov ≠ some b
  co : ∀ b, ownB o.cv = some b → ownB o.ov ≠ some b
def bS.apart(h:bS base P q g pv hc ht o m w):ash g o:=by
 refine⟨λe=>?_,λe=>?_,λe=>?_,λb e e'=>?_,λb e e'=>?_,λb e e'=>?_⟩;·obtain⟨c,hc⟩:=mJ h.goals.1 e;exact absurd (lG h.box hc) af
 ·obtain⟨c,hc⟩:=mJ h.bC.1 e;exact absurd (lG h.box hc) af
 ·obtain⟨c,hc⟩:=h.out.ty e;exact absurd (lG h.box hc) af
 ·obtain⟨c,hc⟩:=mJ h.goals.1 e;obtain⟨c',hc'⟩:=mJ h.bC.1 e';exact absurd (lG hc hc') af
 ·obtain⟨c,hc⟩:=mJ h.goals.1 e;obtain⟨c',hc'⟩:=h.out.ty e';exact absurd (lG hc hc') af
 ·obtain⟨c,hc⟩:=mJ h.bC.1 e;obtain⟨c',hc'⟩:=h.out.ty e';exact absurd (lG hc hc') af
def bS.lt(h:bS base P q g pv hc ht o m w):g<w/\base<=w:=⟨ax h.box,h.bg.2⟩
def bS.rX(h:bS base P q g pv hc ht o m w):∀b,MM g o b->(b=g\/base<=b)/\b<w:=by
 rintro b(rfl|hb|hb|hb);·exact⟨.inl rfl,h.lt.1⟩
 ·exact⟨.inr (h.goals.lt b hb).1,(h.goals.lt b hb).2⟩
 ·exact⟨.inr (h.bC.lt b hb).1,(h.bC.lt b hb).2⟩
 ·exact⟨.inr (h.out.lt b hb).1,(h.out.lt b hb).2⟩
def bS.vals(h:bS base P q g pv hc ht o m w):∃pa pc ga gc ca cc oa oc ha hac hb hbc,pv= .slice pa P.length pc/\o.gv= .slice ga m.goals.length gc/\o.cv= .slice ca m.choices.length cc/\o.ov= .slice oa m.out.length oc/\hc= .slice ha m.h.cells.length hac/\ht= .slice hb m.h.trail.length hbc/\P.length<=pc/\pc<=maxLen/\m.goals.length<=gc/\gc<=maxLen/\m.choices.length<=cc/\cc<=maxLen/\m.out.length<=oc/\oc<=maxLen:=by obtain⟨pa,pc,_,_,rfl,p1,p2, -⟩:=ag.at h.prog;obtain⟨ga,gc,e1,g1,g2⟩:=h.goals.val;obtain⟨ca,cc,e2,c1,c2⟩:=h.bC.val;obtain⟨oa,oc,e3,o1,o2⟩:=az.kG h.out;obtain⟨ha,hac,hb,hbc,e4, -⟩:=Hp.nS h.heap;simp only[sF,mP]at e4;rw[DZ]at e2 c1;exact⟨pa,pc,ga,gc,ca,cc,oa,oc,ha,hac,hb,hbc,rfl,e1,e2,e3,e4.1,e4.2,p1,p2,g1,g2,c1,c2,o1,o2⟩
def bS.below(h:bS base P q g pv hc ht o m w)(hb:Below w w w'):bS base P q g pv hc ht o m w':=⟨aA h.box hb,ag.keeps tZ h.prog (J.ob hb),h.heap.below hb,h.goals.below hb,h.bC.below hb,h.out.below iL hb,⟨h.bg.1,dm h.bg.2 hb.size⟩,h.wI,h.qb,h.fu,h.qq,h.gl,h.cl,h.ol⟩
structure bR (w : World) (o o' : Mo) : Prop where
  gv : ∀ b, ownB o'.gv = some b → ownB o.gv = some b ∨ w.heap.size ≤ b
  cv : ∀ b, ownB o'.cv = some b → ownB o.cv = some b ∨ w.heap.size ≤ b
  ov : ∀ b, ownB o'.ov = some b → ownB o.ov = some b ∨ w.heap.size ≤ b
def bR.refl(w:World)(o:Mo):bR w o o:=⟨λb h=> .inl h,λb h=> .inl h,λb h=> .inl h⟩
def bR.trans{o'':Mo}(h:bR w o o')(h':bR w' o' o'')(hs:w.heap.size<=w'.heap.size):bR w o o'':=⟨λb hb=>(h'.gv b hb).elim (h.gv b) (λe=> .inr (dm hs e)),λb hb=>(h'.cv b hb).elim (h.cv b) (λe=> .inr (dm hs e)),λb hb=>(h'.ov b hb).elim (h.ov b) (λe=> .inr (dm hs e))⟩
def bR.up(h:bR w o o'):∀b,MM g o' b->MM g o b\/w<=b:=by
 rintro b(e|e|e|e);·exact .inl (.inl e)
 ·exact(h.gv b e).imp (λe=> .inr (.inl e)) id
 ·exact(h.cv b e).imp (λe=> .inr (.inr (.inl e))) id
 ·exact(h.ov b e).imp (λe=> .inr (.inr (.inr e))) id
def bD(base:Nat)(P:List Cl)(q g:Nat)(pv:Value)(o:Mo)(m':Mv)(w w':World):Prop:=∃hc' ht' o',bS base P q g pv hc' ht' o' m' w'/\Ch (MM g o) w w'/\bR w o o'
def bD.refl(h:bS base P q g pv hc ht o m w):bD base P q g pv o m w w:=⟨hc,ht,o,h,Ch.refl _ _,bR.refl _ _⟩
def bD.trans{w'':World}(hch:Ch (MM g o) w w')(hg:bR w o o')(h:bD base P q g pv o' m' w' w''):bD base P q g pv o m' w w'':=by obtain⟨c2,t2,o2,h1,h2,h3⟩:=h;exact⟨c2,t2,o2,h1,hch.trans h2 hg.up,hg.trans h3 hch.size⟩
def ZC(hc:Ch (MM g o) w w')(hg:bR w o o'):J (λb=>MA g o b/\b<w) w w'/\∀b,(MA g o b/\b<w)->MA g o' b:=by
 refine⟨hc.keeps λb _ hb e=>hb.1 e,λb hb e=>?_⟩;rcases hg.up b e with e|e;·exact hb.1 e
 ·have :=hb.2;omega
def E5{h:Hp}{vs:List Value}(hh:Hp.rep (MA g o) w h vs)(hc:Ch (MM g o) w w')(hg:bR w o o'):Hp.rep (MA g o') w' h vs:=by obtain⟨h1,h2⟩:=ZC hc hg;exact((hh.mono (A':=λb=>MA g o b/\b<w) λb hb hA=>⟨hA,hb⟩).keeps h1).mono λb _ hb=>h2 b hb
def bS.turned(h:bS base P q g pv hc ht o m w)(pG:w'.heap[g]?=some (.cells #[pv,hc',ht',o'.gv,o'.cv,↑m'.now,↑q,↑m'.query,↑m'.fuel,o'.ov] 63 (0,0)))(hch:Ch (MM g o) w w')(hg:bR w o o')(hh:Hp.rep (MA g o') w' m'.h [hc',ht'])(hgs:rV w' base m'.goals o'.gv)(hcs:rW w' base m'.choices.reverse o'.cv)(hou:az w' base 42 2 uK (MA g o') m'.out o'.ov)(hn:ah m'.now)(hq:ah m'.query)(hf:m'.fuel<=150)(hgl:m'.goals.length<=6000)(hcl:m'.choices.length<=1000)(hol:m'.out.length<=20):bD base P q g pv o m' w w':=⟨hc',ht',o',⟨pG,ag.keeps tZ h.prog (hch.keeps λb hb hA e=>by have :=(h.rX b e).1;have :=hA.1;have :=hA.2;omega),hh,hgs,hcs,hou,⟨h.bg.1,dm h.bg.2 hch.size⟩,hn,hq,hf,h.qq,hgl,hcl,hol⟩,hch,hg⟩
def bS.Kz(h:bS base P q g pv hc ht o m w){aEZ:Nat->Prop}(hch:Ch aEZ w w')(hz:∀b,ownB o.gv=some b->¬aEZ b):rV w' base m.goals o.gv:=h.goals.kept λk hk=>hch.block k (h.goals.lt k hk).2 (hz k hk)
def bS.OJ(h:bS base P q g pv hc ht o m w){aEZ:Nat->Prop}(hch:Ch aEZ w w')(hz:∀b,ownB o.cv=some b->¬aEZ b):rW w' base m.choices.reverse o.cv:=h.bC.kept λk hk=>hch.block k (h.bC.lt k hk).2 (hz k hk)
def bS.Ij(h:bS base P q g pv hc ht o m w){aEZ:Nat->Prop}(hch:Ch aEZ w w')(hZ:∀b,aEZ b->MM g o b)(hz:∀b,ownB o.ov=some b->¬aEZ b)(hg:bR w o o')(ho:o'.ov=o.ov):az w' base 42 2 uK (MA g o') m.out o'.ov:=by have hmid:=ZC (hch.mono λb _ hb=>hZ b hb) hg;rw[ho];refine((h.out.mono (A':=λb=>MA g o b/\b<w) iL λb hb hA=>⟨hA,hb⟩).keeps iL (hch.keeps (A:=λb=>¬aEZ b) λb _ hb=>hb) (λb hb e=>hb.1 (hZ b e)) hz).mono iL λb _ hb=>hmid.2 b hb
def bS.KA(h:bS base P q g pv hc ht o m w)(k:Nat)(u:Value)(hm:m'.h=m.h/\m'.goals=m.goals/\m'.choices=m.choices/\m'.out=m.out)(pG:(w.setCell (g,k) u).heap[g]?=some (.cells #[pv,hc,ht,o.gv,o.cv,↑m'.now,↑q,↑m'.query,↑m'.fuel,o.ov] 63 (0,0)))(hn:ah m'.now)(hq:ah m'.query)(hf:m'.fuel<=150):bD base P q g pv o m' w (w.setCell (g,k) u):=by
 have hap:=h.apart;have dz:Ch (λb=>b=g) w (w.setCell (g,k) u):=(Ch.refl (λb=>b=g) w).setCell (p:=(g,k)) (.inl rfl) _;have hch:Ch (MM g o) w (w.setCell (g,k) u):=dz.mono λb _ hb=> .inl hb;obtain⟨e1,e2,e3,e4⟩:=hm;refine h.turned pG hch (bR.refl _ _) ?_ ?_ ?_ ?_ hn hq hf (by rw[e2];exact h.gl) (by rw[e3];exact h.cl) (by rw[e4];exact h.ol);·rw[e1];exact E5 h.heap hch (bR.refl _ _)
 ·rw[e2];exact h.Kz dz λb hb e=>hap.gg (e▸hb)
 ·rw[e3];exact h.OJ dz λb hb e=>hap.cg (e▸hb)
 ·rw[e4];exact h.Ij dz (λb e=> .inl e) (λb hb e=>hap.og (e▸hb)) (bR.refl _ _) rfl
def bS.setH(h:bS base P q g pv hc ht o m w){x:Hp}(hx:Hp.rep (MA g o) w x [hc',ht']):bD base P q g pv o {m with h:=x} w ((w.setCell (g,1) hc').setCell (g,2) ht'):=by
 have hap:=h.apart;have dz:Ch (λb=>b=g) w ((w.setCell (g,1) hc').setCell (g,2) ht'):=((Ch.refl (λb=>b=g) w).setCell (p:=(g,1)) (.inl rfl) _).setCell (p:=(g,2)) (.inl rfl) _;have hch:Ch (MM g o) w ((w.setCell (g,1) hc').setCell (g,2) ht'):=dz.mono λb _ hb=> .inl hb;refine h.turned (m':={m with h:=x}) ((aX ((aX h.box 1 hc').trans rfl) 2 ht').trans rfl) hch (bR.refl _ _) (E5 hx hch (bR.refl _ _)) ?_ ?_ ?_ h.wI h.qb h.fu h.gl h.cl h.ol;·exact h.Kz dz λb hb e=>hap.gg (e▸hb)
 ·exact h.OJ dz λb hb e=>hap.cg (e▸hb)
 ·exact h.Ij dz (λb e=> .inl e) (λb hb e=>hap.og (e▸hb)) (bR.refl _ _) rfl
def bS.tell{e:Ev}{oI:Value}{w2:World}{cells:Array Value}(h:bS base P q g pv hc ht o m w)(hsz:m.out.length+1<=20)(hown:az w2 base 42 2 uK (MA g o) (m.out++[e]) oI)(hg:jJ (w.alloc (.cells cells 42)) w2 o.ov oI):bD base P q g pv o {m with out:=m.out++[e]} w (w2.setCell (g,9) oI):=by
 have hap:=h.apart;have hlt:=h.lt;have hog:∀b,ownB oI=some b->ownB o.ov=some b\/w<=b:=λb hb=>by
  rcases hg.block with e|e;·exact .inl (e▸hb)
  ·have :=e b hb;simp only[bO]at this;exact .inr zB
 have hgr:bR w o ⟨o.gv,o.cv,oI⟩:=⟨λb h=> .inl h,λb h=> .inl h,hog⟩;have dz:Ch (λb=>b=g\/ownB o.ov=some b) w (w2.setCell (g,9) oI):=(hg.ch ((Ch.refl _ _).alloc _) (λb hb=> .inl (.inr hb))).setCell (p:=(g,9)) (.inl (.inl rfl)) _;have hch:Ch (MM g o) w (w2.setCell (g,9) oI):=dz.mono λb _ hb=>hb.elim .inl λe=> .inr (.inr (.inr e));have hB2:w2.heap[g]?=_:=(hg.grown.block g (by simp;omega) (λe=>hap.og e.symm)).trans (aI h.box _);refine h.turned (o':=⟨o.gv,o.cv,oI⟩) (m':={m with out:=m.out++[e]}) ((aX hB2 9 _).trans rfl) hch hgr (E5 h.heap hch hgr) ?_ ?_ ?_ h.wI h.qb h.fu h.gl h.cl (by simpa using hsz);·exact h.Kz dz λb hb e=>e.elim (λe=>hap.gg (e▸hb)) (λe=>hap.go b hb e)
 ·exact h.OJ dz λb hb e=>e.elim (λe=>hap.cg (e▸hb)) (λe=>hap.co b hb e)
 ·have mV:ownB oI≠some g:=λe=>by
   rcases hog g e with e|e;·exact hap.og e
   ·omega
  refine(hown.keeps (B:=λb=>b≠g) iL (J.setCell _ _ _ _ (λh=>h rfl)) (λb hb e=>hb (.inl e)) (λb hb e=>mV (e▸hb))).mono' iL λb hb hA hn=>λhs=>?_;rcases hs with e|e|e|e;·exact hA (.inl e)
  ·exact hA (.inr (.inl e))
  ·exact hA (.inr (.inr (.inl e)))
  ·exact hn e
def bS.asi{x:Cm}{mY:Value}{w2:World}{cells:Array Value}(h:bS base P q g pv hc ht o m w)(hsz:m.choices.length+1<=1000)(hown:rW w2 base (m.choices.reverse++[x]) mY)(hg:jJ (w.alloc (.cells cells 124)) w2 o.cv mY):bD base P q g pv o {m with choices:=x::m.choices} w (w2.setCell (g,4) mY):=by
 have hap:=h.apart;have hlt:=h.lt;have hog:∀b,ownB mY=some b->ownB o.cv=some b\/w<=b:=λb hb=>by
  rcases hg.block with e|e;·exact .inl (e▸hb)
  ·have :=e b hb;simp only[bO]at this;exact .inr zB
 have hgr:bR w o ⟨o.gv,mY,o.ov⟩:=⟨λb h=> .inl h,hog,λb h=> .inl h⟩;have dz:Ch (λb=>b=g\/ownB o.cv=some b) w (w2.setCell (g,4) mY):=(hg.ch ((Ch.refl _ _).alloc _) (λb hb=> .inl (.inr hb))).setCell (p:=(g,4)) (.inl (.inl rfl)) _;have hZ:∀b,(b=g\/ownB o.cv=some b)->MM g o b:=λb hb=>hb.elim .inl λe=> .inr (.inr (.inl e));have hch:Ch (MM g o) w (w2.setCell (g,4) mY):=dz.mono λb _ hb=>hZ b hb;have hB2:w2.heap[g]?=_:=(hg.grown.block g (by simp;omega) (λe=>hap.cg e.symm)).trans (aI h.box _);have mV:ownB mY≠some g:=λe=>by
  rcases hog g e with e|e;·exact hap.cg e
  ·omega
 refine h.turned (o':=⟨o.gv,mY,o.ov⟩) (m':={m with choices:=x::m.choices}) ((aX hB2 4 _).trans rfl) hch hgr (E5 h.heap hch hgr) ?_ ?_ ?_ h.wI h.qb h.fu h.gl (by simpa using hsz) h.ol;·exact h.Kz dz λb hb e=>e.elim (λe=>hap.gg (e▸hb)) (λe=>hap.gc b hb e)
 ·rw[Wp];exact hown.kept λk hk=>aW _ _ _ _ (λe=>mV ((show k=g from e)▸hk))
 ·exact h.Ij dz hZ (λb hb e=>e.elim (λe=>hap.og (e▸hb)) (λe=>hap.co b e hb)) hgr rfl
def bS.ZE(h:bS base P q g pv hc ht o m w){k:Nat}(hk:k<=m.choices.length){ca:Option Addr}{cc:Nat}(hcv:o.cv= .slice ca m.choices.length cc):bD base P q g pv o {m with choices:=m.choices.drop (m.choices.length - k)} w (w.setCell (g,4) (.slice ca k cc)):=by
 have hap:=h.apart;have dz:Ch (λb=>b=g) w (w.setCell (g,4) (.slice ca k cc)):=(Ch.refl (λb=>b=g) w).setCell (p:=(g,4)) (.inl rfl) _;have hch:Ch (MM g o) w (w.setCell (g,4) (.slice ca k cc)):=dz.mono λb _ hb=> .inl hb;have hlr:m.choices.reverse.length=m.choices.length:=DZ;have hown:rW w base (m.choices.reverse.take k) (.slice ca k cc):=by have h1:=h.bC;rw[hcv,<-hlr]at h1;exact h1.take TR (by rw[hlr];exact hk)
 have hog:∀b,ownB (.slice ca k cc)=some b->ownB o.cv=some b:=λb hb=>by rw[hcv];cases ca with|none=>simp[ownB]at hb|some a=>simpa[ownB]using hb
 have hgr:bR w o ⟨o.gv,.slice ca k cc,o.ov⟩:=⟨λb h=> .inl h,λb h=> .inl (hog b h),λb h=> .inl h⟩;refine h.turned (o':=⟨o.gv,.slice ca k cc,o.ov⟩) (m':={m with choices:=m.choices.drop (m.choices.length - k)}) ((aX h.box 4 _).trans rfl) hch hgr (E5 h.heap hch hgr) ?_ ?_ ?_ h.wI h.qb h.fu h.gl (by have :=h.cl;simp only[yA];omega) h.ol;·exact h.Kz dz λb hb e=>hap.gg (e▸hb)
 ·have e:(m.choices.drop (m.choices.length - k)).reverse=m.choices.reverse.take k:=by rw[List.reverse_drop];congr 1;omega
  simp only;rw[e];exact hown.kept λb hb=>aW _ _ _ _ (λe=>hap.cg ((show b=g from e)▸hog b hb))
 ·exact h.Ij dz (λb e=> .inl e) (λb hb e=>hap.og (e▸hb)) hgr rfl
end
section
variable {base : Nat} {P : List Cl} {q g : Nat} {pv hc ht : Value} {o : Mo} {m : Mv} {w : World}
def asj(base:Nat)(P:List Cl)(q g:Nat)(pv:Value)(o:Mo)(m':Mv)(w:World)(e:Ending)(w':World):Prop:=e= .returned (.bool false)/\bD base P q g pv o m' w w'
def zt(kind:Int)(hk:ah kind)(h:bS base P q g pv hc ht o m w)(hsz:m.out.length+1<=20):Calls Tryz.prog 63 #[.pointer (some (g,0)),↑kind] w (asj base P q g pv o (m.put kind) w):=by have HU:=Y h;have HK:=Y hk;have zq:=Y hsz;have qQ:=Y h.apart;obtain⟨gv,cv,ov⟩:=o;obtain⟨pa,pc,ga,gc,ca,cc,oa,oc,ha,hac,hb,hbc,rfl,rfl,rfl,rfl,rfl,rfl, -⟩:=h.vals;obtain⟨hl1,hl2⟩:=h.lt;obtain⟨b0,b1,b2,b3,b4,b5,b6,b7,b8,b9,bf⟩:=bM h.box;have hcs:=bF;clear h hk;go_enter Tryz.func63,Tryz.ntmps63;go_wp2_with(at_builtin;go_must(refine ja rfl (.tmp 9) (.tmp 12) 24 rfl base 42 2 32 TM iL (A:=MA g _) (.slice oa m.out.length oc) m.out rfl HU.o.out ⟨kind,[]⟩ [↑kind,.slice none 0 0] au rfl ⟨_,rfl,ag.nil ..,HK⟩ ⟨zB,zB⟩ ?_);go_must(intro v2 w2 hown aj;have hB2:=(aj.grown.block g (by simp;omega) (λe=>qQ.o.og e.symm)).trans (aI HU.o.box _);obtain⟨aS,aT,hv2,kX,rO⟩:=az.kG hown;rw[show(m.out++[(⟨kind,[]⟩:Ev)]).length=m.out.length+1 by simp]at hv2;subst hv2;have bA:=Y hown;have HG2:=Y aj;obtain⟨k0,k1,k2,k3,k4,k5,k6,k7,k8,k9,kf⟩:=bM hB2;clear hown aj hB2));go_ret;exact⟨rfl,HU.o.tell zq bA HG2⟩
def ZF(x:Gm)(hx:Inb m.h.cells x.at_)(h:bS base P q g pv hc ht o m w):Calls Tryz.prog 70 #[.pointer (some (g,0)),.agg #[↑x.at_,↑x.bar,↑x.next]] w (λe w'=>e= .returned (.tuple #[.string (cellAt m.h.cells x.at_).s,↑(cellAt m.h.cells x.at_).n])/\Below w w w'):=by
 have HU:=Y h;obtain⟨pa,pc,ga,gc,ca,cc,oa,oc,ha,hac,hb,hbc, -, -, -, -,rfl,rfl, -⟩:=h.vals;obtain⟨hl1,hl2⟩:=h.lt;obtain⟨k,hka,hkl,hce⟩:=pX hx;rw[hce];obtain⟨c,t,e0,zu, -⟩:=h.heap;simp only[sF,mP]at e0;obtain⟨rfl,rfl⟩:=e0;obtain⟨_,_,hb0,hoff,e9,ZG,KC,hh3,Bj,Bl⟩:=ag.at zu;simp only[cK,dx]at e9;obtain⟨rfl,rfl⟩:=e9;obtain⟨rfl,bQ⟩:=Bj zB;have HE:=Y Bl;have HA:=Y bQ;rw[hka];have hk0:(0:Int)<=(k:Int):=zN _;have hk1:(k:Int)<(m.h.cells.length:Int):=zB;unfold maxLen at KC;have hcs:=bF;clear h zu Bj Bl hx hce;go_enter Tryz.func70,Tryz.ntmps70;go_wp2_with fail;obtain⟨W1,hW1⟩:∃W1,W1=w.alloc (.cells #[↑k,↑x.bar,↑x.next] 117):=⟨_,rfl⟩;have HB1:=Y (show Below w w W1 by rw[hW1];exact(Z _ _).alloc (zL _) _);have bK:=Y (show W1.heap[w.heap.size]?=some (.cells #[↑k,↑x.bar,↑x.next] 117 (0,0))by rw[hW1];exact bq _ _);rw[<-hW1];clear hW1;have hz1:=HB1.o.size;obtain⟨b0,b1,b2,b3,b4,b5,b6,b7,b8,b9,bf⟩:=bM (HU.o.below HB1).box;obtain⟨c0,c1,c2⟩:=yG HE HA (J.ob HB1) hkl;have x0:W1.cell? ⟨w.heap.size,0,none⟩=some ↑k:=(bY bK 0).trans rfl;have hbl:=iW W1 _ c0;have hxl:=ax bK;have hgl:g<W1:=zB;simp only at hbl;go_region;go_wp2_with fail;obtain⟨W2,hW2⟩:∃W2,W2=(W1.alloc (.cells #[↑(m.h.cells[k]).kind,↑(m.h.cells[k]).n,.string (m.h.cells[k]).s] 112)).drew:=⟨_,rfl⟩;have HB2:=Y (show Below w w W2 by rw[hW2];exact(HB1.o.alloc hz1 _).drew);have bu:=Y (show W2.heap[W1.heap.size]?=some (.cells #[.int .i64 (m.h.cells[k]).kind,.int .i64 (m.h.cells[k]).n,.string (m.h.cells[k]).s] 112 (0,0))by rw[hW2];exact bq W1 _);rw[<-hW2];clear hW2 b0 b1 b2 b3 b4 b5 b6 b7 b8 b9 bf c0 c1 c2 x0;have y1:W2.cell? ⟨W1.heap.size,1,none⟩=some (.int .i64 (m.h.cells[k]).n):=(bY bu 1).trans rfl;have y2:W2.cell? ⟨W1,2,none⟩=some (.string (m.h.cells[k]).s):=(bY bu 2).trans rfl;have hyl:=ax bu;go_quiet(fail);have HB3:=Y (show Below w w (W2.drewN nq)from HB2.o.trans ⟨rfl,rfl,rfl,zL _,λ_ _=>rfl⟩);generalize W2.drewN nq=W3 at*;go_wp2_with fail;go_ret2;exact⟨rfl,HB3⟩
def OL(P:List Cl)(x:Ce):∀(n k:Nat),k<=cB P x n k/\cB P x n k<=k+n
 |0,k=>by simp[cB]
 |n+1,k=>by
  unfold cB;have :=OL P x n (k+1);split;·omega
  ·split<;>omega
def asl{P:List Cl}{x:Ce}{k:Nat}(h:k<P.length):cB P x (P.length - k) k=if xP P[k] x then k else cB P x (P.length - (k+1)) (k+1):=by rw[show P.length - k=(P.length - (k+1))+1 by omega,cB,aJ h]
def pO(P:List Cl)(k:Nat):Int:=if k<P.length then(k:Int)else -1
def ahX{A:Nat->Prop}{w wr:World}{l:List Cl}{b off:Nat}(he:nE A w 6 TN l b off)(hA:A b)(hk:J A w wr){k:Nat}(hlt:k<l.length):∃cv gv,wr.cell? (b,off+k*6)=some (.string l[k].head.s)/\wr.cell? (b,off+k*6+1)=some ↑l[k].head.args.length/\wr.cell? (b,off+k*6+2)=some cv/\wr.cell? (b,off+k*6+3)=some ↑(aB l[k]).vars/\wr.cell? (b,off+k*6+4)=some ↑(aB l[k]).head/\wr.cell? (b,off+k*6+5)=some gv/\sN A wr (aB l[k]).cells cv/\gX A wr (aB l[k]).goals gv:=by obtain⟨vs,hvl,⟨cv,gv,rfl,h1,h2⟩,hrow⟩:=he k _ (aJ hlt);have hr:=qJ.keeps hA hrow hk;exact⟨cv,gv,hr 0 _ rfl,hr 1 _ rfl,hr 2 _ rfl,hr 3 _ rfl,hr 4 _ rfl,hr 5 _ rfl,ag.keeps Ce.ae h1 hk,ag.keeps aN h2 hk⟩
def TS(x:Ce)(k:Nat)(hk:k<=P.length+1)(h:bS base P q g pv hc ht o m w):Calls Tryz.prog 71 #[.pointer (some (g,0)),.string x.s,↑x.n,↑k] w (λe w'=>e= .returned ↑(pO P (cB P x (P.length - k) k))/\Below w w w'):=by
 have HU:=Y h;obtain⟨hl1,hl2⟩:=h.lt;obtain⟨pa,pc,pb,uX,rfl,OM,Bn,OO,wJ,tT⟩:=ag.at h.prog;have Ik:=Y wJ;have E8:=Y tT;unfold maxLen at Bn;have hk0:(0:Int)<=(k:Int):=zN _;clear h wJ tT;go_enter Tryz.func71,Tryz.ntmps71;go_wp2_with fail;go_loopw[9](λi9 wr=>∃kk:Nat,k<=kk/\kk<=P.length+1/\i9= ↑kk/\Below w w wr/\cB P x (P.length - k) k=cB P x (P.length - kk) kk)(λi9 _=>P.length+1 - (intOf i9).toNat);case atStart=>exact⟨k,zL _,hk,rfl,Z _ _,rfl⟩
 case round=>
  obtain⟨kk,h1,h2,rfl,hb,hn⟩:=hrel;have HB:=Y hb;have HN:=Y hn;have hz:=hb.size;obtain⟨b0,b1,b2,b3,b4,b5,b6,b7,b8,b9,bf⟩:=bM (HU.o.below hb).box;have hkk:(0:Int)<=(kk:Int):=zN _;clear hb hn;by_cases hlt:kk<P.length
  ·obtain⟨rfl,hpb⟩:=Ik zB;have hlt':(kk:Int)<(P.length:Int):=zB;obtain⟨cv,gv,c0,c1, -⟩:=ahX E8 hpb (J.ob HB) hlt;have hbl:=iW wr _ c0;simp only at hbl;have hat:=asl (x:=x) hlt;by_cases e1:(P[kk]).head.s=x.s
   ·by_cases e2:((P[kk]).head.args.length:Int)=x.n
    ·have hres:=Y (show pO P (cB P x (P.length - k) k)=(kk:Int)by rw[HN.o,hat,G ⟨e1,e2⟩];unfold pO;rw[G hlt]);have Kw:((P[kk]).head.s.toList==x.s.toList)=true:=by simp[e1]
     have e2':(((P[kk]).head.args.length:Int)==x.n)=true:=by simpa using e2
     clear e1 e2 hat;go_wp2_with fail;go_ret;rw[hres.o];exact⟨rfl,HB⟩
    ·have hnx:=Y (HN.o.trans (hat.trans (O (λh=>e2 h.2))));have Kw:((P[kk]).head.s.toList==x.s.toList)=true:=by simp[e1]
     have e2':(((P[kk]).head.args.length:Int)==x.n)=false:=by simpa using e2
     clear e1 e2 hat;go_wp2_with fail;go_roundw;case rel=>exact⟨kk+1,zB,zB,by go_num,HB,hnx.out⟩
     case measure=>simp[intOf];omega
   ·have hnx:=Y (HN.o.trans (hat.trans (O (λh=>e1 h.1))));have Kw:=Zj e1;clear e1 hat;go_wp2_with fail;go_roundw;case rel=>exact⟨kk+1,zB,zB,by go_num,HB,hnx.out⟩
    case measure=>simp[intOf];omega
  ·have hres:=Y (show pO P (cB P x (P.length - k) k)= -1 by rw[HN.o,show P.length - kk=0 by omega,cB];unfold pO;rw[O hlt]);have hlt':(P.length:Int)<=(kk:Int):=zB;go_wp2_with fail;go_ret;rw[hres.o];exact⟨rfl,HB⟩
end
def pQ(g:Nat)(k:Int)(w:World):Prop:=w.heap[g]?=some (.cells #[↑k] 3 (0,0))
def asn(g:Nat)(w:World)(res:Option (Tm×Nat))(e:Ending)(w':World):Prop:=∃(us:List Value)(t:Tm)(k:Int),e= .returned (.agg us.toArray)/\Ch (λb=>b=g) w w'/\Tm.rep (λb=>New w b) w' t us/\pQ g k w'/\((res=none/\k= -1)\/(res=some (t,k.toNat)/\0<=k))
def TT(k:Nat):Prop:=∀(h:Hp)(a:Int)(g:Nat)(A:Nat->Prop)(w:World)(us:List Value),iH h.cells->ah a->¬A g->Hp.rep A w h us->pQ g k w->k<=65536->Calls Tryz.prog 102 #[.agg us.toArray,↑a,.pointer (some (g,0))] w (asn g w (jV h.cells k a))
def Bo(A:Nat->Prop)(w:World):Tm.rep A w xE [.int .i64 0,.int .i64 0,.string .empty,.slice none 0 0]:=by rw[xE,Tm.jv];exact⟨by unfold ah;omega,by unfold ah;omega,af,_,rfl,ag.nil ..⟩
def OP(A:Nat->Prop)(w:World)(k n:Int)(s:ByteArray)(hk:ah k)(hn:ah n)(hs:s.size<=1048576):Tm.rep A w (.mk k n s []) [↑k,↑n,.string s,.slice none 0 0]:=by rw[Tm.jv];exact⟨hk,hn,hs,_,rfl,ag.nil ..⟩
def aso{s:ByteArray}(h:s.toList=[]):s=.empty:=Q5 (h.trans (by rw[Me];rfl))
def Il{g:Nat}{k:Int}{w:World}(h:pQ g k w):w.cell? (g,0)=some ↑k/\(∀o,w.frozen? ⟨g,o,none⟩=false)/\g<w:=⟨(bY h 0).trans rfl,λo=>by unfold pQ at h;simp[World.frozen?,h],ax h⟩
def ZH{g:Nat}{k k':Int}{w:World}(h:pQ g k w):pQ g k' (w.setCell (g,0) ↑k'):=(aX h 0 _).trans rfl
def KD{g b o:Nat}{u:Value}{k:Int}{w:World}(h:pQ g k w)(hb:g≠b):pQ g k (w.setCell (b,o) u):=(aW _ _ _ _ hb).trans h
def asq{g:Nat}{k:Int}{w w':World}(h:pQ g k w)(hk:J (λ_=>True) w w'):pQ g k w':=bJ h hk trivial
def zw{g:Nat}{k:Int}{w:World}(h:pQ g k w)(o:Obj):pQ g k (w.alloc o):=aI h o
def asr:TT 0:=by
 intro h a g A w us hg ha ZI hh hl hk;obtain⟨va,cap,vb,aH,rfl,hc1,hc2,hc3,ht1,ht2,ht3, -⟩:=Hp.nS hh;obtain⟨l0,lf,hgl⟩:=Il hl;have HL:=Y hl;have hcs:=bF;have R3:g<w+1:=zB;clear hh hl hg;rw[af0];go_enter Tryz.func102,Tryz.ntmps102;go_wp2_with fail;refine bX (v:= .agg #[.int .i64 0,.int .i64 0,.string .empty,.slice none 0 0]) (by simp[results,Tryz.results102,go_sem,hcs];rfl) rfl ?_;exact⟨_,xE, -1,rfl,((Ex g 0 w _).alloc _).alloc _,Bo _ _,zw (zw (ZH HL) _) _,.inl ⟨rfl,rfl⟩⟩
theorem ass(k:Nat)(ih:∀m,m<=k->TT m):TT (k+1):=by
 intro h a g A w us hg ha ZI hh hl hk;obtain⟨va,cap,vb,aH,rfl,hc1,hc2,hc3,ht1,ht2,ht3,hc,ht⟩:=Hp.nS hh;obtain⟨_,_,cb,rJ,e, -, -, -,gH,hce⟩:=hc.at;simp only[cK,dx]at e;obtain⟨rfl,rfl⟩:=e;obtain⟨l0,lf,hgl⟩:=Il hl;have HL:=Y hl;have HH:=Y hh;have HG:=Y hg;have HI:=Y ha;have oJ:=Y gH;have wK:=Y hce;have TU:=Y ZI;have IH:=Y ih;have hcs:=bF;have R3:g<w.heap.size+1:=by omega
 rw[show((k+1:Nat):Int)=(k:Int)+1 by omega]at l0;have hk0:(0:Int)<=(k:Int):=zN _;clear hh hl hg ha gH hce ih hc ht ZI;go_enter Tryz.func102,Tryz.ntmps102;go_wp2_with fail;have bK:Hd ((((w.setCell ⟨g,0,none⟩ (.int .i64 (k:Int))).alloc (.cells #[.slice va h.cells.length cap,.slice vb h.trail.length aH] 59)).alloc (.cells #[.int .i64 0,.int .i64 0,.string .empty,.slice none 0 0] 34)).heap[w.heap.size]?=some (.cells #[.slice va h.cells.length cap,.slice vb h.trail.length aH] 59)):=Y (by simpa using(mi (w.setCell ⟨g,0,none⟩ (.int .i64 (k:Int))) (.cells #[.slice va h.cells.length cap,.slice vb h.trail.length aH] 59) (.cells #[.int .i64 0,.int .i64 0,.string .empty,.slice none 0 0] 34)).1);have bu:Hd ((((w.setCell ⟨g,0,none⟩ (.int .i64 (k:Int))).alloc (.cells #[.slice va h.cells.length cap,.slice vb h.trail.length aH] 59)).alloc (.cells #[.int .i64 0,.int .i64 0,.string .empty,.slice none 0 0] 34)).heap[w.heap.size+1]?=some (.cells #[.int .i64 0,.int .i64 0,.string .empty,.slice none 0 0] 34)):=Y (by simpa using(mi (w.setCell ⟨g,0,none⟩ (.int .i64 (k:Int))) (.cells #[.slice va h.cells.length cap,.slice vb h.trail.length aH] 59) (.cells #[.int .i64 0,.int .i64 0,.string .empty,.slice none 0 0] 34)).2);have uS:=Y (show pQ g k (((w.setCell ⟨g,0,none⟩ (.int .i64 (k:Int))).alloc (.cells #[.slice va h.cells.length cap,.slice vb h.trail.length aH] 59)).alloc (.cells #[.int .i64 0,.int .i64 0,.string .empty,.slice none 0 0] 34))from zw (zw (ZH HL.o) _) _);have eX:=Y (show Ch (fun b=>b=g) w (((w.setCell ⟨g,0,none⟩ (.int .i64 (k:Int))).alloc (.cells #[.slice va h.cells.length cap,.slice vb h.trail.length aH] 59)).alloc (.cells #[.int .i64 0,.int .i64 0,.string .empty,.slice none 0 0] 34))from((Ex g 0 w _).alloc _).alloc _);have hW1:(((w.setCell ⟨g,0,none⟩ (.int .i64 (k:Int))).alloc (.cells #[.slice va h.cells.length cap,.slice vb h.trail.length aH] 59)).alloc (.cells #[.int .i64 0,.int .i64 0,.string .empty,.slice none 0 0] 34)).heap.size=w.heap.size+2:=by simp
 generalize HW1:((w.setCell ⟨g,0,none⟩ (.int .i64 (k:Int))).alloc (.cells #[.slice va h.cells.length cap,.slice vb h.trail.length aH] 59)).alloc (.cells _ 34)=W1;have e1:((w.setCell ⟨g,0,none⟩ (.int .i64 (k:Int))).alloc (.cells #[.slice va h.cells.length cap,.slice vb h.trail.length aH] 59)).alloc (.cells #[.int .i64 0,.int .i64 0,.string .empty,.slice none 0 0] 34)=W1:=HW1;rw[e1]at bK bu uS eX hW1;clear e1 HW1;have HR1:=Y (Hp.rep.keeps HH.o (eX.o.keeps (A:=A) (fun b _ hb e=>by subst e;exact TU.o hb)));refine(look_ok h a HI.o A _ [_,_] HR1.o).mono ?_;rintro e w2⟨r,rfl,hb2,rfl⟩;have kM:=Y (aA bK.o hb2);have xQ:=Y (aA bu.o hb2);have HL2:=Y (show pQ g k w2 from aA uS.o hb2);have dJ:=Y (eX.o.tb hb2);have hz2:w.heap.size+2<=w2.heap.size:=by have :=hb2.size;omega
 have OQ:w.heap.size+1<w2.heap.size:=by omega
 have ast:w.heap.size<w2.heap.size:=by omega
 have hg2:g<w2.heap.size:=by omega
 obtain⟨q0,qf, -⟩:=Il HL2.o;obtain⟨x0,x1,xf⟩:=dL kM.o;obtain⟨y0,y1,y2,y3,yf⟩:=aF xQ.o;clear l0 lf hb2 bK bu;have hge:=Rb h.cells a;have hne1:¬w.heap.size+1=g:=by omega
 have hne2:¬g=w.heap.size+1:=by omega
 by_cases hneg:look h.cells a<0
 ·have HR:=Y (show jV h.cells (k+1) a=none by rw[Yr,G hneg]);go_wp2_with fail;refine bX (v:= .agg #[.int .i64 0,.int .i64 0,.string .empty,.slice none 0 0]) (by simp[results,Tryz.results102,go_sem,hcs,y0,y1,y2,y3,OQ,hne1,hne2];try rfl) rfl ?_;have hch:=dJ.o.RL 0 (.int .i64 (-1));have hle:=ZH (k':= -1) HL2.o;refine⟨[.int .i64 0,.int .i64 0,.string .empty,.slice none 0 0],xE, -1,rfl,?_,Bo _ _,?_,.inl ⟨HR.o,rfl⟩⟩;·repeat(with_reducible first|exact hch|refine Ch.alloc ?_ _|refine Ch.setCell ?_ (.inr (by simp)) _)
  ·repeat(with_reducible first|exact hle|refine zw ?_ _|refine KD ?_ (by omega))
 ·obtain⟨x,hx,hxl,hcx⟩:=pX (ME (l:=h.cells) (a:=a) (by omega)).1;have Dk:=Y (show jV h.cells (k+1) a=if h.cells[x].kind=3 then(match eO h.cells k (argsAt (x:Int) h.cells[x].n)with|none=>none|some (ts,w1)=>some (.mk 3 0 h.cells[x].s ts,w1))else some (if h.cells[x].kind=0 then .mk 0 (x:Int) .empty []else .mk h.cells[x].kind h.cells[x].n h.cells[x].s [],k)by rw[Yr,O hneg,hcx,hx]<;>rfl);have xq:=HG.o x hxl;rw[hx];have hx0:(0:Int)<=(x:Int):=zN _;have hx1:(x:Int)<(h.cells.length:Int):=by omega
  obtain⟨rfl,bQ⟩:=oJ.o (by omega);obtain⟨c0,c1,c2,i0,i1,i2⟩:=yG wK.o bQ (dJ.o.keeps (A:=A) (fun b _ hb e=>by subst e;exact TU.o hb)) hxl;have HI1:=Y i1;have HI2:=Y i2;generalize hcc:h.cells[x]=c at xq Dk c0 c1 c2 i0 i1 i2 HI1 HI2;have Bp:cb<w2.heap.size:=iW w2 _ c0;have ahY:ah (x:Int):=by unfold ah;omega
  have asu:=Y ahY;clear hcx hx hneg hge i0 i1 i2 ahY;unfold Ce.fU at xq;rcases xq with⟨hk0', -, -, -⟩|⟨ZJ,hn1', -⟩|⟨wE,ahZ⟩|⟨Nj,hn1,vR,hnl, -⟩
  ·have HR:=Y (show jV h.cells (k+1) a=some (.mk 0 (x:Int) .empty [],k)by rw[Dk.o,O (by omega),G hk0']);rw[hk0']at c0;clear hk0' Dk;go_wp2_with fail;refine bX (v:= .agg #[.int .i64 0,.int .i64 (x:Int),.string .empty,.slice none 0 0]) (by simp[results,Tryz.results102,go_sem,hcs,y0,y1,y2,y3,OQ,hne1,hne2];try rfl) rfl ?_;have hch:=dJ.o;have hle:=HL2.o;refine⟨[.int .i64 0,.int .i64 (x:Int),.string .empty,.slice none 0 0],.mk 0 (x:Int) .empty [],k,rfl,?_,OP _ _ _ _ _ (by unfold ah;omega) asu.o (by decide),?_,.inr ⟨by rw[HR.o];rfl,hk0⟩⟩;·repeat(with_reducible first|exact hch|refine Ch.alloc ?_ _|refine Ch.setCell ?_ (.inr (by simp)) _)
   ·repeat(with_reducible first|exact hle|refine zw ?_ _|refine KD ?_ (by omega))
  ·have HR:=Y (show jV h.cells (k+1) a=some (.mk 1 0 c.s [],k)by rw[Dk.o,O (by omega),O (by omega),ZJ,hn1']);rw[ZJ]at c0;clear ZJ hn1' Dk;go_wp2_with fail;refine bX (v:= .agg #[.int .i64 1,.int .i64 0,.string c.s,.slice none 0 0]) (by simp[results,Tryz.results102,go_sem,hcs,y0,y1,y2,y3,OQ,hne1,hne2];try rfl) rfl ?_;have hch:=dJ.o;have hle:=HL2.o;refine⟨[.int .i64 1,.int .i64 0,.string c.s,.slice none 0 0],.mk 1 0 c.s [],k,rfl,?_,OP _ _ _ _ _ (by unfold ah;omega) (by unfold ah;omega) HI2.o,?_,.inr ⟨by rw[HR.o];rfl,hk0⟩⟩;·repeat(with_reducible first|exact hch|refine Ch.alloc ?_ _|refine Ch.setCell ?_ (.inr (by simp)) _)
   ·repeat(with_reducible first|exact hle|refine zw ?_ _|refine KD ?_ (by omega))
  ·have hse:=aso ahZ;have HR:=Y (show jV h.cells (k+1) a=some (.mk 2 c.n .empty [],k)by rw[Dk.o,O (by omega),O (by omega),wE,hse]);rw[wE]at c0;clear wE ahZ Dk hse;go_wp2_with fail;refine bX (v:= .agg #[.int .i64 2,.int .i64 c.n,.string .empty,.slice none 0 0]) (by simp[results,Tryz.results102,go_sem,hcs,y0,y1,y2,y3,OQ,hne1,hne2];try rfl) rfl ?_;have hch:=dJ.o;have hle:=HL2.o;refine⟨[.int .i64 2,.int .i64 c.n,.string .empty,.slice none 0 0],.mk 2 c.n .empty [],k,rfl,?_,OP _ _ _ _ _ (by unfold ah;omega) HI1.o (by decide),?_,.inr ⟨by rw[HR.o];rfl,hk0⟩⟩;·repeat(with_reducible first|exact hch|refine Ch.alloc ?_ _|refine Ch.setCell ?_ (.inr (by simp)) _)
   ·repeat(with_reducible first|exact hle|refine zw ?_ _|refine KD ?_ (by omega))
  ·rw[Nj]at c0;have HR:=Y (show jV h.cells (k+1) a=match eO h.cells k (argsAt (x:Int) c.n)with|none=>none|some (ts,w1)=>some (.mk 3 0 c.s ts,w1)by rw[Dk.o,G Nj]);obtain⟨nn,hnn⟩:=dH (show 0<=c.n by omega);rw[hnn]at c1 hn1 vR hnl HR;have hal:(argsAt (x:Int) (nn:Int)).length=nn:=by simp[argsAt]
   have kW:=Y hal;have XK:nn<=4:=by omega
   clear Nj hnn Dk hal;go_wp2_with fail;have Dl:=Y (aI (aI kM.o (.cells #[.int .i64 3,.int .i64 (nn:Int),.string c.s] 112)) (.cells #[.int .i64 3,.int .i64 0,.string c.s,.slice none 0 0] 34));have ZK:=Y (aI (aI xQ.o (.cells #[.int .i64 3,.int .i64 (nn:Int),.string c.s] 112)) (.cells #[.int .i64 3,.int .i64 0,.string c.s,.slice none 0 0] 34));have ah0:=Y (mi w2 (.cells #[.int .i64 3,.int .i64 (nn:Int),.string c.s] 112) (.cells #[.int .i64 3,.int .i64 0,.string c.s,.slice none 0 0] 34));have ZL:=Y (zw (zw HL2.o (.cells #[.int .i64 3,.int .i64 (nn:Int),.string c.s] 112)) (.cells #[.int .i64 3,.int .i64 0,.string c.s,.slice none 0 0] 34));have eY:=Y ((dJ.o.alloc (.cells #[.int .i64 3,.int .i64 (nn:Int),.string c.s] 112)).alloc (.cells #[.int .i64 3,.int .i64 0,.string c.s,.slice none 0 0] 34));have hs3:((w2.alloc (.cells #[.int .i64 3,.int .i64 (nn:Int),.string c.s] 112)).alloc (.cells #[.int .i64 3,.int .i64 0,.string c.s,.slice none 0 0] 34)).heap.size=w2.heap.size+2:=by simp
   clear q0 qf x0 x1 xf y0 y1 y2 y3 yf c0 c1 c2;go_loopw[9](fun i wr=>∃(j:Nat)(m:Int)(ts:List Tm)(v:Value),j<=nn/\i= .int .i64 ((j:Int)+1)/\Ch (fun b=>b=g) w wr/\wr.heap[w.heap.size]?=some (.cells #[.slice (some ⟨cb,rJ,none⟩) h.cells.length cap,.slice vb h.trail.length aH] 59 (0,0))/\wr.heap[w.heap.size+1]?=some (.cells #[.int .i64 0,.int .i64 0,.string .empty,.slice none 0 0] 34 (0,0))/\wr.heap[w2.heap.size]?=some (.cells #[.int .i64 3,.int .i64 (nn:Int),.string c.s] 112)/\wr.heap[w2.heap.size+1]?=some (.cells #[.int .i64 3,.int .i64 0,.string c.s,v] 34 (0,0))/\az wr (w2.heap.size+2) 34 4 Tm.rep (fun b=>w2.heap.size+2<=b) ts v/\pQ g m wr/\ts.length<=j/\w2.heap.size+2<=wr.heap.size/\((m= -1/\eO h.cells k (argsAt (x:Int) (nn:Int))=none)\/(0<=m/\m<=k/\ts.length=j/\eO h.cells k ((argsAt (x:Int) (nn:Int)).take j)=some (ts,m.toNat))))(fun i _=>nn+1 - (intOf i).toNat);case atStart=>exact⟨0,k,[],_,dA _,rfl,eY.o,Dl.o,ZK.o,ah0.o.1,ah0.o.2,az.nil ..,ZL.o,zL _,by omega,.inr ⟨by omega,qI _,rfl,by rw[nD,Cj];rfl⟩⟩
   case round=>
    obtain⟨j,m,ts,v,hj,rfl,hch,ZM,ZN,ZO,TV,hown,hle,htl,hsz,hst⟩:=hrel;have aM:=Y hch;have HY1:=Y ZM;have ZP:=Y ZN;have ED:=Y ZO;have uM:=Y TV;have HO:=Y hown;have qp:=Y hle;obtain⟨Im,vc,rfl,yE⟩:=hown.val;obtain⟨q0,qf,hgr⟩:=Il hle;obtain⟨x0,x1,xf⟩:=dL ZM;obtain⟨y0,y1,y2,y3,yf⟩:=aF ZN;obtain⟨c0,c1,c2,cf⟩:=gG ZO;obtain⟨t0,t1,t2,t3,tf⟩:=aF TV;have hz0:w.heap.size<wr.heap.size:=by omega
    have hz1:w.heap.size+1<wr.heap.size:=by omega
    have lQ:w2.heap.size+1<wr.heap.size:=by omega
    have hz3:w2.heap.size<wr.heap.size:=by omega
    clear hch ZM ZN ZO TV hown hle;have OT:Hd (m= -1\/j=nn)\/(0<=m/\j<nn):=by
     rcases hst with⟨e, -⟩|⟨e, -⟩;·exact .inl (Y (.inl e))
     ·by_cases h:j<nn;·exact .inr ⟨e,h⟩
      ·exact .inl (Y (.inr (by omega)))
    rcases OT with OT|⟨hm0,hlt⟩
    ·have asw:Hd ((jV h.cells (k+1) a=none/\m= -1)\/(jV h.cells (k+1) a=some (.mk 3 0 c.s ts,m.toNat)/\0<=m)):=by
      rw[HR.o];rcases hst with⟨e1,e2⟩|⟨e1, -, -,e2⟩;·exact Y (.inl ⟨by rw[e2],e1⟩)
      ·rcases OT.out with e3|e3;·omega
       ·rw[e3,kg (by rw[kW.o];exact zL _)]at e2;exact Y (.inr ⟨by rw[e2],e1⟩)
     have hcond:((nn:Int)<(j:Int)+1)\/((j:Int)+1<=(nn:Int)/\m<0):=by rcases OT.out with e|e<;>omega
     have TW:ts.length<=1048576:=by omega
     clear hst OT;rcases hcond with hcond|⟨hcond,hcm⟩;all_goals
      go_wp2_with fail;refine bX (v:= .agg #[.int .i64 3,.int .i64 0,.string c.s,.slice Im ts.length vc]) (by simp[results,Tryz.results102,go_sem,hcs,y0,y1,y2,y3,hz1,hne1,hne2];try rfl) rfl ?_;have hch:=aM.o;have hle:=qp.o;refine⟨[_,_,_,_],.mk 3 0 c.s ts,m,rfl,?_,?_,?_,asw.o⟩;·repeat(with_reducible first|exact hch|refine Ch.alloc ?_ _|refine Ch.setCell ?_ (.inr (by simp)) _)
      ·rw[Tm.jv];refine⟨by unfold ah;omega,by unfold ah;omega,HI2.o,_,rfl,?_⟩;have hsl:=HO.o.sl Tm.ae (A:=fun b=>w2.heap.size+2<=b) TW (fun b hb=>hb);refine ag.mono Tm.ae (by omega) (ag.keeps Tm.ae hsl ?_) (fun b _ hb=>by simp only[New]at*;omega);refine J.trans (J.trans (J.trans (J.setCell _ _ _ _ ?_) (J.setCell _ _ _ _ ?_)) (J.setCell _ _ _ _ ?_)) (J.setCell _ _ _ _ ?_)<;>(simp;omega)
      ·repeat(with_reducible first|exact hle|refine zw ?_ _|refine KD ?_ (by omega))
    ·have hst':m<=k/\ts.length=j/\eO h.cells k ((argsAt (x:Int) (nn:Int)).take j)=some (ts,m.toNat):=by
      rcases hst with⟨e, -⟩|⟨-,e⟩;·omega
      ·exact e
     obtain⟨hmk,htj,hrd⟩:=hst';have ah1:=Y hrd;have HTJ:=Y htj;have aBm:ts.length<=4:=by omega
     clear hst hrd htj htl;have hlt':(j:Int)+1<=(nn:Int):=by omega
     obtain⟨m,rfl⟩:=dH hm0;rw[dF]at ah1;go_wp2_with fail;have hW1:wr.drew.cell? ⟨w2.heap.size+1,3,none⟩=some (.slice Im ts.length vc):=(J.drew (fun _=>True) wr).cell trivial t3;have hW2:wr.drew.cell? ⟨w.heap.size,0,none⟩=some (.slice (some ⟨cb,rJ,none⟩) h.cells.length cap):=(J.drew (fun _=>True) wr).cell trivial x0;have hW3:wr.drew.cell? ⟨w.heap.size,1,none⟩=some (.slice vb h.trail.length aH):=(J.drew (fun _=>True) wr).cell trivial x1;refine jd (F:=fun k w'=>(k=1\/k=2)->w'.cell? ⟨w2.heap.size+1,3,none⟩=some (.slice Im ts.length vc)/\w'.cell? ⟨w.heap.size,0,none⟩=some (.slice (some ⟨cb,rJ,none⟩) h.cells.length cap)/\w'.cell? ⟨w.heap.size,1,none⟩=some (.slice vb h.trail.length aH)) (by kernel_rfl) ?_;refine zT 0 (fun _=>⟨hW1,hW2,hW3⟩) ?_;simp only[U];refine zY 1 (fun _=>⟨hW1,hW2,hW3⟩) ?_ (z:=by intro w' hw;obtain⟨q0,q1,q2⟩:=hw (by omega);go_simp<;>with_reducible rfl);simp only[U];refine zY 2 (fun _=>⟨hW1,hW2,hW3⟩) ?_ (z:=by intro w' hw;obtain⟨q0,q1,q2⟩:=hw (by omega);go_simp<;>with_reducible rfl);simp only[U];refine zT 3 (fun _=>⟨hW1,hW2,hW3⟩) ?_;simp only[U];refine zT 4 (fun _=>⟨hW1,hW2,hW3⟩) ?_;simp only[U];refine Q6 (i:=5) (v:= .int .i64 ((x:Int)+((j:Int)+1))) rfl (by kernel_rfl) (by kernel_rfl) (by kernel_rfl) (fun _ _ _ h=>h) (Or.inl ⟨by rfl,?_⟩) (fun _=>⟨hW1,hW2,hW3⟩) ?_;·intro w' hw;clear hw;go_simp;rw[Wx];omega
     simp only[U];refine zT 6 (fun _=>⟨hW1,hW2,hW3⟩) ?_;simp only[U];refine zO 7 ?_;go_simp;rw[show(x:Int)+((j:Int)+1)=(x:Int)+1+(j:Int)by omega];have hrh:Hp.rep A wr.drew h [.slice (some ⟨cb,rJ,none⟩) h.cells.length cap,.slice vb h.trail.length aH]:=Hp.rep.keeps HH.o ((aM.o.keeps (A:=A) (fun b _ hb e=>by subst e;exact TU.o hb)).trans (J.drew _ _));refine(IH.out m (by omega) h ((x:Int)+1+(j:Int)) g A wr.drew [_,_] HG.o (by unfold ah;omega) TU.o hrh (asq qp.o (J.drew _ _)) (by omega)).mono ?_;rintro e w3⟨us,t',k',rfl,il,hr1,hl1,hres⟩;obtain⟨sa',sK,rfl, -⟩:=Tm.dV hr1;have hsz1:=il.size;simp only[dG]at hsz1;have hkg:J (fun b=>b≠g) wr w3:=(J.drew _ _).trans (il.keeps (A:=fun b=>b≠g) (fun b _ hb e=>hb e));have fH:=Y (HO.o.keeps Tm.ae hkg (fun b hb=>by omega) (fun b hb=>by have :=(HO.o.lt b hb).1;omega));have HN:=Y (Q4 Tm.ae HO.o (wc:=wr.drew) (zL _) (A:=fun b=>w2.heap.size+2<=b) (fun b hb=>by simp only[dG]at hb;omega) hr1);have KE:=Y (show ts.length<4194304/\w2.heap.size+2<=w3.heap.size by omega);have EX:=Y (show Ch (fun b=>b=g) w w3 from(aM.o.drew).trans il (fun _ h=> .inl h));have HQ:=Y (show w3.cell? ⟨w2.heap.size+1,3,none⟩=some (.slice Im ts.length vc)/\w3.cell? ⟨w.heap.size,0,none⟩=some (.slice (some ⟨cb,rJ,none⟩) h.cells.length cap)/\w3.cell? ⟨w.heap.size,1,none⟩=some (.slice vb h.trail.length aH)from⟨hkg.cell (by omega) t3,hkg.cell (by omega) x0,hkg.cell (by omega) x1⟩);have Sg:=Y (bJ HY1.o hkg (by omega));have asx:=Y (bJ ZP.o hkg (by omega));have asy:=Y (bJ ED.o hkg (by omega));have asz:=Y (bJ uM.o hkg (by omega));have KF:=Y hl1;have gq:=Y hres;clear hrh hr1 hl1 hres il hkg q0 qf x0 x1 xf y0 y1 y2 y3 yf c0 c1 c2 cf t0 t1 t2 t3 tf;refine⟨fun _ _ _ _=>HQ.o,?_⟩;refine zO 8 ?_;go_simp;refine⟨fun _ _ _ _=>?_,?_⟩;·obtain⟨q0,q1,q2⟩:=HQ.o;have ka:=J.alloc (fun _=>True) w3 (.cells #[.int .i64 t'.kind,.int .i64 t'.n,.string t'.s,.slice sa' t'.args.length sK] 34);exact⟨ka.cell trivial q0,ka.cell trivial q1,ka.cell trivial q2⟩
     refine zO 9 ?_;refine uC (.tmp 63) (.tmp 70) 23 rfl (w2.heap.size+2) 34 4 56 Au Tm.ae _ _ rfl fH.o t' [_,_,_,_] rfl rfl HN.o KE.o ?_;intro v2 w4 hown2 aj;have hlt2:=HO.o.lt;have hk2:=aj.keeps (A:=fun b=>ownB (.slice Im ts.length vc)≠some b) (fun _ h=>h);have hka:=(J.alloc (fun b=>ownB (.slice Im ts.length vc)≠some b) w3 (.cells #[.int .i64 t'.kind,.int .i64 t'.n,.string t'.s,.slice sa' t'.args.length sK] 34)).trans hk2;have hno:∀b,b<w2.heap.size+2->ownB (.slice Im ts.length vc)≠some b:=fun b hb e=>by have :=(hlt2 _ e).1;omega
     have asA:=Y (bJ Sg.o hka (hno _ (by omega)));have asB:=Y (bJ asx.o hka (hno _ (by omega)));have asC:=Y (bJ asy.o hka (hno _ (by omega)));have ah4:=Y (bJ asz.o hka (hno _ (by omega)));have ZQ:=Y (show pQ g k' w4 from bJ KF.o hka (hno _ (by omega)));have yY:=Y (aj.ch (EX.o.alloc _) (fun b hb=> .inr (by have :=(hlt2 b hb).1;omega)));obtain⟨aS,aT,hv2,Gi⟩:=hown2.val;rw[show(ts++[t']).length=ts.length+1 by simp]at hv2;subst hv2;have hz2':=aj.size;have bA:=Y hown2;simp only[bO]at hz2';obtain⟨y0,y1,y2,y3,yf⟩:=aF ah4.o;refine⟨fun _ _ _ _=>?_,?_⟩;·obtain⟨q0,q1,q2⟩:=HQ.o;exact⟨hka.cell (hno _ (by omega)) q0,hka.cell (hno _ (by omega)) q1,hka.cell (hno _ (by omega)) q2⟩
     clear hown2 hka hk2;simp only[U];refine zT 10 (fun h=>by omega) ?_;simp only[U];refine zO 11 ?_;go_simp;refine⟨fun k0 hk0 _ h12=>?_,zQ ?_⟩
     ·rcases h12 with rfl|rfl;·exact absurd (show waits _ 11 1=true by kernel_rfl) (by rw[hk0];decide)
      ·exact absurd (show waits _ 11 2=true by kernel_rfl) (by rw[hk0];decide)
     have HB3:=Y (aX ah4.o 3 (.slice aS (ts.length+1) aT));have aBn:(w4.setCell ⟨w2.heap.size+1,3,none⟩ (.slice aS (ts.length+1) aT)).heap.size=w4.heap.size:=by simp
     have uF:=Y (J.setCell (fun b=>b≠w2.heap.size+1) w4 ⟨w2.heap.size+1,3,none⟩ (.slice aS (ts.length+1) aT) (by simp));have hja:j<(argsAt (x:Int) (nn:Int)).length:=by rw[kW.o];exact hlt
     have dW:=Y (show eO h.cells k ((argsAt (x:Int) (nn:Int)).take (j+1))=(match jV h.cells m ((x:Int)+1+(j:Int))with|none=>none|some (t,w2)=>some (ts++[t],w2))by rw[iq hja,JH,af1,ah1.o]<;>rfl);clear aj;go_wp2_with fail;go_roundw;case rel=>
      refine⟨j+1,k',ts++[t'],_,by omega,by go_num,yY.o.setCell (.inr (by simp only;omega)) _,bJ asA.o uF.o (by omega),bJ asB.o uF.o (by omega),bJ asC.o uF.o (by omega),HB3.o,?_,KD ZQ.o (by omega),by have :=HTJ.o;simp;omega,by omega,?_⟩;·exact bA.o.keeps Tm.ae uF.o (fun b hb=>by omega) (fun b hb=>by have :=(bA.o.lt b hb).1;omega)
      ·rcases gq.o with⟨r1,r2⟩|⟨r1,r2⟩;·refine .inl ⟨r2,?_⟩;have :=aql h.cells k ((argsAt (x:Int) (nn:Int)).take (j+1)) ((argsAt (x:Int) (nn:Int)).drop (j+1)) (by rw[dW.o,r1]);rwa[Aj]at this
       ·refine .inr ⟨r2,?_,by have :=HTJ.o;simp;omega,by rw[dW.o,r1]⟩;have :=He r1;omega
     case measure=>simp[intOf];omega
def ZR:∀k,TT k:=by intro k;induction k using Nat.strongRecOn with|_ k ih=>cases k with|zero=>exact asr|succ k=>exact ass k λm hm=>ih m zB
def ug:List Bool->Nat|[]=>0|b::r=>(if b=true then 0 else 1)+ug r
def ah5:∀(m:List Bool),ug m<=m.length|[]=>zL _|b::r=>by have :=ah5 r;unfold ug;split<;>simp<;>omega
def ZT:∀(m:List Bool)(k:Nat),m[k]?=some false->ug (m.set k true)+1=ug m|[],k,h=>by simp at h|b::r,0,h=>by simp at h;subst h;simp[ug];omega|b::r,k+1,h=>by have :=ZT r k (by simpa using h);simp only[Am,ug];omega
def pushes(k:Nat)(c:Ce):List Int:=if c.kind=0 then[c.n]else if c.kind=3 then argsAt (k:Int) c.n else[]
def asD(l:List Ce)(hg:iH l){k:Nat}(hk:k<l.length):(pushes k l[k]).length<=4:=by
 have h1:=hg k hk;unfold Ce.fU at h1;unfold pushes;split;·simp
 ·split;·rw[anS];omega
  ·simp
def ah6{l:List Ce}(hg:iH l){k j:Nat}(hk:k<l.length):(j:Int)∈pushes k l[k]↔Ck l k j:=by
 have h1:=hg k hk;unfold Ck pushes;rw[jR hk];by_cases h0:l[k].kind=0
 ·rw[G h0];simp only[iX,h0,dx];constructor;·intro e;exact .inl e.symm
  ·rintro(e|⟨e,_⟩);·exact e.symm
   ·omega
 ·rw[O h0];by_cases h3:l[k].kind=3
  ·rw[G h3];unfold argsAt;simp only[iZ,mh,h3,dx];constructor;·rintro⟨i,hi,e⟩;exact .inr ⟨zB,zB⟩
   ·rintro(⟨e,_⟩|⟨e1,e2⟩);·omega
    ·exact⟨j - k - 1,zB,zB⟩
  ·rw[O h3];simp[h0,h3]
structure xR (l : List Ce) (roots : List Int) (m : List Bool) (st : List Int) : Prop where
  len : m.length = l.length
  rts : ∀ i : Nat, (i : Int) ∈ roots → i < l.length → m[i]? = some true ∨ (i : Int) ∈ st
  closed : ∀ i j, m[i]? = some true → Ck l i j → m[j]? = some true ∨ (j : Int) ∈ st
  sound : ∀ i, m[i]? = some true → Reach l roots i
  todo : ∀ i : Nat, (i : Int) ∈ st → i < l.length → Reach l roots i
  few : st.length + 5 * ug m ≤ roots.length + 5 * l.length
def xR.start(l:List Ce)(roots:List Int):xR l roots (List.replicate l.length false) roots:=by
 refine⟨zh,λi h _=> .inr h,λi j h=>?_,λi h=>?_,λi h1 h2=> .root h1 h2,?_⟩;·rw[V8]at h;split at h<;>simp at h
 ·rw[V8]at h;split at h<;>simp at h
 ·have :=ah5 (List.replicate l.length false);simp at this ⊢;omega
section
variable {l : List Ce} {roots : List Int} {m : List Bool} {st : List Int} {a : Int}
def xR.skip(h:xR l roots m (st++[a]))(ha:∀k:Nat,a=(k:Int)->k<l.length->m[k]?=some true)(hg:iH l):xR l roots m st:=by
 have key:∀i:Nat,i<l.length->(i:Int)∈st++[a]->m[i]?=some true\/(i:Int)∈st:=λi hi hm=>by
  rcases iw.1 hm with h1|h1;·exact .inr h1
  ·simp only[iX]at h1;exact .inl (ha i h1.symm hi)
 refine⟨h.len,λi h1 h2=>?_,λi j h1 h2=>?_,h.sound,λi h1 h2=>h.todo i (iw.2 (.inl h1)) h2,?_⟩
 ·rcases h.rts i h1 h2 with k|k;·exact .inl k
  ·exact key i h2 k
 ·rcases h.closed i j h1 h2 with k|k;·exact .inl k
  ·exact key j (hg.leads (by rw[<-h.len];exact(jQ.1 h1).1) h2) k
 ·have :=h.few;simp only[bB,dZ]at this;omega
def xR.mark{k:Nat}(h:xR l roots m (st++[(k:Int)]))(hk:k<l.length)(hm:m[k]?=some false)(hg:iH l):xR l roots (m.set k true) (st++pushes k l[k]):=by
 have hr:Reach l roots k:=h.todo k zh hk;have wL:k<m.length:=by rw[h.len];exact hk
 have get:∀i,(m.set k true)[i]?=some true↔i=k\/m[i]?=some true:=λi=>by
  rw[List.getElem?_set];by_cases e:k=i;·subst e;simp[wL]
  ·rw[O e];constructor;·exact .inr
   ·rintro(e'|e');·exact absurd e'.symm e
    ·exact e'
 refine⟨by simp[h.len],λi h1 h2=>?_,λi j h1 h2=>?_,λi h1=>?_,λi h1 h2=>?_,?_⟩
 ·rcases h.rts i h1 h2 with q|q;·exact .inl ((get i).2 (.inr q))
  ·rcases iw.1 q with q|q;·exact .inr (iw.2 (.inl q))
   ·simp only[iX]at q;exact .inl ((get i).2 (.inl zB))
 ·rcases(get i).1 h1 with rfl|h1;·exact .inr (iw.2 (.inr ((ah6 hg hk).2 h2)))
  ·rcases h.closed i j h1 h2 with q|q;·exact .inl ((get j).2 (.inr q))
   ·rcases iw.1 q with q|q;·exact .inr (iw.2 (.inl q))
    ·simp only[iX]at q;exact .inl ((get j).2 (.inl zB))
 ·rcases(get i).1 h1 with rfl|h1;·exact hr
  ·exact h.sound i h1
 ·rcases iw.1 h1 with h1|h1;·exact h.todo i (iw.2 (.inl h1)) h2
  ·exact .step hr ((ah6 hg hk).1 h1)
 ·have h1:=h.few;have h2:=ZT m k hm;have h3:=asD l hg hk;simp only[bB,dZ]at h1 ⊢;omega
def xR.done(h:xR l roots m [])(hg:iH l):m=marks l roots:=anU hg h.len (λi h1 h2=>(h.rts i h1 h2).resolve_right zh) (λi j h1 h2=>(h.closed i j h1 h2).resolve_right zh) h.sound
end
