import Derived.Test.YtlpmfkpefoegeacGreatDoorPMEnd
import Derived.Test.YtlpmfkpefoegeacGreatDoorQSolve1
import Derived.StillTailTactics
import Derived.BigQuiet
import Derived.Deep.RegionWith
namespace Go.Proofs.YtlpmfkpefoegeacGreatDoor
set_option maxRecDepth 99999
set_option maxHeartbeats 0
set_option linter.all false
noncomputable def TA(run:List Cl->List Tm->Int->List Ev×Int)(p q:Str):List Str×Int:=if(gL p).2≠0 then([],(gL p).2)else if(eO q).2.2≠0 then([],(eO q).2.2)else if(run (gL p).1 (eO q).1 (eO q).2.1).2≠0 then([],(run (gL p).1 (eO q).1 (eO q).2.1).2)else((run (gL p).1 (eO q).1 (eO q).2.1).1.map oz,0)
noncomputable def JI(p q:Str)(fuel every:Int):List Str×Int:=TA (fun P Q v=>jB P Q v fuel every) p q
theorem ald(p q:Str)(fuel every:Int)(h:0<=every):JI p q fuel every=TA (fun P Q v=>uq P Q v fuel) p q:=by unfold JI;congr 1;funext P Q v;exact Tz P Q v fuel every h
theorem abQ(P:List Cl)(Q:List Tm)(v fuel every:Int)(h:every<0):(jB P Q v fuel every).2≠0:=by
 unfold jB;split;·simp
 ·rw[ah (by omega)];simp
theorem ale{P:List Cl}{Q:List Tm}{v fuel:Int}(h:(uq P Q v fuel).2=0):∀e∈(uq P Q v fuel).1,Tm.aH e.terms<=200:=by
 obtain⟨ans,k,he, -, -, -, -,ha⟩:=abj h;rw[he];intro e hm;rcases gy.1 hm with hm|hm;·obtain⟨l,hl,rfl⟩:=gQ.1 hm;exact(ha l hl).2.2
 ·simp only[iF]at hm;subst hm;simp[Tm.aH]
theorem alf{P:List Cl}{Q:List Tm}{v fuel every:Int}(h:(jB P Q v fuel every).2=0):∀e∈(jB P Q v fuel every).1,Tm.aH e.terms<=200:=by
 by_cases he:0<=every;·rw[Tz _ _ _ _ _ he]at h ⊢;exact ale h
 ·exact absurd h (abQ _ _ _ _ _ (by omega))
theorem alg{P:List Cl}{Q:List Tm}{v fuel every:Int}(h:(jB P Q v fuel every).2=0):(jB P Q v fuel every).1.length<=13:=by
 by_cases he:0<=every;·rw[Tz _ _ _ _ _ he]at h ⊢;obtain⟨ans,k,he, -, -,h4, -, -⟩:=abj h;rw[he];simp only[bA,jq,dW];omega
 ·exact absurd h (abQ _ _ _ _ _ (by omega))
theorem abR(s:Str):au (gL s).2/\au (eO s).2.2/\0<=(eO s).2.1/\(eO s).2.1<=2000:=by
 refine⟨?_,?_,?_⟩;·rcases ahW s with h|⟨-,h|h⟩<;>rw[h]<;>unfold au<;>omega
 ·rcases Y2 s with h|⟨-, -,h|h⟩<;>rw[h]<;>unfold au<;>omega
 ·rcases Y2 s with h|⟨-,h, -⟩;·have :=ahV h;have h1:=this.1;have h2:=this.2.1;omega
  ·rw[h];omega
open Go.RowKit
section
variable {base : Nat} {P : List Cl} {q g mb xb : Nat} {pv tv cv ov tv' cv' ov' : Value} {s : Sv} {N : Int} {w w' : World}
theorem oU{E:TypeId}{size n:Nat}{v:Value}{xs:List Value}{k:Nat}(h:Own w base E size v n xs)(hk:ownB v=some k):∃c,w.heap[k]?=some (.cells c E (0,0)):=by
 rcases h.2 with⟨_,a,rfl⟩|⟨g,cap,cur,rfl,hc,hb,hg,_⟩;·cases a<;>simp[ownB]at hk
 ·simp only[ownB,Ap.1 hc,if_false,cZ]at hk;subst hk;exact⟨cur,hg⟩
theorem aI.ty{α:Type}{E:TypeId}{size:Nat}{R:(Nat->Prop)->World->α->List Value->Prop}{A:Nat->Prop}{xs:List α}{v:Value}{k:Nat}(h:aI w base E size R A xs v)(hk:ownB v=some k):∃c,w.heap[k]?=some (.cells c E (0,0)):=by obtain⟨vals,_,ho,_⟩:=h;exact oU ho hk
theorem xX{E E':TypeId}{c c':Array Value}{k:Nat}(h:w.heap[k]?=some (.cells c E (0,0)))(h':w.heap[k]?=some (.cells c' E' (0,0))):E=E':=by rw[h]at h';simp only[cZ,Obj.cells.injEq]at h';exact h'.2.1
structure Apart (g mb : Nat) (tv cv ov : Value) : Prop where
  tg : ownB tv ≠ some g
  tm : ownB tv ≠ some mb
  cg : ownB cv ≠ some g
  cm : ownB cv ≠ some mb
  og : ownB ov ≠ some g
  om : ownB ov ≠ some mb
  tc : ∀ b, ownB tv = some b → ownB cv ≠ some b
  too : ∀ b, ownB tv = some b → ownB ov ≠ some b
  co : ∀ b, ownB cv = some b → ownB ov ≠ some b
end
theorem ali{s s':ByteArray}(h:¬s=s'):¬s.toList=s'.toList:=by intro e;rw[Ha,Ha]at e;apply h;cases s;cases s';simp only[ByteArray.mk.injEq];exact agC.1 e
section
variable {base : Nat} {P : List Cl} {q g mb xb : Nat} {pv cv ov : Value} {N : Int}
end
theorem abS:mH Tryz.prog 24 42 2 32:= .mk' (z:= .agg #[.int .i64 0,.slice none 0 0]) Tryz.underlying24 (by kernel_rfl) rfl (by omega) (by omega)
section
variable {base : Nat} {P : List Cl} {q g mb xb : Nat} {pv tv cv ov tv' cv' ov' : Value} {s s' : Sv} {N : Int} {w w' : World}
end
def NH(A:Nat->Prop)(w:World)(c:Cl)(vs:List Value):Prop:=∃cv gv,vs=[.string c.head.s,.int .i64 (c.head.args.length:Int),cv,.int .i64 (aG c).vars,.int .i64 (aG c).head,gv]/\pI A w (aG c).cells cv/\fI A w (aG c).goals gv
theorem qd:gz NH:=by
 refine⟨fun A w w' c vs h hk=>?_,fun A A' w c vs h hA=>?_,fun A w c vs h=>?_⟩;·obtain⟨cv,gv,e,h1,h2⟩:=h;exact⟨cv,gv,e,aj.keeps Ce.aA h1 hk,aj.keeps aQ h2 hk⟩
 ·obtain⟨cv,gv,e,h1,h2⟩:=h;exact⟨cv,gv,e,aj.mono Ce.aA (by omega) h1 hA,aj.mono aQ (by omega) h2 hA⟩
 ·obtain⟨cv,gv,rfl,h1,h2⟩:=h;obtain⟨_,_,_,_,rfl, -⟩:=aj.at h1;obtain⟨_,_,_,_,rfl, -⟩:=aj.at h2;simp[Value.oneCell']
def NI(g:Gm):List Value:=[.int .i64 g.at_,.int .i64 (g.bar:Int),.int .i64 g.next]
def JJ(g:Gm):Prop:=au g.at_/\au g.next/\g.bar<=1000000
def Bv(c:Cm):List Value:=[.int .i64 (c.goal:Int),.int .i64 (c.from_:Int),.int .i64 (c.top:Int),.int .i64 (c.trail:Int)]
def NJ(c:Cm):Prop:=c.goal<=1000000/\c.from_<=1000000/\c.top<=1000000/\c.trail<=1000000
theorem TB(g:Gm):(NI g).length=3:=rfl
theorem abT(g:Gm):∀u∈NI g,u.oneCell'=true:=by simp[NI,Value.oneCell']
theorem NL(c:Cm):(Bv c).length=4:=rfl
theorem alj(c:Cm):∀u∈Bv c,u.oneCell'=true:=by simp[Bv,Value.oneCell']
abbrev oV(w:World)(base:Nat)(l:List Gm)(v:Value):Prop:=af NI JJ 117 3 w base l v
abbrev oW(w:World)(base:Nat)(l:List Cm)(v:Value):Prop:=af Bv NJ 124 4 w base l v
structure Mo where
  gv : Value
  cv : Value
  ov : Value
def MM(g:Nat)(o:Mo)(b:Nat):Prop:=b=g\/ownB o.gv=some b\/ownB o.cv=some b\/ownB o.ov=some b
def MA(g:Nat)(o:Mo)(b:Nat):Prop:=¬MM g o b
structure bT (base : Nat) (P : List Cl) (q g : Nat) (pv hc ht : Value) (o : Mo) (m : Mv) (w : World) : Prop where
  box : w.heap[g]? = some (.cells #[pv, hc, ht, o.gv, o.cv, .int .i64 m.now, .int .i64 (q : Int), .int .i64 m.query, .int .i64 (m.fuel : Int), o.ov] 63 (0, 0))
  prog : aj 6 NH (fun b => b < base ∧ b ≠ g) w P pv
  heap : Hp.rep (MA g o) w m.h [hc, ht]
  goals : oV w base m.goals o.gv
  cu : oW w base m.choices.reverse o.cv
  out : aI w base 42 2 oJ (MA g o) m.out o.ov
  bg : g < base ∧ base ≤ w.heap.size
  sM : au m.now
  qb : au m.query
  fu : m.fuel ≤ 150
  qq : q ≤ 8
  gl : m.goals.length ≤ 6000
  cl : m.choices.length ≤ 1000
  ol : m.out.length ≤ 20
theorem bP{w:World}{g:Nat}{E:TypeId}{v0 v1 v2 v3 v4 v5 v6 v7 v8 v9:Value}(h:w.heap[g]?=some (.cells #[v0,v1,v2,v3,v4,v5,v6,v7,v8,v9] E (0,0))):w.cell? ⟨g,0,none⟩=some v0/\w.cell? ⟨g,1,none⟩=some v1/\w.cell? ⟨g,2,none⟩=some v2/\w.cell? ⟨g,3,none⟩=some v3/\w.cell? ⟨g,4,none⟩=some v4/\w.cell? ⟨g,5,none⟩=some v5/\w.cell? ⟨g,6,none⟩=some v6/\w.cell? ⟨g,7,none⟩=some v7/\w.cell? ⟨g,8,none⟩=some v8/\w.cell? ⟨g,9,none⟩=some v9/\∀o,w.frozen? ⟨g,o,none⟩=false:=⟨(dw h 0).trans rfl,(dw h 1).trans rfl,(dw h 2).trans rfl,(dw h 3).trans rfl,(dw h 4).trans rfl,(dw h 5).trans rfl,(dw h 6).trans rfl,(dw h 7).trans rfl,(dw h 8).trans rfl,(dw h 9).trans rfl,fun o=>by simp[World.frozen?,h]⟩
section
variable {base : Nat} {P : List Cl} {q g : Nat} {pv hc ht hc' ht' : Value} {o o' : Mo} {m m' : Mv} {w w' : World}
structure alk (g : Nat) (o : Mo) : Prop where
  gg : ownB o.gv ≠ some g
  cg : ownB o.cv ≠ some g
  og : ownB o.ov ≠ some g
  gc : ∀ b, ownB o.gv = some b → ownB o.cv ≠ some b
  go : ∀ b, ownB o.gv = some b → ownB o.ov ≠ some b
  co : ∀ b, ownB o.cv = some b → ownB o.ov ≠ some b
theorem bT.apart(h:bT base P q g pv hc ht o m w):alk g o:=by
 refine⟨fun e=>?_,fun e=>?_,fun e=>?_,fun b e e'=>?_,fun b e e'=>?_,fun b e e'=>?_⟩;·obtain⟨c,hc⟩:=oU h.goals.1 e;exact absurd (xX h.box hc) (by decide)
 ·obtain⟨c,hc⟩:=oU h.cu.1 e;exact absurd (xX h.box hc) (by decide)
 ·obtain⟨c,hc⟩:=h.out.ty e;exact absurd (xX h.box hc) (by decide)
 ·obtain⟨c,hc⟩:=oU h.goals.1 e;obtain⟨c',hc'⟩:=oU h.cu.1 e';exact absurd (xX hc hc') (by decide)
 ·obtain⟨c,hc⟩:=oU h.goals.1 e;obtain⟨c',hc'⟩:=h.out.ty e';exact absurd (xX hc hc') (by decide)
 ·obtain⟨c,hc⟩:=oU h.cu.1 e;obtain⟨c',hc'⟩:=h.out.ty e';exact absurd (xX hc hc') (by decide)
theorem bT.lt(h:bT base P q g pv hc ht o m w):g<w.heap.size/\base<=w.heap.size:=⟨aD h.box,h.bg.2⟩
theorem bT.qY(h:bT base P q g pv hc ht o m w):∀b,MM g o b->(b=g\/base<=b)/\b<w.heap.size:=by
 rintro b(rfl|hb|hb|hb);·exact⟨.inl rfl,h.lt.1⟩
 ·exact⟨.inr (h.goals.lt b hb).1,(h.goals.lt b hb).2⟩
 ·exact⟨.inr (h.cu.lt b hb).1,(h.cu.lt b hb).2⟩
 ·exact⟨.inr (h.out.lt b hb).1,(h.out.lt b hb).2⟩
theorem bT.vals(h:bT base P q g pv hc ht o m w):∃pa pc ga gc ca cc oa oc ha hac hb hbc,pv= .slice pa P.length pc/\o.gv= .slice ga m.goals.length gc/\o.cv= .slice ca m.choices.length cc/\o.ov= .slice oa m.out.length oc/\hc= .slice ha m.h.cells.length hac/\ht= .slice hb m.h.trail.length hbc/\P.length<=pc/\pc<=maxLen/\m.goals.length<=gc/\gc<=maxLen/\m.choices.length<=cc/\cc<=maxLen/\m.out.length<=oc/\oc<=maxLen:=by obtain⟨pa,pc,_,_,rfl,p1,p2, -⟩:=aj.at h.prog;obtain⟨ga,gc,e1,g1,g2⟩:=h.goals.val;obtain⟨ca,cc,e2,c1,c2⟩:=h.cu.val;obtain⟨oa,oc,e3,o1,o2⟩:=aI.j5 h.out;obtain⟨ha,hac,hb,hbc,e4, -⟩:=Hp.kY h.heap;simp only[Ex,ug]at e4;rw[Ct]at e2 c1;exact⟨pa,pc,ga,gc,ca,cc,oa,oc,ha,hac,hb,hbc,rfl,e1,e2,e3,e4.1,e4.2,p1,p2,g1,g2,c1,c2,o1,o2⟩
theorem bT.below(h:bT base P q g pv hc ht o m w)(hb:Below w.heap.size w w'):bT base P q g pv hc ht o m w':=⟨aL h.box hb,aj.keeps qd h.prog (ag.ob hb),h.heap.below hb,h.goals.below hb,h.cu.below hb,h.out.below uy hb,⟨h.bg.1,dM h.bg.2 hb.size⟩,h.sM,h.qb,h.fu,h.qq,h.gl,h.cl,h.ol⟩
structure bU (w : World) (o o' : Mo) : Prop where
  gv : ∀ b, ownB o'.gv = some b → ownB o.gv = some b ∨ w.heap.size ≤ b
  cv : ∀ b, ownB o'.cv = some b → ownB o.cv = some b ∨ w.heap.size ≤ b
  ov : ∀ b, ownB o'.ov = some b → ownB o.ov = some b ∨ w.heap.size ≤ b
theorem bU.refl(w:World)(o:Mo):bU w o o:=⟨fun b h=> .inl h,fun b h=> .inl h,fun b h=> .inl h⟩
theorem bU.trans{o'':Mo}(h:bU w o o')(h':bU w' o' o'')(hs:w.heap.size<=w'.heap.size):bU w o o'':=⟨fun b hb=>(h'.gv b hb).elim (h.gv b) (fun e=> .inr (dM hs e)),fun b hb=>(h'.cv b hb).elim (h.cv b) (fun e=> .inr (dM hs e)),fun b hb=>(h'.ov b hb).elim (h.ov b) (fun e=> .inr (dM hs e))⟩
theorem bU.up(h:bU w o o'):∀b,MM g o' b->MM g o b\/w.heap.size<=b:=by
 rintro b(e|e|e|e);·exact .inl (.inl e)
 ·exact(h.gv b e).imp (fun e=> .inr (.inl e)) id
 ·exact(h.cv b e).imp (fun e=> .inr (.inr (.inl e))) id
 ·exact(h.ov b e).imp (fun e=> .inr (.inr (.inr e))) id
def bJ(base:Nat)(P:List Cl)(q g:Nat)(pv:Value)(o:Mo)(m':Mv)(w w':World):Prop:=∃hc' ht' o',bT base P q g pv hc' ht' o' m' w'/\Ch (MM g o) w w'/\bU w o o'
theorem bJ.refl(h:bT base P q g pv hc ht o m w):bJ base P q g pv o m w w:=⟨hc,ht,o,h,Ch.refl _ _,bU.refl _ _⟩
theorem bJ.trans{w'':World}(hch:Ch (MM g o) w w')(hg:bU w o o')(h:bJ base P q g pv o' m' w' w''):bJ base P q g pv o m' w w'':=by obtain⟨c2,t2,o2,h1,h2,h3⟩:=h;exact⟨c2,t2,o2,h1,hch.trans h2 hg.up,hg.trans h3 hch.size⟩
theorem TC(hc:Ch (MM g o) w w')(hg:bU w o o'):ag (fun b=>MA g o b/\b<w.heap.size) w w'/\∀b,(MA g o b/\b<w.heap.size)->MA g o' b:=by
 refine⟨hc.keeps fun b _ hb e=>hb.1 e,fun b hb e=>?_⟩;rcases hg.up b e with e|e;·exact hb.1 e
 ·have :=hb.2;omega
theorem Bw{h:Hp}{vs:List Value}(hh:Hp.rep (MA g o) w h vs)(hc:Ch (MM g o) w w')(hg:bU w o o'):Hp.rep (MA g o') w' h vs:=by obtain⟨h1,h2⟩:=TC hc hg;exact((hh.mono (A':=fun b=>MA g o b/\b<w.heap.size) fun b hb hA=>⟨hA,hb⟩).keeps h1).mono fun b _ hb=>h2 b hb
theorem bT.turned(h:bT base P q g pv hc ht o m w)(nL:w'.heap[g]?=some (.cells #[pv,hc',ht',o'.gv,o'.cv,.int .i64 m'.now,.int .i64 (q:Int),.int .i64 m'.query,.int .i64 (m'.fuel:Int),o'.ov] 63 (0,0)))(hch:Ch (MM g o) w w')(hg:bU w o o')(hh:Hp.rep (MA g o') w' m'.h [hc',ht'])(hgs:oV w' base m'.goals o'.gv)(hcs:oW w' base m'.choices.reverse o'.cv)(hou:aI w' base 42 2 oJ (MA g o') m'.out o'.ov)(hn:au m'.now)(hq:au m'.query)(hf:m'.fuel<=150)(hgl:m'.goals.length<=6000)(hcl:m'.choices.length<=1000)(hol:m'.out.length<=20):bJ base P q g pv o m' w w':=⟨hc',ht',o',⟨nL,aj.keeps qd h.prog (hch.keeps fun b hb hA e=>by have :=(h.qY b e).1;have :=hA.1;have :=hA.2;omega),hh,hgs,hcs,hou,⟨h.bg.1,dM h.bg.2 hch.size⟩,hn,hq,hf,h.qq,hgl,hcl,hol⟩,hch,hg⟩
theorem bT.FZ(h:bT base P q g pv hc ht o m w){Z:Nat->Prop}(hch:Ch Z w w')(hz:∀b,ownB o.gv=some b->¬Z b):oV w' base m.goals o.gv:=h.goals.kept fun k hk=>hch.block k (h.goals.lt k hk).2 (hz k hk)
theorem bT.JK(h:bT base P q g pv hc ht o m w){Z:Nat->Prop}(hch:Ch Z w w')(hz:∀b,ownB o.cv=some b->¬Z b):oW w' base m.choices.reverse o.cv:=h.cu.kept fun k hk=>hch.block k (h.cu.lt k hk).2 (hz k hk)
theorem bT.DJ(h:bT base P q g pv hc ht o m w){Z:Nat->Prop}(hch:Ch Z w w')(hZ:∀b,Z b->MM g o b)(hz:∀b,ownB o.ov=some b->¬Z b)(hg:bU w o o')(ho:o'.ov=o.ov):aI w' base 42 2 oJ (MA g o') m.out o'.ov:=by have hmid:=TC (hch.mono fun b _ hb=>hZ b hb) hg;rw[ho];refine((h.out.mono (A':=fun b=>MA g o b/\b<w.heap.size) uy fun b hb hA=>⟨hA,hb⟩).keeps uy (hch.keeps (A:=fun b=>¬Z b) fun b _ hb=>hb) (fun b hb e=>hb.1 (hZ b e)) hz).mono uy fun b _ hb=>hmid.2 b hb
theorem bT.F3(h:bT base P q g pv hc ht o m w)(k:Nat)(u:Value)(hm:m'.h=m.h/\m'.goals=m.goals/\m'.choices=m.choices/\m'.out=m.out)(nL:(w.setCell ⟨g,k,none⟩ u).heap[g]?=some (.cells #[pv,hc,ht,o.gv,o.cv,.int .i64 m'.now,.int .i64 (q:Int),.int .i64 m'.query,.int .i64 (m'.fuel:Int),o.ov] 63 (0,0)))(hn:au m'.now)(hq:au m'.query)(hf:m'.fuel<=150):bJ base P q g pv o m' w (w.setCell ⟨g,k,none⟩ u):=by
 have hap:=h.apart;have dZ:Ch (fun b=>b=g) w (w.setCell ⟨g,k,none⟩ u):=(Ch.refl (fun b=>b=g) w).setCell (p:=⟨g,k,none⟩) (.inl rfl) _;have hch:Ch (MM g o) w (w.setCell ⟨g,k,none⟩ u):=dZ.mono fun b _ hb=> .inl hb;obtain⟨e1,e2,e3,e4⟩:=hm;refine h.turned nL hch (bU.refl _ _) ?_ ?_ ?_ ?_ hn hq hf (by rw[e2];exact h.gl) (by rw[e3];exact h.cl) (by rw[e4];exact h.ol);·rw[e1];exact Bw h.heap hch (bU.refl _ _)
 ·rw[e2];exact h.FZ dZ fun b hb e=>hap.gg (e▸hb)
 ·rw[e3];exact h.JK dZ fun b hb e=>hap.cg (e▸hb)
 ·rw[e4];exact h.DJ dZ (fun b e=> .inl e) (fun b hb e=>hap.og (e▸hb)) (bU.refl _ _) rfl
theorem bT.setH(h:bT base P q g pv hc ht o m w){x:Hp}(hx:Hp.rep (MA g o) w x [hc',ht']):bJ base P q g pv o {m with h:=x} w ((w.setCell ⟨g,1,none⟩ hc').setCell ⟨g,2,none⟩ ht'):=by
 have hap:=h.apart;have dZ:Ch (fun b=>b=g) w ((w.setCell ⟨g,1,none⟩ hc').setCell ⟨g,2,none⟩ ht'):=((Ch.refl (fun b=>b=g) w).setCell (p:=⟨g,1,none⟩) (.inl rfl) _).setCell (p:=⟨g,2,none⟩) (.inl rfl) _;have hch:Ch (MM g o) w ((w.setCell ⟨g,1,none⟩ hc').setCell ⟨g,2,none⟩ ht'):=dZ.mono fun b _ hb=> .inl hb;refine h.turned (m':={m with h:=x}) ((bI ((bI h.box 1 hc').trans rfl) 2 ht').trans rfl) hch (bU.refl _ _) (Bw hx hch (bU.refl _ _)) ?_ ?_ ?_ h.sM h.qb h.fu h.gl h.cl h.ol;·exact h.FZ dZ fun b hb e=>hap.gg (e▸hb)
 ·exact h.JK dZ fun b hb e=>hap.cg (e▸hb)
 ·exact h.DJ dZ (fun b e=> .inl e) (fun b hb e=>hap.og (e▸hb)) (bU.refl _ _) rfl
theorem bT.tell{e:Ev}{zK:Value}{w2:World}{cells:Array Value}(h:bT base P q g pv hc ht o m w)(hsz:m.out.length+1<=20)(hown:aI w2 base 42 2 oJ (MA g o) (m.out++[e]) zK)(hg:iX (w.alloc (.cells cells 42)) w2 o.ov zK):bJ base P q g pv o {m with out:=m.out++[e]} w (w2.setCell ⟨g,9,none⟩ zK):=by
 have hap:=h.apart;have hlt:=h.lt;have hog:∀b,ownB zK=some b->ownB o.ov=some b\/w.heap.size<=b:=fun b hb=>by
  rcases hg.block with e|e;·exact .inl (e▸hb)
  ·have :=e b hb;simp only[bF]at this;exact .inr (by omega)
 have hgr:bU w o ⟨o.gv,o.cv,zK⟩:=⟨fun b h=> .inl h,fun b h=> .inl h,hog⟩;have dZ:Ch (fun b=>b=g\/ownB o.ov=some b) w (w2.setCell ⟨g,9,none⟩ zK):=(hg.ch ((Ch.refl _ _).alloc _) (fun b hb=> .inl (.inr hb))).setCell (p:=⟨g,9,none⟩) (.inl (.inl rfl)) _;have hch:Ch (MM g o) w (w2.setCell ⟨g,9,none⟩ zK):=dZ.mono fun b _ hb=>hb.elim .inl fun e=> .inr (.inr (.inr e));have hB2:w2.heap[g]?=_:=(hg.grown.block g (by simp;omega) (fun e=>hap.og e.symm)).trans (aX h.box _);refine h.turned (o':=⟨o.gv,o.cv,zK⟩) (m':={m with out:=m.out++[e]}) ((bI hB2 9 _).trans rfl) hch hgr (Bw h.heap hch hgr) ?_ ?_ ?_ h.sM h.qb h.fu h.gl h.cl (by simpa using hsz);·exact h.FZ dZ fun b hb e=>e.elim (fun e=>hap.gg (e▸hb)) (fun e=>hap.go b hb e)
 ·exact h.JK dZ fun b hb e=>e.elim (fun e=>hap.cg (e▸hb)) (fun e=>hap.co b hb e)
 ·have oI:ownB zK≠some g:=fun e=>by
   rcases hog g e with e|e;·exact hap.og e
   ·omega
  refine(hown.keeps (B:=fun b=>b≠g) uy (ag.setCell _ _ _ _ (fun h=>h rfl)) (fun b hb e=>hb (.inl e)) (fun b hb e=>oI (e▸hb))).mono' uy fun b hb hA hn=>fun hs=>?_;rcases hs with e|e|e|e;·exact hA (.inl e)
  ·exact hA (.inr (.inl e))
  ·exact hA (.inr (.inr (.inl e)))
  ·exact hn e
theorem bT.alm{x:Cm}{ky:Value}{w2:World}{cells:Array Value}(h:bT base P q g pv hc ht o m w)(hsz:m.choices.length+1<=1000)(hown:oW w2 base (m.choices.reverse++[x]) ky)(hg:iX (w.alloc (.cells cells 124)) w2 o.cv ky):bJ base P q g pv o {m with choices:=x::m.choices} w (w2.setCell ⟨g,4,none⟩ ky):=by
 have hap:=h.apart;have hlt:=h.lt;have hog:∀b,ownB ky=some b->ownB o.cv=some b\/w.heap.size<=b:=fun b hb=>by
  rcases hg.block with e|e;·exact .inl (e▸hb)
  ·have :=e b hb;simp only[bF]at this;exact .inr (by omega)
 have hgr:bU w o ⟨o.gv,ky,o.ov⟩:=⟨fun b h=> .inl h,hog,fun b h=> .inl h⟩;have dZ:Ch (fun b=>b=g\/ownB o.cv=some b) w (w2.setCell ⟨g,4,none⟩ ky):=(hg.ch ((Ch.refl _ _).alloc _) (fun b hb=> .inl (.inr hb))).setCell (p:=⟨g,4,none⟩) (.inl (.inl rfl)) _;have hZ:∀b,(b=g\/ownB o.cv=some b)->MM g o b:=fun b hb=>hb.elim .inl fun e=> .inr (.inr (.inl e));have hch:Ch (MM g o) w (w2.setCell ⟨g,4,none⟩ ky):=dZ.mono fun b _ hb=>hZ b hb;have hB2:w2.heap[g]?=_:=(hg.grown.block g (by simp;omega) (fun e=>hap.cg e.symm)).trans (aX h.box _);have oI:ownB ky≠some g:=fun e=>by
  rcases hog g e with e|e;·exact hap.cg e
  ·omega
 refine h.turned (o':=⟨o.gv,ky,o.ov⟩) (m':={m with choices:=x::m.choices}) ((bI hB2 4 _).trans rfl) hch hgr (Bw h.heap hch hgr) ?_ ?_ ?_ h.sM h.qb h.fu h.gl (by simpa using hsz) h.ol;·exact h.FZ dZ fun b hb e=>e.elim (fun e=>hap.gg (e▸hb)) (fun e=>hap.gc b hb e)
 ·rw[agt];exact hown.kept fun k hk=>bC _ _ _ _ (fun e=>oI ((show k=g from e)▸hk))
 ·exact h.DJ dZ hZ (fun b hb e=>e.elim (fun e=>hap.og (e▸hb)) (fun e=>hap.co b e hb)) hgr rfl
theorem bT.TD(h:bT base P q g pv hc ht o m w){k:Nat}(hk:k<=m.choices.length){ca:Option Addr}{cc:Nat}(hcv:o.cv= .slice ca m.choices.length cc):bJ base P q g pv o {m with choices:=m.choices.drop (m.choices.length - k)} w (w.setCell ⟨g,4,none⟩ (.slice ca k cc)):=by
 have hap:=h.apart;have dZ:Ch (fun b=>b=g) w (w.setCell ⟨g,4,none⟩ (.slice ca k cc)):=(Ch.refl (fun b=>b=g) w).setCell (p:=⟨g,4,none⟩) (.inl rfl) _;have hch:Ch (MM g o) w (w.setCell ⟨g,4,none⟩ (.slice ca k cc)):=dZ.mono fun b _ hb=> .inl hb;have hlr:m.choices.reverse.length=m.choices.length:=Ct;have hown:oW w base (m.choices.reverse.take k) (.slice ca k cc):=by have h1:=h.cu;rw[hcv,<-hlr]at h1;exact h1.take NL (by rw[hlr];exact hk)
 have hog:∀b,ownB (.slice ca k cc)=some b->ownB o.cv=some b:=fun b hb=>by rw[hcv];cases ca with|none=>simp[ownB]at hb|some a=>simpa[ownB]using hb
 have hgr:bU w o ⟨o.gv,.slice ca k cc,o.ov⟩:=⟨fun b h=> .inl h,fun b h=> .inl (hog b h),fun b h=> .inl h⟩;refine h.turned (o':=⟨o.gv,.slice ca k cc,o.ov⟩) (m':={m with choices:=m.choices.drop (m.choices.length - k)}) ((bI h.box 4 _).trans rfl) hch hgr (Bw h.heap hch hgr) ?_ ?_ ?_ h.sM h.qb h.fu h.gl (by have :=h.cl;simp only[Av];omega) h.ol;·exact h.FZ dZ fun b hb e=>hap.gg (e▸hb)
 ·have e:(m.choices.drop (m.choices.length - k)).reverse=m.choices.reverse.take k:=by rw[List.reverse_drop];congr 1;omega
  simp only;rw[e];exact hown.kept fun b hb=>bC _ _ _ _ (fun e=>hap.cg ((show b=g from e)▸hog b hb))
 ·exact h.DJ dZ (fun b e=> .inl e) (fun b hb e=>hap.og (e▸hb)) hgr rfl
end
section
variable {base : Nat} {P : List Cl} {q g : Nat} {pv hc ht : Value} {o : Mo} {m : Mv} {w : World}
def aln(base:Nat)(P:List Cl)(q g:Nat)(pv:Value)(o:Mo)(m':Mv)(w:World)(e:Ending)(w':World):Prop:=e= .returned (.bool false)/\bJ base P q g pv o m' w w'
theorem wI(kind:Int)(hk:au kind)(h:bT base P q g pv hc ht o m w)(hsz:m.out.length+1<=20):Calls Tryz.prog 63 #[.pointer (some ⟨g,0,none⟩),.int .i64 kind] w (aln base P q g pv o (m.put kind) w):=by have HU:=zh h;have HK:=zh hk;have Bz:=zh hsz;have y8:=zh h.apart;obtain⟨gv,cv,ov⟩:=o;obtain⟨pa,pc,ga,gc,ca,cc,oa,oc,ha,hac,hb,hbc,rfl,rfl,rfl,rfl,rfl,rfl, -⟩:=h.vals;obtain⟨hl1,hl2⟩:=h.lt;obtain⟨b0,b1,b2,b3,b4,b5,b6,b7,b8,b9,bf⟩:=bP h.box;have hcs:=dz;clear h hk;go_enter Tryz.func63,Tryz.ntmps63;go_wp2_with(at_builtin;go_must(refine iH rfl (.tmp 9) (.tmp 12) 24 rfl base 42 2 32 abS uy (A:=MA g _) (.slice oa m.out.length oc) m.out rfl HU.o.out ⟨kind,[]⟩ [.int .i64 kind,.slice none 0 0] (by rfl) rfl ⟨_,rfl,aj.nil ..,HK.o⟩ ⟨by omega,by omega⟩ ?_);go_must(intro v2 w2 hown az;have hB2:=(az.grown.block g (by simp;omega) (fun e=>y8.o.og e.symm)).trans (aX HU.o.box _);obtain⟨bN,bO,hv2,qK,qL⟩:=aI.j5 hown;rw[show(m.out++[(⟨kind,[]⟩:Ev)]).length=m.out.length+1 by simp]at hv2;subst hv2;have bE:=zh hown;have HG2:=zh az;obtain⟨k0,k1,k2,k3,k4,k5,k6,k7,k8,k9,kf⟩:=bP hB2;clear hown az hB2));go_ret;exact⟨rfl,HU.o.tell Bz.o bE.o HG2.o⟩
theorem TE(x:Gm)(hx:Inb m.h.cells x.at_)(h:bT base P q g pv hc ht o m w):Calls Tryz.prog 70 #[.pointer (some ⟨g,0,none⟩),.agg #[.int .i64 x.at_,.int .i64 (x.bar:Int),.int .i64 x.next]] w (fun e w'=>e= .returned (.tuple #[.string (cellAt m.h.cells x.at_).s,.int .i64 (cellAt m.h.cells x.at_).n])/\Below w.heap.size w w'):=by
 have HU:=zh h;obtain⟨pa,pc,ga,gc,ca,cc,oa,oc,ha,hac,hb,hbc, -, -, -, -,rfl,rfl, -⟩:=h.vals;obtain⟨hl1,hl2⟩:=h.lt;obtain⟨k,hka,hkl,hce⟩:=mJ hx;rw[hce];obtain⟨c,t,e0,wJ, -⟩:=h.heap;simp only[Ex,ug]at e0;obtain⟨rfl,rfl⟩:=e0;obtain⟨_,_,hb0,hoff,e9,TF,F4,hh3,xY,xZ⟩:=aj.at wJ;simp only[eX,fH]at e9;obtain⟨rfl,rfl⟩:=e9;obtain⟨rfl,cO⟩:=xY (by omega);have HE:=zh xZ;have HA:=zh cO;rw[hka];have hk0:(0:Int)<=(k:Int):=zN _;have hk1:(k:Int)<(m.h.cells.length:Int):=by omega
 unfold maxLen at F4;have hcs:=dz;clear h wJ xY xZ hx hce;go_enter Tryz.func70,Tryz.ntmps70;go_wp2_with fail;obtain⟨W1,hW1⟩:∃W1,W1=w.alloc (.cells #[.int .i64 (k:Int),.int .i64 (x.bar:Int),.int .i64 x.next] 117):=⟨_,rfl⟩;have HB1:=zh (show Below w.heap.size w W1 by rw[hW1];exact(zB _ _).alloc (zL _) _);have bR:=zh (show W1.heap[w.heap.size]?=some (.cells #[.int .i64 (k:Int),.int .i64 (x.bar:Int),.int .i64 x.next] 117 (0,0))by rw[hW1];exact bV _ _);rw[<-hW1];clear hW1;have hz1:=HB1.o.size;obtain⟨b0,b1,b2,b3,b4,b5,b6,b7,b8,b9,bf⟩:=bP (HU.o.below HB1.o).box;obtain⟨c0,c1,c2⟩:=vG HE.o HA.o (ag.ob HB1.o) hkl;have x0:W1.cell? ⟨w.heap.size,0,none⟩=some (.int .i64 (k:Int)):=(dw bR.o 0).trans rfl;have hbl:=mX W1 _ c0;have hxl:=aD bR.o;have hgl:g<W1.heap.size:=by omega
 simp only at hbl;go_region;go_wp2_with fail;obtain⟨W2,hW2⟩:∃W2,W2=(W1.alloc (.cells #[.int .i64 (m.h.cells[k]).kind,.int .i64 (m.h.cells[k]).n,.string (m.h.cells[k]).s] 112)).drew:=⟨_,rfl⟩;have HB2:=zh (show Below w.heap.size w W2 by rw[hW2];exact(HB1.o.alloc hz1 _).drew);have bG:=zh (show W2.heap[W1.heap.size]?=some (.cells #[.int .i64 (m.h.cells[k]).kind,.int .i64 (m.h.cells[k]).n,.string (m.h.cells[k]).s] 112 (0,0))by rw[hW2];exact bV W1 _);rw[<-hW2];clear hW2 b0 b1 b2 b3 b4 b5 b6 b7 b8 b9 bf c0 c1 c2 x0;have y1:W2.cell? ⟨W1.heap.size,1,none⟩=some (.int .i64 (m.h.cells[k]).n):=(dw bG.o 1).trans rfl;have y2:W2.cell? ⟨W1.heap.size,2,none⟩=some (.string (m.h.cells[k]).s):=(dw bG.o 2).trans rfl;have hyl:=aD bG.o;go_quiet(fail);have HB3:=zh (show Below w.heap.size w (W2.drewN nq)from HB2.o.trans ⟨rfl,rfl,rfl,zL _,fun _ _=>rfl⟩);generalize W2.drewN nq=W3 at*;go_wp2_with fail;go_ret2;exact⟨rfl,HB3.o⟩
theorem JL(P:List Cl)(x:Ce):∀(n k:Nat),k<=cB P x n k/\cB P x n k<=k+n
 |0,k=>by simp[cB]
 |n+1,k=>by
  unfold cB;have :=JL P x n (k+1);split;·omega
  ·split<;>omega
theorem alo{P:List Cl}{x:Ce}{k:Nat}(h:k<P.length):cB P x (P.length - k) k=if uN P[k] x then k else cB P x (P.length - (k+1)) (k+1):=by rw[show P.length - k=(P.length - (k+1))+1 by omega,cB,aS h]
def mo(P:List Cl)(k:Nat):Int:=if k<P.length then(k:Int)else -1
theorem abU{A:Nat->Prop}{w wr:World}{l:List Cl}{b off:Nat}(he:kM A w 6 NH l b off)(hA:A b)(hk:ag A w wr){k:Nat}(hlt:k<l.length):∃cv gv,wr.cell? ⟨b,off+k*6,none⟩=some (.string l[k].head.s)/\wr.cell? ⟨b,off+k*6+1,none⟩=some (.int .i64 (l[k].head.args.length:Int))/\wr.cell? ⟨b,off+k*6+2,none⟩=some cv/\wr.cell? ⟨b,off+k*6+3,none⟩=some (.int .i64 (aG l[k]).vars)/\wr.cell? ⟨b,off+k*6+4,none⟩=some (.int .i64 (aG l[k]).head)/\wr.cell? ⟨b,off+k*6+5,none⟩=some gv/\pI A wr (aG l[k]).cells cv/\fI A wr (aG l[k]).goals gv:=by obtain⟨vs,hvl,⟨cv,gv,rfl,h1,h2⟩,hrow⟩:=he k _ (aS hlt);have hr:=ni.keeps hA hrow hk;exact⟨cv,gv,hr 0 _ rfl,hr 1 _ rfl,hr 2 _ rfl,hr 3 _ rfl,hr 4 _ rfl,hr 5 _ rfl,aj.keeps Ce.aA h1 hk,aj.keeps aQ h2 hk⟩
theorem NN(x:Ce)(k:Nat)(hk:k<=P.length+1)(h:bT base P q g pv hc ht o m w):Calls Tryz.prog 71 #[.pointer (some ⟨g,0,none⟩),.string x.s,.int .i64 x.n,.int .i64 (k:Int)] w (fun e w'=>e= .returned (.int .i64 (mo P (cB P x (P.length - k) k)))/\Below w.heap.size w w'):=by
 have HU:=zh h;obtain⟨hl1,hl2⟩:=h.lt;obtain⟨pa,pc,pb,NP,rfl,abV,NQ,abW,DK,zJ⟩:=aj.at h.prog;have TG:=zh DK;have TH:=zh zJ;unfold maxLen at NQ;have hk0:(0:Int)<=(k:Int):=zN _;clear h DK zJ;go_enter Tryz.func71,Tryz.ntmps71;go_wp2_with fail;go_loopw[9](fun i9 wr=>∃kk:Nat,k<=kk/\kk<=P.length+1/\i9= .int .i64 (kk:Int)/\Below w.heap.size w wr/\cB P x (P.length - k) k=cB P x (P.length - kk) kk)(fun i9 _=>P.length+1 - (intOf i9).toNat);case atStart=>exact⟨k,zL _,hk,rfl,zB _ _,rfl⟩
 case round=>
  obtain⟨kk,h1,h2,rfl,hb,hn⟩:=hrel;have HB:=zh hb;have HN:=zh hn;have hz:=hb.size;obtain⟨b0,b1,b2,b3,b4,b5,b6,b7,b8,b9,bf⟩:=bP (HU.o.below hb).box;have hkk:(0:Int)<=(kk:Int):=zN _;clear hb hn;by_cases hlt:kk<P.length
  ·obtain⟨rfl,hpb⟩:=TG.o (by omega);have hlt':(kk:Int)<(P.length:Int):=by omega
   obtain⟨cv,gv,c0,c1, -⟩:=abU TH.o hpb (ag.ob HB.o) hlt;have hbl:=mX wr _ c0;simp only at hbl;have hat:=alo (x:=x) hlt;by_cases e1:(P[kk]).head.s=x.s
   ·by_cases e2:((P[kk]).head.args.length:Int)=x.n
    ·have hres:=zh (show mo P (cB P x (P.length - k) k)=(kk:Int)by rw[HN.o,hat,ah ⟨e1,e2⟩];unfold mo;rw[ah hlt]);have NR:((P[kk]).head.s.toList==x.s.toList)=true:=by simp[e1]
     have e2':(((P[kk]).head.args.length:Int)==x.n)=true:=by simpa using e2
     clear e1 e2 hat;go_wp2_with fail;go_ret;rw[hres.o];exact⟨rfl,HB.o⟩
    ·have hnx:=zh (HN.o.trans (hat.trans (ae (fun h=>e2 h.2))));have NR:((P[kk]).head.s.toList==x.s.toList)=true:=by simp[e1]
     have e2':(((P[kk]).head.args.length:Int)==x.n)=false:=by simpa using e2
     clear e1 e2 hat;go_wp2_with fail;go_roundw;case rel=>exact⟨kk+1,by omega,by omega,by go_num,HB.o,hnx.out⟩
     case measure=>simp[intOf];omega
   ·have hnx:=zh (HN.o.trans (hat.trans (ae (fun h=>e1 h.1))));have NR:=ali e1;clear e1 hat;go_wp2_with fail;go_roundw;case rel=>exact⟨kk+1,by omega,by omega,by go_num,HB.o,hnx.out⟩
    case measure=>simp[intOf];omega
  ·have hres:=zh (show mo P (cB P x (P.length - k) k)= -1 by rw[HN.o,show P.length - kk=0 by omega,cB];unfold mo;rw[ae hlt]);have hlt':(P.length:Int)<=(kk:Int):=by omega
   go_wp2_with fail;go_ret;rw[hres.o];exact⟨rfl,HB.o⟩
end
def mq(g:Nat)(k:Int)(w:World):Prop:=w.heap[g]?=some (.cells #[.int .i64 k] 3 (0,0))
def alp(g:Nat)(w:World)(res:Option (Tm×Nat))(e:Ending)(w':World):Prop:=∃(us:List Value)(t:Tm)(k:Int),e= .returned (.agg us.toArray)/\Ch (fun b=>b=g) w w'/\Tm.rep (fun b=>New w b) w' t us/\mq g k w'/\((res=none/\k= -1)\/(res=some (t,k.toNat)/\0<=k))
def NS(k:Nat):Prop:=∀(h:Hp)(a:Int)(g:Nat)(A:Nat->Prop)(w:World)(us:List Value),gB h.cells->au a->¬A g->Hp.rep A w h us->mq g k w->k<=65536->Calls Tryz.prog 102 #[.agg us.toArray,.int .i64 a,.pointer (some ⟨g,0,none⟩)] w (alp g w (iT h.cells k a))
theorem BA(A:Nat->Prop)(w:World):Tm.rep A w xL [.int .i64 0,.int .i64 0,.string .empty,.slice none 0 0]:=by rw[xL,Tm.gT];exact⟨by unfold au;omega,by unfold au;omega,by decide,_,rfl,aj.nil ..⟩
theorem TI(A:Nat->Prop)(w:World)(k n:Int)(s:ByteArray)(hk:au k)(hn:au n)(hs:s.size<=1048576):Tm.rep A w (.mk k n s []) [.int .i64 k,.int .i64 n,.string s,.slice none 0 0]:=by rw[Tm.gT];exact⟨hk,hn,hs,_,rfl,aj.nil ..⟩
theorem alq{s:ByteArray}(h:s.toList=[]):s=.empty:=LK (h.trans (by rw[Ha];rfl))
theorem DL{g:Nat}{k:Int}{w:World}(h:mq g k w):w.cell? ⟨g,0,none⟩=some (.int .i64 k)/\(∀o,w.frozen? ⟨g,o,none⟩=false)/\g<w.heap.size:=⟨(dw h 0).trans rfl,fun o=>by unfold mq at h;simp[World.frozen?,h],aD h⟩
theorem TJ{g:Nat}{k k':Int}{w:World}(h:mq g k w):mq g k' (w.setCell ⟨g,0,none⟩ (.int .i64 k')):=(bI h 0 _).trans rfl
theorem F5{g b o:Nat}{u:Value}{k:Int}{w:World}(h:mq g k w)(hb:g≠b):mq g k (w.setCell ⟨b,o,none⟩ u):=(bC _ _ _ _ hb).trans h
theorem alr{g:Nat}{k:Int}{w w':World}(h:mq g k w)(hk:ag (fun _=>True) w w'):mq g k w':=dE h hk trivial
theorem wK{g:Nat}{k:Int}{w:World}(h:mq g k w)(o:Obj):mq g k (w.alloc o):=aX h o
theorem als:NS 0:=by
 intro h a g A w us hg ha TK hh hl hk;obtain⟨va,cap,vb,aN,rfl,hc1,hc2,hc3,ht1,ht2,ht3, -⟩:=Hp.kY hh;obtain⟨l0,lf,hgl⟩:=DL hl;have HL:=zh hl;have hcs:=dz;have ZR:g<w.heap.size+1:=by omega
 clear hh hl hg;rw[aai];go_enter Tryz.func102,Tryz.ntmps102;go_wp2_with fail;refine cK (v:= .agg #[.int .i64 0,.int .i64 0,.string .empty,.slice none 0 0]) (by simp[results,Tryz.results102,go_sem,hcs];rfl) rfl ?_;exact⟨_,xL, -1,rfl,((CS g 0 w _).alloc _).alloc _,BA _ _,wK (wK (TJ HL.o) _) _,.inl ⟨rfl,rfl⟩⟩
theorem alu(k:Nat)(ih:∀m,m<=k->NS m):NS (k+1):=by
 intro h a g A w us hg ha TK hh hl hk;obtain⟨va,cap,vb,aN,rfl,hc1,hc2,hc3,ht1,ht2,ht3,hc,ht⟩:=Hp.kY hh;obtain⟨_,_,cb,oo,e, -, -, -,lS,hce⟩:=hc.at;simp only[eX,fH]at e;obtain⟨rfl,rfl⟩:=e;obtain⟨l0,lf,hgl⟩:=DL hl;have HL:=zh hl;have HH:=zh hh;have HG:=zh hg;have HI:=zh ha;have qg:=zh lS;have sN:=zh hce;have NU:=zh TK;have IH:=zh ih;have hcs:=dz;have ZR:g<w.heap.size+1:=by omega
 rw[show((k+1:Nat):Int)=(k:Int)+1 by omega]at l0;have hk0:(0:Int)<=(k:Int):=zN _;clear hh hl hg ha lS hce ih hc ht TK;go_enter Tryz.func102,Tryz.ntmps102;go_wp2_with fail;have bR:Hd ((((w.setCell ⟨g,0,none⟩ (.int .i64 (k:Int))).alloc (.cells #[.slice va h.cells.length cap,.slice vb h.trail.length aN] 59)).alloc (.cells #[.int .i64 0,.int .i64 0,.string .empty,.slice none 0 0] 34)).heap[w.heap.size]?=some (.cells #[.slice va h.cells.length cap,.slice vb h.trail.length aN] 59)):=zh (by simpa using(mG (w.setCell ⟨g,0,none⟩ (.int .i64 (k:Int))) (.cells #[.slice va h.cells.length cap,.slice vb h.trail.length aN] 59) (.cells #[.int .i64 0,.int .i64 0,.string .empty,.slice none 0 0] 34)).1);have bG:Hd ((((w.setCell ⟨g,0,none⟩ (.int .i64 (k:Int))).alloc (.cells #[.slice va h.cells.length cap,.slice vb h.trail.length aN] 59)).alloc (.cells #[.int .i64 0,.int .i64 0,.string .empty,.slice none 0 0] 34)).heap[w.heap.size+1]?=some (.cells #[.int .i64 0,.int .i64 0,.string .empty,.slice none 0 0] 34)):=zh (by simpa using(mG (w.setCell ⟨g,0,none⟩ (.int .i64 (k:Int))) (.cells #[.slice va h.cells.length cap,.slice vb h.trail.length aN] 59) (.cells #[.int .i64 0,.int .i64 0,.string .empty,.slice none 0 0] 34)).2);have uL:=zh (show mq g k (((w.setCell ⟨g,0,none⟩ (.int .i64 (k:Int))).alloc (.cells #[.slice va h.cells.length cap,.slice vb h.trail.length aN] 59)).alloc (.cells #[.int .i64 0,.int .i64 0,.string .empty,.slice none 0 0] 34))from wK (wK (TJ HL.o) _) _);have iK:=zh (show Ch (fun b=>b=g) w (((w.setCell ⟨g,0,none⟩ (.int .i64 (k:Int))).alloc (.cells #[.slice va h.cells.length cap,.slice vb h.trail.length aN] 59)).alloc (.cells #[.int .i64 0,.int .i64 0,.string .empty,.slice none 0 0] 34))from((CS g 0 w _).alloc _).alloc _);have hW1:(((w.setCell ⟨g,0,none⟩ (.int .i64 (k:Int))).alloc (.cells #[.slice va h.cells.length cap,.slice vb h.trail.length aN] 59)).alloc (.cells #[.int .i64 0,.int .i64 0,.string .empty,.slice none 0 0] 34)).heap.size=w.heap.size+2:=by simp
 generalize HW1:((w.setCell ⟨g,0,none⟩ (.int .i64 (k:Int))).alloc (.cells #[.slice va h.cells.length cap,.slice vb h.trail.length aN] 59)).alloc (.cells _ 34)=W1;have e1:((w.setCell ⟨g,0,none⟩ (.int .i64 (k:Int))).alloc (.cells #[.slice va h.cells.length cap,.slice vb h.trail.length aN] 59)).alloc (.cells #[.int .i64 0,.int .i64 0,.string .empty,.slice none 0 0] 34)=W1:=HW1;rw[e1]at bR bG uL iK hW1;clear e1 HW1;have HR1:=zh (Hp.rep.keeps HH.o (iK.o.keeps (A:=A) (fun b _ hb e=>by subst e;exact NU.o hb)));refine(look_ok h a HI.o A _ [_,_] HR1.o).mono ?_;rintro e w2⟨r,rfl,hb2,rfl⟩;have nO:=zh (aL bR.o hb2);have uO:=zh (aL bG.o hb2);have HL2:=zh (show mq g k w2 from aL uL.o hb2);have dK:=zh (iK.o.tb hb2);have hz2:w.heap.size+2<=w2.heap.size:=by have :=hb2.size;omega
 have NV:w.heap.size+1<w2.heap.size:=by omega
 have asu:w.heap.size<w2.heap.size:=by omega
 have hg2:g<w2.heap.size:=by omega
 obtain⟨q0,qf, -⟩:=DL HL2.o;obtain⟨x0,x1,xf⟩:=bM nO.o;obtain⟨y0,y1,y2,y3,yf⟩:=aW uO.o;clear l0 lf hb2 bR bG;have hge:=LU h.cells a;have hne1:¬w.heap.size+1=g:=by omega
 have hne2:¬g=w.heap.size+1:=by omega
 by_cases hneg:look h.cells a<0
 ·have HR:=zh (show iT h.cells (k+1) a=none by rw[R3,ah hneg]);go_wp2_with fail;refine cK (v:= .agg #[.int .i64 0,.int .i64 0,.string .empty,.slice none 0 0]) (by simp[results,Tryz.results102,go_sem,hcs,y0,y1,y2,y3,NV,hne1,hne2];try rfl) rfl ?_;have hch:=dK.o.Mw 0 (.int .i64 (-1));have hle:=TJ (k':= -1) HL2.o;refine⟨[.int .i64 0,.int .i64 0,.string .empty,.slice none 0 0],xL, -1,rfl,?_,BA _ _,?_,.inl ⟨HR.o,rfl⟩⟩;·repeat(with_reducible first|exact hch|refine Ch.alloc ?_ _|refine Ch.setCell ?_ (.inr (by simp)) _)
  ·repeat(with_reducible first|exact hle|refine wK ?_ _|refine F5 ?_ (by omega))
 ·obtain⟨x,hx,hxl,hcx⟩:=mJ (H7 (l:=h.cells) (a:=a) (by omega)).1;have zM:=zh (show iT h.cells (k+1) a=if h.cells[x].kind=3 then(match dX h.cells k (argsAt (x:Int) h.cells[x].n)with|none=>none|some (ts,w1)=>some (.mk 3 0 h.cells[x].s ts,w1))else some (if h.cells[x].kind=0 then .mk 0 (x:Int) .empty []else .mk h.cells[x].kind h.cells[x].n h.cells[x].s [],k)by rw[R3,ae hneg,hcx,hx]<;>rfl);have uw:=HG.o x hxl;rw[hx];have hx0:(0:Int)<=(x:Int):=zN _;have hx1:(x:Int)<(h.cells.length:Int):=by omega
  obtain⟨rfl,cO⟩:=qg.o (by omega);obtain⟨c0,c1,c2,i0,i1,i2⟩:=vG sN.o cO (dK.o.keeps (A:=A) (fun b _ hb e=>by subst e;exact NU.o hb)) hxl;have HI1:=zh i1;have HI2:=zh i2;generalize hcc:h.cells[x]=c at uw zM c0 c1 c2 i0 i1 i2 HI1 HI2;have DN:cb<w2.heap.size:=mX w2 _ c0;have abX:au (x:Int):=by unfold au;omega
  have alv:=zh abX;clear hcx hx hneg hge i0 i1 i2 abX;unfold Ce.fo at uw;rcases uw with⟨hk0', -, -, -⟩|⟨NW,hn1', -⟩|⟨xS,abY⟩|⟨Fa,hn1,rX,hnl, -⟩
  ·have HR:=zh (show iT h.cells (k+1) a=some (.mk 0 (x:Int) .empty [],k)by rw[zM.o,ae (by omega),ah hk0']);rw[hk0']at c0;clear hk0' zM;go_wp2_with fail;refine cK (v:= .agg #[.int .i64 0,.int .i64 (x:Int),.string .empty,.slice none 0 0]) (by simp[results,Tryz.results102,go_sem,hcs,y0,y1,y2,y3,NV,hne1,hne2];try rfl) rfl ?_;have hch:=dK.o;have hle:=HL2.o;refine⟨[.int .i64 0,.int .i64 (x:Int),.string .empty,.slice none 0 0],.mk 0 (x:Int) .empty [],k,rfl,?_,TI _ _ _ _ _ (by unfold au;omega) alv.o (by decide),?_,.inr ⟨by rw[HR.o];rfl,hk0⟩⟩;·repeat(with_reducible first|exact hch|refine Ch.alloc ?_ _|refine Ch.setCell ?_ (.inr (by simp)) _)
   ·repeat(with_reducible first|exact hle|refine wK ?_ _|refine F5 ?_ (by omega))
  ·have HR:=zh (show iT h.cells (k+1) a=some (.mk 1 0 c.s [],k)by rw[zM.o,ae (by omega),ae (by omega),NW,hn1']);rw[NW]at c0;clear NW hn1' zM;go_wp2_with fail;refine cK (v:= .agg #[.int .i64 1,.int .i64 0,.string c.s,.slice none 0 0]) (by simp[results,Tryz.results102,go_sem,hcs,y0,y1,y2,y3,NV,hne1,hne2];try rfl) rfl ?_;have hch:=dK.o;have hle:=HL2.o;refine⟨[.int .i64 1,.int .i64 0,.string c.s,.slice none 0 0],.mk 1 0 c.s [],k,rfl,?_,TI _ _ _ _ _ (by unfold au;omega) (by unfold au;omega) HI2.o,?_,.inr ⟨by rw[HR.o];rfl,hk0⟩⟩;·repeat(with_reducible first|exact hch|refine Ch.alloc ?_ _|refine Ch.setCell ?_ (.inr (by simp)) _)
   ·repeat(with_reducible first|exact hle|refine wK ?_ _|refine F5 ?_ (by omega))
  ·have hse:=alq abY;have HR:=zh (show iT h.cells (k+1) a=some (.mk 2 c.n .empty [],k)by rw[zM.o,ae (by omega),ae (by omega),xS,hse]);rw[xS]at c0;clear xS abY zM hse;go_wp2_with fail;refine cK (v:= .agg #[.int .i64 2,.int .i64 c.n,.string .empty,.slice none 0 0]) (by simp[results,Tryz.results102,go_sem,hcs,y0,y1,y2,y3,NV,hne1,hne2];try rfl) rfl ?_;have hch:=dK.o;have hle:=HL2.o;refine⟨[.int .i64 2,.int .i64 c.n,.string .empty,.slice none 0 0],.mk 2 c.n .empty [],k,rfl,?_,TI _ _ _ _ _ (by unfold au;omega) HI1.o (by decide),?_,.inr ⟨by rw[HR.o];rfl,hk0⟩⟩;·repeat(with_reducible first|exact hch|refine Ch.alloc ?_ _|refine Ch.setCell ?_ (.inr (by simp)) _)
   ·repeat(with_reducible first|exact hle|refine wK ?_ _|refine F5 ?_ (by omega))
  ·rw[Fa]at c0;have HR:=zh (show iT h.cells (k+1) a=match dX h.cells k (argsAt (x:Int) c.n)with|none=>none|some (ts,w1)=>some (.mk 3 0 c.s ts,w1)by rw[zM.o,ah Fa]);obtain⟨nn,hnn⟩:=eu (show 0<=c.n by omega);rw[hnn]at c1 hn1 rX hnl HR;have hal:(argsAt (x:Int) (nn:Int)).length=nn:=by simp[argsAt]
   have kP:=zh hal;have Rn:nn<=4:=by omega
   clear Fa hnn zM hal;go_wp2_with fail;have zO:=zh (aX (aX nO.o (.cells #[.int .i64 3,.int .i64 (nn:Int),.string c.s] 112)) (.cells #[.int .i64 3,.int .i64 0,.string c.s,.slice none 0 0] 34));have TL:=zh (aX (aX uO.o (.cells #[.int .i64 3,.int .i64 (nn:Int),.string c.s] 112)) (.cells #[.int .i64 3,.int .i64 0,.string c.s,.slice none 0 0] 34));have abZ:=zh (mG w2 (.cells #[.int .i64 3,.int .i64 (nn:Int),.string c.s] 112) (.cells #[.int .i64 3,.int .i64 0,.string c.s,.slice none 0 0] 34));have TM:=zh (wK (wK HL2.o (.cells #[.int .i64 3,.int .i64 (nn:Int),.string c.s] 112)) (.cells #[.int .i64 3,.int .i64 0,.string c.s,.slice none 0 0] 34));have lG:=zh ((dK.o.alloc (.cells #[.int .i64 3,.int .i64 (nn:Int),.string c.s] 112)).alloc (.cells #[.int .i64 3,.int .i64 0,.string c.s,.slice none 0 0] 34));have hs3:((w2.alloc (.cells #[.int .i64 3,.int .i64 (nn:Int),.string c.s] 112)).alloc (.cells #[.int .i64 3,.int .i64 0,.string c.s,.slice none 0 0] 34)).heap.size=w2.heap.size+2:=by simp
   clear q0 qf x0 x1 xf y0 y1 y2 y3 yf c0 c1 c2;go_loopw[9](fun i wr=>∃(j:Nat)(m:Int)(ts:List Tm)(v:Value),j<=nn/\i= .int .i64 ((j:Int)+1)/\Ch (fun b=>b=g) w wr/\wr.heap[w.heap.size]?=some (.cells #[.slice (some ⟨cb,oo,none⟩) h.cells.length cap,.slice vb h.trail.length aN] 59 (0,0))/\wr.heap[w.heap.size+1]?=some (.cells #[.int .i64 0,.int .i64 0,.string .empty,.slice none 0 0] 34 (0,0))/\wr.heap[w2.heap.size]?=some (.cells #[.int .i64 3,.int .i64 (nn:Int),.string c.s] 112)/\wr.heap[w2.heap.size+1]?=some (.cells #[.int .i64 3,.int .i64 0,.string c.s,v] 34 (0,0))/\aI wr (w2.heap.size+2) 34 4 Tm.rep (fun b=>w2.heap.size+2<=b) ts v/\mq g m wr/\ts.length<=j/\w2.heap.size+2<=wr.heap.size/\((m= -1/\dX h.cells k (argsAt (x:Int) (nn:Int))=none)\/(0<=m/\m<=k/\ts.length=j/\dX h.cells k ((argsAt (x:Int) (nn:Int)).take j)=some (ts,m.toNat))))(fun i _=>nn+1 - (intOf i).toNat);case atStart=>exact⟨0,k,[],_,dD _,rfl,lG.o,zO.o,TL.o,abZ.o.1,abZ.o.2,aI.nil ..,TM.o,zL _,by omega,.inr ⟨by omega,qA _,rfl,by rw[ng,yK];rfl⟩⟩
   case round=>
    obtain⟨j,m,ts,v,hj,rfl,hch,TN,TP,TQ,NY,hown,hle,htl,hsz,hst⟩:=hrel;have bD:=zh hch;have NZ:=zh TN;have TR:=zh TP;have Bh:=zh TQ;have xI:=zh NY;have HO:=zh hown;have vX:=zh hle;obtain⟨DR,vc,rfl,yQ⟩:=hown.val;obtain⟨q0,qf,hgr⟩:=DL hle;obtain⟨x0,x1,xf⟩:=bM TN;obtain⟨y0,y1,y2,y3,yf⟩:=aW TP;obtain⟨c0,c1,c2,cf⟩:=fO TQ;obtain⟨t0,t1,t2,t3,tf⟩:=aW NY;have hz0:w.heap.size<wr.heap.size:=by omega
    have hz1:w.heap.size+1<wr.heap.size:=by omega
    have lF:w2.heap.size+1<wr.heap.size:=by omega
    have hz3:w2.heap.size<wr.heap.size:=by omega
    clear hch TN TP TQ NY hown hle;have JP:Hd (m= -1\/j=nn)\/(0<=m/\j<nn):=by
     rcases hst with⟨e, -⟩|⟨e, -⟩;·exact .inl (zh (.inl e))
     ·by_cases h:j<nn;·exact .inr ⟨e,h⟩
      ·exact .inl (zh (.inr (by omega)))
    rcases JP with JP|⟨hm0,hlt⟩
    ·have alx:Hd ((iT h.cells (k+1) a=none/\m= -1)\/(iT h.cells (k+1) a=some (.mk 3 0 c.s ts,m.toNat)/\0<=m)):=by
      rw[HR.o];rcases hst with⟨e1,e2⟩|⟨e1, -, -,e2⟩;·exact zh (.inl ⟨by rw[e2],e1⟩)
      ·rcases JP.out with e3|e3;·omega
       ·rw[e3,jU (by rw[kP.o];exact zL _)]at e2;exact zh (.inr ⟨by rw[e2],e1⟩)
     have hcond:((nn:Int)<(j:Int)+1)\/((j:Int)+1<=(nn:Int)/\m<0):=by rcases JP.out with e|e<;>omega
     have ab0:ts.length<=1048576:=by omega
     clear hst JP;rcases hcond with hcond|⟨hcond,hcm⟩;all_goals
      go_wp2_with fail;refine cK (v:= .agg #[.int .i64 3,.int .i64 0,.string c.s,.slice DR ts.length vc]) (by simp[results,Tryz.results102,go_sem,hcs,y0,y1,y2,y3,hz1,hne1,hne2];try rfl) rfl ?_;have hch:=bD.o;have hle:=vX.o;refine⟨[_,_,_,_],.mk 3 0 c.s ts,m,rfl,?_,?_,?_,alx.o⟩;·repeat(with_reducible first|exact hch|refine Ch.alloc ?_ _|refine Ch.setCell ?_ (.inr (by simp)) _)
      ·rw[Tm.gT];refine⟨by unfold au;omega,by unfold au;omega,HI2.o,_,rfl,?_⟩;have hsl:=HO.o.sl Tm.aA (A:=fun b=>w2.heap.size+2<=b) ab0 (fun b hb=>hb);refine aj.mono Tm.aA (by omega) (aj.keeps Tm.aA hsl ?_) (fun b _ hb=>by simp only[New]at*;omega);refine ag.trans (ag.trans (ag.trans (ag.setCell _ _ _ _ ?_) (ag.setCell _ _ _ _ ?_)) (ag.setCell _ _ _ _ ?_)) (ag.setCell _ _ _ _ ?_)<;>(simp;omega)
      ·repeat(with_reducible first|exact hle|refine wK ?_ _|refine F5 ?_ (by omega))
    ·have hst':m<=k/\ts.length=j/\dX h.cells k ((argsAt (x:Int) (nn:Int)).take j)=some (ts,m.toNat):=by
      rcases hst with⟨e, -⟩|⟨-,e⟩;·omega
      ·exact e
     obtain⟨hmk,htj,hrd⟩:=hst';have ab1:=zh hrd;have HTJ:=zh htj;have asv:ts.length<=4:=by omega
     clear hst hrd htj htl;have hlt':(j:Int)+1<=(nn:Int):=by omega
     obtain⟨m,rfl⟩:=eu hm0;rw[dB]at ab1;go_wp2_with fail;have hW1:wr.drew.cell? ⟨w2.heap.size+1,3,none⟩=some (.slice DR ts.length vc):=(ag.drew (fun _=>True) wr).cell trivial t3;have hW2:wr.drew.cell? ⟨w.heap.size,0,none⟩=some (.slice (some ⟨cb,oo,none⟩) h.cells.length cap):=(ag.drew (fun _=>True) wr).cell trivial x0;have hW3:wr.drew.cell? ⟨w.heap.size,1,none⟩=some (.slice vb h.trail.length aN):=(ag.drew (fun _=>True) wr).cell trivial x1;refine iY (F:=fun k w'=>(k=1\/k=2)->w'.cell? ⟨w2.heap.size+1,3,none⟩=some (.slice DR ts.length vc)/\w'.cell? ⟨w.heap.size,0,none⟩=some (.slice (some ⟨cb,oo,none⟩) h.cells.length cap)/\w'.cell? ⟨w.heap.size,1,none⟩=some (.slice vb h.trail.length aN)) (by kernel_rfl) ?_;refine aC (i:=0) (v:=?_) rfl (Or.inl ⟨by rfl,?_⟩) (fun _=>⟨hW1,hW2,hW3⟩) ?_;rotate_left;·(intro w' hw;clear hw;go_simp<;>with_reducible rfl)
     simp only[zP];refine aC (i:=1) (v:=?_) rfl (Or.inl ⟨by rfl,?_⟩) (fun _=>⟨hW1,hW2,hW3⟩) ?_;rotate_left;·(intro w' hw;obtain⟨q0,q1,q2⟩:=hw (by omega);go_simp<;>with_reducible rfl)
     simp only[zP];refine aC (i:=2) (v:=?_) rfl (Or.inl ⟨by rfl,?_⟩) (fun _=>⟨hW1,hW2,hW3⟩) ?_;rotate_left;·(intro w' hw;obtain⟨q0,q1,q2⟩:=hw (by omega);go_simp<;>with_reducible rfl)
     simp only[zP];refine aC (i:=3) (v:=?_) rfl (Or.inl ⟨by rfl,?_⟩) (fun _=>⟨hW1,hW2,hW3⟩) ?_;rotate_left;·(intro w' hw;clear hw;go_simp<;>with_reducible rfl)
     simp only[zP];refine aC (i:=4) (v:=?_) rfl (Or.inl ⟨by rfl,?_⟩) (fun _=>⟨hW1,hW2,hW3⟩) ?_;rotate_left;·(intro w' hw;clear hw;go_simp<;>with_reducible rfl)
     simp only[zP];refine QB (i:=5) (v:= .int .i64 ((x:Int)+((j:Int)+1))) rfl (by kernel_rfl) (by kernel_rfl) (by kernel_rfl) (fun _ _ _ h=>h) (Or.inl ⟨by rfl,?_⟩) (fun _=>⟨hW1,hW2,hW3⟩) ?_;·intro w' hw;clear hw;go_simp;rw[IntKind.wrap_i64];omega
     simp only[zP];refine aC (i:=6) (v:=?_) rfl (Or.inl ⟨by rfl,?_⟩) (fun _=>⟨hW1,hW2,hW3⟩) ?_;rotate_left;·(intro w' hw;clear hw;go_simp<;>with_reducible rfl)
     simp only[zP];refine aM (i:=7) (by kernel_rfl) (aF rfl (by rfl) ?_);go_simp;rw[show(x:Int)+((j:Int)+1)=(x:Int)+1+(j:Int)by omega];have hrh:Hp.rep A wr.drew h [.slice (some ⟨cb,oo,none⟩) h.cells.length cap,.slice vb h.trail.length aN]:=Hp.rep.keeps HH.o ((bD.o.keeps (A:=A) (fun b _ hb e=>by subst e;exact NU.o hb)).trans (ag.drew _ _));refine(IH.out m (by omega) h ((x:Int)+1+(j:Int)) g A wr.drew [_,_] HG.o (by unfold au;omega) NU.o hrh (alr vX.o (ag.drew _ _)) (by omega)).mono ?_;rintro e w3⟨us,t',k',rfl,mr,hr1,hl1,hres⟩;obtain⟨sa',rM,rfl, -⟩:=Tm.nk hr1;have hsz1:=mr.size;simp only[ig]at hsz1;have hkg:ag (fun b=>b≠g) wr w3:=(ag.drew _ _).trans (mr.keeps (A:=fun b=>b≠g) (fun b _ hb e=>hb e));have ik:=zh (HO.o.keeps Tm.aA hkg (fun b hb=>by omega) (fun b hb=>by have :=(HO.o.lt b hb).1;omega));have HN:=zh (XX Tm.aA HO.o (wc:=wr.drew) (zL _) (A:=fun b=>w2.heap.size+2<=b) (fun b hb=>by simp only[ig]at hb;omega) hr1);have HL9:=zh (show ts.length<4194304/\w2.heap.size+2<=w3.heap.size by omega);have HCW:=zh (show Ch (fun b=>b=g) w w3 from(bD.o.drew).trans mr (fun _ h=> .inl h));have HQ:=zh (show w3.cell? ⟨w2.heap.size+1,3,none⟩=some (.slice DR ts.length vc)/\w3.cell? ⟨w.heap.size,0,none⟩=some (.slice (some ⟨cb,oo,none⟩) h.cells.length cap)/\w3.cell? ⟨w.heap.size,1,none⟩=some (.slice vb h.trail.length aN)from⟨hkg.cell (by omega) t3,hkg.cell (by omega) x0,hkg.cell (by omega) x1⟩);have RV:=zh (dE NZ.o hkg (by omega));have alA:=zh (dE TR.o hkg (by omega));have alB:=zh (dE Bh.o hkg (by omega));have alC:=zh (dE xI.o hkg (by omega));have alD:=zh hl1;have jy:=zh hres;clear hrh hr1 hl1 hres mr hkg q0 qf x0 x1 xf y0 y1 y2 y3 yf c0 c1 c2 cf t0 t1 t2 t3 tf;refine⟨fun _ _ _ _=>HQ.o,?_⟩;refine aM (i:=8) (by kernel_rfl) (aF rfl (by rfl) ?_);go_simp;refine⟨fun _ _ _ _=>?_,?_⟩;·obtain⟨q0,q1,q2⟩:=HQ.o;have ka:=ag.alloc (fun _=>True) w3 (.cells #[.int .i64 t'.kind,.int .i64 t'.n,.string t'.s,.slice sa' t'.args.length rM] 34);exact⟨ka.cell trivial q0,ka.cell trivial q1,ka.cell trivial q2⟩
     refine aM (i:=9) (by kernel_rfl) (aF rfl (by rfl) ?_);refine rH (.tmp 63) (.tmp 70) 23 rfl (w2.heap.size+2) 34 4 56 AL Tm.aA _ _ rfl ik.o t' [_,_,_,_] rfl rfl HN.o HL9.o ?_;intro v2 w4 hown2 az;have hlt2:=HO.o.lt;have hk2:=az.keeps (A:=fun b=>ownB (.slice DR ts.length vc)≠some b) (fun _ h=>h);have hka:=(ag.alloc (fun b=>ownB (.slice DR ts.length vc)≠some b) w3 (.cells #[.int .i64 t'.kind,.int .i64 t'.n,.string t'.s,.slice sa' t'.args.length rM] 34)).trans hk2;have hno:∀b,b<w2.heap.size+2->ownB (.slice DR ts.length vc)≠some b:=fun b hb e=>by have :=(hlt2 _ e).1;omega
     have alE:=zh (dE RV.o hka (hno _ (by omega)));have alF:=zh (dE alA.o hka (hno _ (by omega)));have alG:=zh (dE alB.o hka (hno _ (by omega)));have ab4:=zh (dE alC.o hka (hno _ (by omega)));have alH:=zh (show mq g k' w4 from dE alD.o hka (hno _ (by omega)));have wy:=zh (az.ch (HCW.o.alloc _) (fun b hb=> .inr (by have :=(hlt2 b hb).1;omega)));obtain⟨bN,bO,hv2,N7⟩:=hown2.val;rw[show(ts++[t']).length=ts.length+1 by simp]at hv2;subst hv2;have hz2':=az.size;have bE:=zh hown2;simp only[bF]at hz2';obtain⟨y0,y1,y2,y3,yf⟩:=aW ab4.o;refine⟨fun _ _ _ _=>?_,?_⟩;·obtain⟨q0,q1,q2⟩:=HQ.o;exact⟨hka.cell (hno _ (by omega)) q0,hka.cell (hno _ (by omega)) q1,hka.cell (hno _ (by omega)) q2⟩
     clear hown2 hka hk2;simp only[zP];refine aC (i:=10) (v:=?_) rfl (Or.inl ⟨by rfl,?_⟩) (fun h=>by omega) ?_;rotate_left;·(intro w' hw;clear hw;go_simp<;>with_reducible rfl)
     simp only[zP];refine aM (i:=11) (by kernel_rfl) (aF rfl (by rfl) ?_);go_simp;refine⟨fun k0 hk0 _ h12=>?_,fU (by kernel_rfl) ?_ _⟩
     ·rcases h12 with rfl|rfl;·exact absurd (show waits _ 11 1=true by kernel_rfl) (by rw[hk0];decide)
      ·exact absurd (show waits _ 11 2=true by kernel_rfl) (by rw[hk0];decide)
     have HB3:=zh (bI ab4.o 3 (.slice bN (ts.length+1) bO));have asw:(w4.setCell ⟨w2.heap.size+1,3,none⟩ (.slice bN (ts.length+1) bO)).heap.size=w4.heap.size:=by simp
     have qE:=zh (ag.setCell (fun b=>b≠w2.heap.size+1) w4 ⟨w2.heap.size+1,3,none⟩ (.slice bN (ts.length+1) bO) (by simp));have hja:j<(argsAt (x:Int) (nn:Int)).length:=by rw[kP.o];exact hlt
     have fV:=zh (show dX h.cells k ((argsAt (x:Int) (nn:Int)).take (j+1))=(match iT h.cells m ((x:Int)+1+(j:Int))with|none=>none|some (t,w2)=>some (ts++[t],w2))by rw[fF hja,E9,aaj,ab1.o]<;>rfl);clear az;go_wp2_with fail;go_roundw;case rel=>
      refine⟨j+1,k',ts++[t'],_,by omega,by go_num,wy.o.setCell (.inr (by simp only;omega)) _,dE alE.o qE.o (by omega),dE alF.o qE.o (by omega),dE alG.o qE.o (by omega),HB3.o,?_,F5 alH.o (by omega),by have :=HTJ.o;simp;omega,by omega,?_⟩;·exact bE.o.keeps Tm.aA qE.o (fun b hb=>by omega) (fun b hb=>by have :=(bE.o.lt b hb).1;omega)
      ·rcases jy.o with⟨r1,r2⟩|⟨r1,r2⟩;·refine .inl ⟨r2,?_⟩;have :=aj2 h.cells k ((argsAt (x:Int) (nn:Int)).take (j+1)) ((argsAt (x:Int) (nn:Int)).drop (j+1)) (by rw[fV.o,r1]);rwa[G8]at this
       ·refine .inr ⟨r2,?_,by have :=HTJ.o;simp;omega,by rw[fV.o,r1]⟩;have :=MX r1;omega
     case measure=>simp[intOf];omega
theorem TS:∀k,NS k:=by intro k;induction k using Nat.strongRecOn with|_ k ih=>cases k with|zero=>exact als|succ k=>exact alu k fun m hm=>ih m (by omega)
def qh:List Bool->Nat|[]=>0|b::r=>(if b=true then 0 else 1)+qh r
theorem ab5:∀(m:List Bool),qh m<=m.length|[]=>zL _|b::r=>by have :=ab5 r;unfold qh;split<;>simp<;>omega
theorem TT:∀(m:List Bool)(k:Nat),m[k]?=some false->qh (m.set k true)+1=qh m|[],k,h=>by simp at h|b::r,0,h=>by simp at h;subst h;simp[qh];omega|b::r,k+1,h=>by have :=TT r k (by simpa using h);simp only[Aq,qh];omega
def pushes(k:Nat)(c:Ce):List Int:=if c.kind=0 then[c.n]else if c.kind=3 then argsAt (k:Int) c.n else[]
theorem alI(l:List Ce)(hg:gB l){k:Nat}(hk:k<l.length):(pushes k l[k]).length<=4:=by
 have h1:=hg k hk;unfold Ce.fo at h1;unfold pushes;split;·simp
 ·split;·rw[ahd];omega
  ·simp
theorem ab6{l:List Ce}(hg:gB l){k j:Nat}(hk:k<l.length):(j:Int)∈pushes k l[k]↔yL l k j:=by
 have h1:=hg k hk;unfold yL pushes;rw[iQ hk];by_cases h0:l[k].kind=0
 ·rw[ah h0];simp only[iF,h0,fH];constructor;·intro e;exact .inl e.symm
  ·rintro(e|⟨e,_⟩);·exact e.symm
   ·omega
 ·rw[ae h0];by_cases h3:l[k].kind=3
  ·rw[ah h3];unfold argsAt;simp only[gQ,kK,h3,fH];constructor;·rintro⟨i,hi,e⟩;exact .inr ⟨by omega,by omega⟩
   ·rintro(⟨e,_⟩|⟨e1,e2⟩);·omega
    ·exact⟨j - k - 1,by omega,by omega⟩
  ·rw[ae h3];simp[h0,h3]
structure uP (l : List Ce) (roots : List Int) (m : List Bool) (st : List Int) : Prop where
  len : m.length = l.length
  rts : ∀ i : Nat, (i : Int) ∈ roots → i < l.length → m[i]? = some true ∨ (i : Int) ∈ st
  closed : ∀ i j, m[i]? = some true → yL l i j → m[j]? = some true ∨ (j : Int) ∈ st
  sound : ∀ i, m[i]? = some true → Reach l roots i
  todo : ∀ i : Nat, (i : Int) ∈ st → i < l.length → Reach l roots i
  few : st.length + 5 * qh m ≤ roots.length + 5 * l.length
theorem uP.start(l:List Ce)(roots:List Int):uP l roots (List.replicate l.length false) roots:=by
 refine⟨by simp,fun i h _=> .inr h,fun i j h=>?_,fun i h=>?_,fun i h1 h2=> .root h1 h2,?_⟩;·rw[P9]at h;split at h<;>simp at h
 ·rw[P9]at h;split at h<;>simp at h
 ·have :=ab5 (List.replicate l.length false);simp at this ⊢;omega
section
variable {l : List Ce} {roots : List Int} {m : List Bool} {st : List Int} {a : Int}
theorem uP.skip(h:uP l roots m (st++[a]))(ha:∀k:Nat,a=(k:Int)->k<l.length->m[k]?=some true)(hg:gB l):uP l roots m st:=by
 have key:∀i:Nat,i<l.length->(i:Int)∈st++[a]->m[i]?=some true\/(i:Int)∈st:=fun i hi hm=>by
  rcases gy.1 hm with h1|h1;·exact .inr h1
  ·simp only[iF]at h1;exact .inl (ha i h1.symm hi)
 refine⟨h.len,fun i h1 h2=>?_,fun i j h1 h2=>?_,h.sound,fun i h1 h2=>h.todo i (gy.2 (.inl h1)) h2,?_⟩
 ·rcases h.rts i h1 h2 with k|k;·exact .inl k
  ·exact key i h2 k
 ·rcases h.closed i j h1 h2 with k|k;·exact .inl k
  ·exact key j (hg.leads (by rw[<-h.len];exact(iO.1 h1).1) h2) k
 ·have :=h.few;simp only[bA,dW]at this;omega
theorem uP.mark{k:Nat}(h:uP l roots m (st++[(k:Int)]))(hk:k<l.length)(hm:m[k]?=some false)(hg:gB l):uP l roots (m.set k true) (st++pushes k l[k]):=by
 have hr:Reach l roots k:=h.todo k (by simp) hk;have F6:k<m.length:=by rw[h.len];exact hk
 have get:∀i,(m.set k true)[i]?=some true↔i=k\/m[i]?=some true:=fun i=>by
  rw[List.getElem?_set];by_cases e:k=i;·subst e;simp[F6]
  ·rw[ae e];constructor;·exact .inr
   ·rintro(e'|e');·exact absurd e'.symm e
    ·exact e'
 refine⟨by simp[h.len],fun i h1 h2=>?_,fun i j h1 h2=>?_,fun i h1=>?_,fun i h1 h2=>?_,?_⟩
 ·rcases h.rts i h1 h2 with q|q;·exact .inl ((get i).2 (.inr q))
  ·rcases gy.1 q with q|q;·exact .inr (gy.2 (.inl q))
   ·simp only[iF]at q;exact .inl ((get i).2 (.inl (by omega)))
 ·rcases(get i).1 h1 with rfl|h1;·exact .inr (gy.2 (.inr ((ab6 hg hk).2 h2)))
  ·rcases h.closed i j h1 h2 with q|q;·exact .inl ((get j).2 (.inr q))
   ·rcases gy.1 q with q|q;·exact .inr (gy.2 (.inl q))
    ·simp only[iF]at q;exact .inl ((get j).2 (.inl (by omega)))
 ·rcases(get i).1 h1 with rfl|h1;·exact hr
  ·exact h.sound i h1
 ·rcases gy.1 h1 with h1|h1;·exact h.todo i (gy.2 (.inl h1)) h2
  ·exact .step hr ((ab6 hg hk).1 h1)
 ·have h1:=h.few;have h2:=TT m k hm;have h3:=alI l hg hk;simp only[bA,dW]at h1 ⊢;omega
theorem uP.done(h:uP l roots m [])(hg:gB l):m=marks l roots:=ahf hg h.len (fun i h1 h2=>(h.rts i h1 h2).resolve_right (by simp)) (fun i j h1 h2=>(h.closed i j h1 h2).resolve_right (by simp)) h.sound
end
theorem JQ{P:Program}{t e:TypeId}{z:Value}{bytes:Nat}(W:World)(ht:P.underlying t=some (.slice e))(hi:(P.info? e).map (fun i=>(i.zero,i.size,i.bytes))=some (some z,1,bytes))(hz:z.cells=#[z])(n:Nat)(hn:n<=4194304)(hb:bytes<=256):(Instr.makeSlice t (.int .i64 (n:Int)) (.int .i64 (n:Int))).run P W= .ok (.slice (some ⟨W.heap.size,0,none⟩) n n) (W.alloc (.cells (Array.replicate n z) e)):=by
 obtain⟨i0,hi0,h1,h2,h3⟩:=info_parts hi;have hmul:i0.bytes*n<=256*4194304:=Nat.mul_le_mul (by omega) hn;have hb':(i0.bytes:Int)*(n:Int)<=281474976710656:=by rw[<-Int.natCast_mul];omega
 have hr:=run_make (P:=P) W t e i0 z ht hi0 h1 .i64 .i64 n n (by omega) (qA _) hb' (by omega);rw[hr];simp only[dB,h2,yF,hz];congr 3;apply agC.1;rw[toList_madeCells_one,agh]
def alJ(base:Nat)(x:List Bool×Int)(r:Value)(w':World):Prop:=∃v,r= .tuple #[v,.int .i64 x.2]/\fK w' base x.1 v
def zQ(w:World)(g:Nat):Nat->Nat->Nat|_,0=>0|off,n+1=>(match w.cell? ⟨g,off,none⟩with|some (.bool true)=>0|_=>1)+zQ w g (off+1) n
theorem F7{w:World}{g:Nat}:∀(m:List Bool)(off:Nat),(∀i(hi:i<m.length),w.cell? ⟨g,off+i,none⟩=some (.bool m[i]))->zQ w g off m.length=qh m|[],_,_=>rfl|b::r,off,h=>by have h0:=h 0 (by simp);simp only[qz,yx]at h0;have ih:=F7 r (off+1) (fun i hi=>by have :=h (i+1) (by simpa using hi);rw[show off+1+i=off+(i+1)by omega,this];simp);rw[bn,zQ,qh,h0,ih];cases b<;>simp
def sliceLen:Value->Nat| .slice _ n _=>n|_=>0
theorem fK.cells{w:World}{base g n cap:Nat}{m:List Bool}(h:fK w base m (.slice (some ⟨g,0,none⟩) n cap)):∀i(hi:i<m.length),w.cell? ⟨g,i,none⟩=some (.bool m[i]):=by intro i hi;obtain⟨g',cap',e, -, -, -, -, -, -, -,hc⟩:=af.at yS h (by omega);simp only[eX,cZ,Ey,ug]at e;obtain⟨rfl, -⟩:=e;simpa using hc i hi 0 _ rfl
theorem fK.fresh(w:World)(n:Nat)(hn:n<=maxLen):fK (w.alloc (.cells (Array.replicate n (.bool false)) 4)) w.heap.size (List.replicate n false) (.slice (some ⟨w.heap.size,0,none⟩) n n):=by
 refine⟨⟨by rw[Ip yS],?_⟩,fun _ _=>trivial⟩;rw[yz];by_cases h0:n=0;·subst h0;exact .inl ⟨rfl,_,rfl⟩
 ·refine .inr ⟨w.heap.size,n,_,rfl,by omega,zL _,bV _ _,zL _,hn,by simp,?_⟩;rw[yF,agh,jU (by simp)];clear h0 hn;induction n with|zero=>rfl|succ n ih=>rw[XA,XA,yB,<-ih];rfl
theorem alK(h:Hp)(roots:List Int)(A:Nat->Prop)(w:World)(vs:List Value)(v:Value)(hh:Hp.rep A w h vs)(hv:fI A w roots v):Calls Tryz.prog 107 #[.agg vs.toArray,v] w (Pure w (alJ w.heap.size (Bl h roots))):=by
 obtain⟨va,cap,vb,aN,rfl,hc1,hc2,hc3,ht1,ht2,ht3,hc,ht⟩:=Hp.kY hh;obtain⟨_,_,cb,oo,e, -, -, -,lS,hce⟩:=hc.at;simp only[eX,fH]at e;obtain⟨rfl,rfl⟩:=e;obtain⟨ra,asx,rb,roff,rfl,hr1,hr2,hr3, -, -⟩:=hv.at;have HH:=zh hh;have HV:=zh hv;have qg:=zh lS;have sN:=zh hce;have lZ:=zh (fun w'(hk:ag A w w')=>AQ h A w' _ (Hp.rep.keeps hh hk));clear hh hv lS hce hc ht;go_enter Tryz.func107,Tryz.ntmps107;go_wp2_with fail;refine(lZ.o _ (ag.alloc _ _ _)).mono ?_;rintro e w1⟨v,rfl,hb1,t,rfl,ht⟩;have bR:=zh (aL (bV w (.cells #[.slice va h.cells.length cap,.slice vb h.trail.length aN] 59)) hb1);have HB:=zh (show Below w.heap.size w w1 from gU (hb1.mono (by simp)));have hz':w.heap.size<w1.heap.size:=by have :=hb1.size;simp at this;omega
 have kC:=zh ht;have hcs:=dz;clear hb1 ht;obtain⟨x0,x1,xf⟩:=bM bR.o;cases t with
  |false=>
   have hg:¬h.Good:=fun hg=>by have :=kC.o.2 hg;cases this
   go_wp2_with fail;refine cK (v:= .tuple #[.slice none 0 0,.int .i64 1]) (by simp[results,Tryz.results107,go_sem]) rfl ?_;rw[Bl,ae hg];exact⟨_,rfl,HB.o,_,rfl,af.nil⟩
  |true=>
   have HG:=zh (kC.o.1 rfl);have hL1:h.cells.length<=65536:=HG.o.2.2.1;clear kC;have asy:(0:Int)<=(h.cells.length:Int):=zN _;have qM:∀W:World,(Instr.makeSlice 121 (.int .i64 (h.cells.length:Int)) (.int .i64 (h.cells.length:Int))).run Tryz.prog W= .ok (.slice (some ⟨W.heap.size,0,none⟩) h.cells.length h.cells.length) (W.alloc (.cells (Array.replicate h.cells.length (.bool false)) 4)):=fun W=>JQ (bytes:=1) W Tryz.underlying121 (by kernel_rfl) rfl _ (by omega) (by omega);go_wp2_with fail;refine(Rh roots A _ _ (aj.keeps aQ HV.o (ag.ob (HB.o.alloc (by omega) _)))).mono ?_;rintro e w2⟨v,rfl,hb2,hown⟩;obtain⟨sa,sc,rfl,hsl,hsm⟩:=af.val hown;have bG:=zh (aL (aX bR.o _) hb2);have HB2:=zh (show Below w.heap.size w w2 from(HB.o.alloc (by omega) _).trans (hb2.mono (by simp;omega)));have gV:=zh (af.below (fK.fresh w1 h.cells.length (by simp[maxLen];omega)) hb2);have HON:=zh (show dA w2 w1.heap.size roots (.slice sa roots.length sc)from af.pK hown (fun k hk=>by have :=(hown.lt k hk).1;simp at this;omega));have hz2:w1.heap.size<w2.heap.size:=by have :=hb2.size;simp at this;omega
   clear hown hb2 x0 x1 xf;have HST:=zh (uP.start h.cells roots);obtain⟨gb,hgb⟩:∃g,g=w1.heap.size:=⟨_,rfl⟩;have sH:=zh hgb;rw[<-hgb]at gV;go_wp2_with fail;rw[<-sH.o];clear hgb;go_loopw[7](fun x wr=>∃(m:List Bool)(st:List Int),uP h.cells roots m st/\Below w.heap.size w wr/\wr.heap[w.heap.size]?=some (.cells #[.slice va h.cells.length cap,.slice vb h.trail.length aN] 59 (0,0))/\fK wr w1.heap.size m (.slice (some ⟨gb,0,none⟩) h.cells.length h.cells.length)/\dA wr w1.heap.size st x/\w1.heap.size<=wr.heap.size)(fun x wr=>5*zQ wr gb 0 h.cells.length+sliceLen x);case atStart=>exact⟨_,_,HST.o,HB2.o,bG.o,(by rw[<-sH.o];exact gV.o),HON.o,by omega⟩
   case round=>
    obtain⟨m,st,hst,hib,hi1,bX,hon,hzz⟩:=hrel;have HS:=zh hst;have qR:=zh hib;have HI1:=zh hi1;have F8:=zh bX;have lJ:=zh hon;obtain⟨xa,xc,rfl,hxl,hxm⟩:=af.val hon;have fP:=hst.len;have oZ:=hst.few;have DT:=zh (show zQ wr gb 0 h.cells.length=qh m by rw[<-hst.len];exact F7 m 0 (fun i hi=>by rw[kL];exact fK.cells bX i hi));have zR:=hib.size;obtain⟨x0,x1,xf⟩:=bM hi1;by_cases hem:st=[];·subst hem;have hm:=hst.done HG.o.1;clear hst hib hi1 bX hon;go_wp2_with fail;refine cK (v:= .tuple #[.slice (some ⟨gb,0,none⟩) h.cells.length h.cells.length,.int .i64 0]) (by simp[results,Tryz.results107,go_sem]) rfl ?_;rw[Bl,ah HG.o,<-hm];exact⟨_,rfl,qR.o,_,rfl,af.pK F8.o (fun k hk=>by have :=(F8.o.lt k hk).1;omega)⟩
    ·obtain⟨st0,a,rfl⟩:∃st0 a,st=st0++[a]:=⟨st.dropLast,st.getLast hem,(arK hem).symm⟩;have hl1:(st0++[a]).length=st0.length+1:=by simp
     rw[hl1]at hxl oZ lJ hon ⊢;obtain⟨sb,N8,e, -, -, -,alM, -,asz, -,hcell⟩:=af.at dO hon (by omega);rw[hl1]at e;simp only[eX,fH]at e;obtain⟨rfl,rfl⟩:=e;have ab7:au a:=hon.2 a (by simp);have asA:=zh ab7;have s0:wr.cell? ⟨sb,st0.length,none⟩=some (.int .i64 a):=by have :=hcell st0.length (by omega) 0 (.int .i64 a) (by simp[yJ]);simpa using this
     have TU:st0.length<=4194304 - 5:=by omega
     have hcases:(a<0)\/((h.cells.length:Int)<=a)\/(0<=a/\a<(h.cells.length:Int)):=by omega
     clear ab7;rcases hcases with h1|h1|⟨h1,h2⟩
     ·have BB:∀k:Nat,a=(k:Int)->k<h.cells.length->m[k]?=some true:=fun k e _=>by omega
      have fB:=zh (af.take dO (a:=some ⟨sb,0,none⟩) (cap:=xc) (l:=st0++[a]) (by rw[hl1];exact lJ.o) (k:=st0.length) (by omega));rw[Qo rfl]at fB;have JR:=zh (HS.o.skip BB HG.o.1);clear BB hst hib hi1 bX hon hcell;go_wp2_with fail;all_goals first|(exfalso;omega)|skip
      go_roundw;case rel=>exact⟨m,st0,JR.o,qR.o,HI1.o,F8.o,fB.o,by omega⟩
      case measure=>rw[DT.o];simp[sliceLen]
     ·have BB:∀k:Nat,a=(k:Int)->k<h.cells.length->m[k]?=some true:=fun k e h=>by omega
      have h3:¬a<0:=by omega
      have fB:=zh (af.take dO (a:=some ⟨sb,0,none⟩) (cap:=xc) (l:=st0++[a]) (by rw[hl1];exact lJ.o) (k:=st0.length) (by omega));rw[Qo rfl]at fB;have JR:=zh (HS.o.skip BB HG.o.1);clear BB hst hib hi1 bX hon hcell;go_wp2_with fail;all_goals first|(exfalso;omega)|skip
      go_roundw;case rel=>exact⟨m,st0,JR.o,qR.o,HI1.o,F8.o,fB.o,by omega⟩
      case measure=>rw[DT.o];simp[sliceLen]
     ·obtain⟨k,rfl⟩:=eu h1;have hkl:k<h.cells.length:=by omega
      have F6:k<m.length:=by omega
      have b0:=fK.cells bX k F6;cases hmk:m[k]with
       |true=>
        rw[hmk]at b0;have BB:∀i:Nat,(k:Int)=(i:Int)->i<h.cells.length->m[i]?=some true:=fun i e _=>by
         obtain rfl:k=i:=by omega
         rw[aS F6,hmk]
        have fB:=zh (af.take dO (a:=some ⟨sb,0,none⟩) (cap:=xc) (l:=st0++[(k:Int)]) (by rw[hl1];exact lJ.o) (k:=st0.length) (by omega));rw[Qo rfl]at fB;have JR:=zh (HS.o.skip BB HG.o.1);clear BB hst hib hi1 bX hon hcell;go_wp2_with fail;all_goals first|(exfalso;omega)|skip
        go_roundw;case rel=>exact⟨m,st0,JR.o,qR.o,HI1.o,F8.o,fB.o,by omega⟩
        case measure=>rw[DT.o];simp[sliceLen]
       |false=>
        rw[hmk]at b0;have jh:=zh (show m[k]?=some false by rw[aS F6,hmk]);have TV:ownB (.slice (some ⟨gb,0,none⟩) h.cells.length h.cells.length)=some gb:=by
         have :h.cells.length≠0:=by omega
         simp only[ownB,this,if_false]
        have N9:=zh (show fK (wr.setCell ⟨gb,k,none⟩ (.bool true)) w1.heap.size (m.set k true) (.slice (some ⟨gb,0,none⟩) h.cells.length h.cells.length)by have :=af.set (y:=true) (u:= .bool true) yS F8.o TV (i:=k) (j:=0) F6 (by omega) rfl trivial;simpa using this);obtain⟨g',cap',e', -, -, -, -,bf, -⟩:=af.at yS bX (by omega);simp only[eX,cZ,Ey,ug]at e';obtain⟨rfl, -⟩:=e';have alN:gb≠sb:=fun e=>pO (by decide) bX hon gb TV (alM.trans (congrArg some e.symm));have asB:w1.heap.size<=gb/\gb<wr.heap.size:=by have :=bX.lt gb TV;omega
        have HB1:=zh (bH qR.o (p:=⟨gb,k,none⟩) (by simp only;omega) (.bool true));have F9:=zh ((bC wr ⟨gb,k,none⟩ (.bool true) w.heap.size (by simp only;omega)).trans hi1);have fB:=zh (af.kept (af.take dO (a:=some ⟨sb,0,none⟩) (cap:=xc) (l:=st0++[(k:Int)]) (by rw[hl1];exact lJ.o) (k:=st0.length) (by omega)) (w':=wr.setCell ⟨gb,k,none⟩ (.bool true)) (fun b hb=>bC _ _ _ _ (fun e=>by
         simp only at e;have :b=sb:=by
          simp only[ownB]at hb;split at hb;·cases hb
          ·exact(zI hb).symm
         exact alN (by rw[<-this];exact e.symm))));rw[Qo rfl]at fB;have JS:=zh (HS.o.mark hkl jh.o HG.o.1);have gZ:=zh (TT m k jh.o);obtain⟨rfl,cO⟩:=qg.o (by omega);obtain⟨c0,c1,c2,i0,i1,i2⟩:=vG sN.o cO (ag.ob qR.o) hkl;have asC:cb<w.heap.size:=mX w _ (vG sN.o cO (ag.refl _ _) hkl).1;have hne1:¬gb=w.heap.size:=by omega
        have hne2:¬gb=cb:=by omega
        have asD:cb<wr.heap.size:=by omega
        have hwr:w.heap.size<wr.heap.size:=by omega
        have uw:=HG.o.1 k hkl;have DU:pushes k h.cells[k]=if h.cells[k].kind=0 then[h.cells[k].n]else if h.cells[k].kind=3 then argsAt (k:Int) h.cells[k].n else[]:=rfl;obtain⟨c,hcc⟩:∃c:Ce,c=h.cells[k]'hkl:=⟨_,rfl⟩;rw[<-hcc]at c0 c1 c2 i0 i1 i2 uw JS DU;have DV:=zh DU;have asE:=zh i1;have HW1:(wr.setCell ⟨gb,k,none⟩ (.bool true)).heap.size=wr.heap.size:=by simp
        clear hst hib hi1 bX hon hcell hcc DU i0 i1 i2;unfold Ce.fo at uw;rcases uw with⟨hk0,hn0,hnl, -⟩|⟨hk1, -, -⟩|⟨hk2, -⟩|⟨hk3,hn1,rX,hnl, -⟩
        ·have hpe:=zh (show pushes k c=[c.n]by rw[DV.o,ah hk0]);rw[hk0]at c0;clear hk0;have wL:=zh (af.below N9.o ((zB _ _).alloc (zL _) (.cells #[.int .i64 0,.int .i64 c.n,.string c.s] 112)));have pg:=zh (af.below fB.o ((zB _ _).alloc (zL _) (.cells #[.int .i64 0,.int .i64 c.n,.string c.s] 112)));have wM:=zh (HB1.o.alloc (by omega) (.cells #[.int .i64 0,.int .i64 c.n,.string c.s] 112));have nO:=zh (aX F9.o (.cells #[.int .i64 0,.int .i64 c.n,.string c.s] 112));have HW2:((wr.setCell ⟨gb,k,none⟩ (.bool true)).alloc (.cells #[.int .i64 0,.int .i64 c.n,.string c.s] 112)).heap.size=wr.heap.size+1:=by simp
         have dC:=zh (af.eZ dO pg.o (fun _=>True));go_wp2_with(at_builtin;go_must(refine iH rfl (.tmp 60) (.tmp 63) 57 rfl w1.heap.size 3 1 8 je aQ (A:=fun _=>True) (.slice (some ⟨sb,0,none⟩) st0.length xc) (st0) rfl dC.o (c.n) [.int .i64 (c.n)] (by simp only[bF,mZ];rfl) rfl ⟨by unfold au;omega,rfl⟩ ⟨by omega,by simp;omega⟩ ?_);go_must(intro v2 w4 hown2 az));have hno:∀b,b<w1.heap.size->ownB (.slice (some ⟨sb,0,none⟩) st0.length xc)≠some b:=fun b hb e=>by have :=(pg.o.lt b e).1;omega
         have TW:∀b,ownB (.slice (some ⟨gb,0,none⟩) h.cells.length h.cells.length)=some b->ownB (.slice (some ⟨sb,0,none⟩) st0.length xc)≠some b:=fun b hb e=>pO (by decide) wL.o pg.o b hb e;have hka:=(ag.alloc (fun b=>ownB (.slice (some ⟨sb,0,none⟩) st0.length xc)≠some b) _ _).trans (az.keeps (A:=fun b=>ownB (.slice (some ⟨sb,0,none⟩) st0.length xc)≠some b) (fun _ h=>h));have Oa:=zh (af.kept wL.o (w':=w4) (fun b hb=>hka.block b (wL.o.lt b hb).2 (TW b hb)));have yX:=zh (dE nO.o hka (hno _ hz'));have dH:=zh (az.below (wM.o.alloc (by omega) _) (by simp;omega) (fun b hb=>by have :=(pg.o.lt b hb).1;omega));have gN:=zh (af.eB hown2);have lF:=az.size;simp only[bF,mZ]at lF;obtain⟨Ob,Oc,hv4, -, -⟩:=af.val gN.o;subst hv4;clear hka hown2;go_roundw;case rel=>exact⟨m.set k true,st0++[c.n],(by rw[<-hpe.out];exact JS.o),dH.o,yX.o,Oa.o,gN.o,by omega⟩
         case measure=>
          rw[DT.o,show zQ w4 gb 0 h.cells.length=qh (m.set k true)by
           have hl:(m.set k true).length=h.cells.length:=by rw[vC];exact fP
           rw[<-hl];exact F7 _ 0 (fun i hi=>by rw[kL];exact fK.cells Oa.o i hi)];have :=gZ.o;simp[sliceLen];omega
        ·have hpe:=zh (show pushes k c=[]by rw[DV.o,ae (by omega),ae (by omega)]);rw[hk1]at c0;clear hk1;have wL:=zh (af.below N9.o ((zB _ _).alloc (zL _) (.cells #[.int .i64 1,.int .i64 c.n,.string c.s] 112)));have pg:=zh (af.below fB.o ((zB _ _).alloc (zL _) (.cells #[.int .i64 1,.int .i64 c.n,.string c.s] 112)));have wM:=zh (HB1.o.alloc (by omega) (.cells #[.int .i64 1,.int .i64 c.n,.string c.s] 112));have nO:=zh (aX F9.o (.cells #[.int .i64 1,.int .i64 c.n,.string c.s] 112));have HW2:((wr.setCell ⟨gb,k,none⟩ (.bool true)).alloc (.cells #[.int .i64 1,.int .i64 c.n,.string c.s] 112)).heap.size=wr.heap.size+1:=by simp
         have dC:=zh (af.eZ dO pg.o (fun _=>True));go_wp2_with fail;go_roundw;case rel=>exact⟨m.set k true,st0,(by have :=JS.o;rw[hpe.out,nW]at this;exact this),wM.o,nO.o,wL.o,pg.o,by omega⟩
         case measure=>
          rw[DT.o,show zQ _ gb 0 h.cells.length=qh (m.set k true)by
           have hl:(m.set k true).length=h.cells.length:=by rw[vC];exact fP
           rw[<-hl];exact F7 _ 0 (fun i hi=>by rw[kL];exact fK.cells wL.o i hi)];have :=gZ.o;simp[sliceLen];omega
        ·have hpe:=zh (show pushes k c=[]by rw[DV.o,ae (by omega),ae (by omega)]);rw[hk2]at c0;clear hk2;have wL:=zh (af.below N9.o ((zB _ _).alloc (zL _) (.cells #[.int .i64 2,.int .i64 c.n,.string c.s] 112)));have pg:=zh (af.below fB.o ((zB _ _).alloc (zL _) (.cells #[.int .i64 2,.int .i64 c.n,.string c.s] 112)));have wM:=zh (HB1.o.alloc (by omega) (.cells #[.int .i64 2,.int .i64 c.n,.string c.s] 112));have nO:=zh (aX F9.o (.cells #[.int .i64 2,.int .i64 c.n,.string c.s] 112));have HW2:((wr.setCell ⟨gb,k,none⟩ (.bool true)).alloc (.cells #[.int .i64 2,.int .i64 c.n,.string c.s] 112)).heap.size=wr.heap.size+1:=by simp
         have dC:=zh (af.eZ dO pg.o (fun _=>True));go_wp2_with fail;go_roundw;case rel=>exact⟨m.set k true,st0,(by have :=JS.o;rw[hpe.out,nW]at this;exact this),wM.o,nO.o,wL.o,pg.o,by omega⟩
         case measure=>
          rw[DT.o,show zQ _ gb 0 h.cells.length=qh (m.set k true)by
           have hl:(m.set k true).length=h.cells.length:=by rw[vC];exact fP
           rw[<-hl];exact F7 _ 0 (fun i hi=>by rw[kL];exact fK.cells wL.o i hi)];have :=gZ.o;simp[sliceLen];omega
        ·obtain⟨nn,hnn⟩:=eu (show 0<=c.n by omega);have hpe:=zh (show pushes k c=argsAt (k:Int) (nn:Int)by rw[DV.o,ae (by omega),ah hk3,hnn]);rw[hk3]at c0;rw[hnn]at c1 hn1 rX hnl;have hal:(argsAt (k:Int) (nn:Int)).length=nn:=by simp[argsAt]
         have kP:=zh hal;have Rn:nn<=4:=by omega
         clear hk3 hnn hal;have wL:=zh (af.below N9.o ((zB _ _).alloc (zL _) (.cells #[.int .i64 3,.int .i64 (nn:Int),.string c.s] 112)));have pg:=zh (af.below fB.o ((zB _ _).alloc (zL _) (.cells #[.int .i64 3,.int .i64 (nn:Int),.string c.s] 112)));have wM:=zh (HB1.o.alloc (by omega) (.cells #[.int .i64 3,.int .i64 (nn:Int),.string c.s] 112));have nO:=zh (aX F9.o (.cells #[.int .i64 3,.int .i64 (nn:Int),.string c.s] 112));have HW2:((wr.setCell ⟨gb,k,none⟩ (.bool true)).alloc (.cells #[.int .i64 3,.int .i64 (nn:Int),.string c.s] 112)).heap.size=wr.heap.size+1:=by simp
         have TY:=zh (bV (wr.setCell ⟨gb,k,none⟩ (.bool true)) (.cells #[.int .i64 3,.int .i64 (nn:Int),.string c.s] 112));simp only[mZ]at TY;obtain⟨gc,hgc⟩:∃g,g=wr.heap.size:=⟨_,rfl⟩;have IE:=zh hgc;rw[<-hgc]at TY;go_wp2_with fail;rw[<-IE.o];have Rk:w1.heap.size+1<=gc:=by omega
         rw[<-hgc]at HW2;clear hgc x0 x1 xf c0 c1 c2 s0 b0;go_loopw[10,7](fun i x wr=>∃(j:Nat),j<=nn/\i= .int .i64 ((j:Int)+1)/\Below w.heap.size w wr/\wr.heap[w.heap.size]?=some (.cells #[.slice (some ⟨cb,oo,none⟩) h.cells.length cap,.slice vb h.trail.length aN] 59 (0,0))/\fK wr w1.heap.size (m.set k true) (.slice (some ⟨gb,0,none⟩) h.cells.length h.cells.length)/\dA wr w1.heap.size (st0++(argsAt (k:Int) (nn:Int)).take j) x/\wr.heap[gc]?=some (.cells #[.int .i64 3,.int .i64 (nn:Int),.string c.s] 112 (0,0))/\gc+1<=wr.heap.size)(fun i _ _=>nn+1 - (intOf i).toNat);case atStart=>exact⟨0,dD _,rfl,wM.o,nO.o,wL.o,(by rw[ng,nW];exact pg.o),TY.o,by omega⟩
         case round=>
          obtain⟨j,hj,rfl,jb,jx,jo,jn,jc,jz⟩:=hrel;have JB:=zh jb;have JX:=zh jx;have JO:=zh jo;have JC:=zh jc;have hjl:(st0++(argsAt (k:Int) (nn:Int)).take j).length=st0.length+j:=by rw[bA,dS,kP.o];omega
          obtain⟨ya,yc,rfl,hyl,hym⟩:=af.val jn;rw[hjl]at hyl jn ⊢;have JN:=zh jn;obtain⟨d0,d1,d2,df⟩:=fO jc;have alO:gc<wr.heap.size:=by omega
          clear jb jx jo jc;by_cases hlt:j<nn
          ·have dC:=zh (af.eZ dO JN.out (fun _=>True));have hlt':(j:Int)+1<=(nn:Int):=by omega
           have hja:j<(argsAt (k:Int) (nn:Int)).length:=by rw[kP.o];exact hlt
           have hnext:=zh (show(argsAt (k:Int) (nn:Int)).take (j+1)=(argsAt (k:Int) (nn:Int)).take j++[(k:Int)+((j:Int)+1)]by rw[fF hja,E9,show(k:Int)+1+(j:Int)=(k:Int)+((j:Int)+1)by omega]);clear jn hja;go_wp2_with(at_builtin;go_must(refine iH rfl (.tmp 73) (.tmp 77) 57 rfl w1.heap.size 3 1 8 je aQ (A:=fun _=>True) (.slice ya (st0.length+j) yc) (st0++(argsAt (k:Int) (nn:Int)).take j) rfl dC.o ((k:Int)+((j:Int)+1)) [.int .i64 ((k:Int)+((j:Int)+1))] rfl rfl ⟨by unfold au;omega,rfl⟩ ⟨by rw[hjl];omega,by omega⟩ ?_);go_must(intro v2 w4 hown2 az));have hno:∀b,b<w1.heap.size->ownB (.slice ya (st0.length+j) yc)≠some b:=fun b hb e=>by have :=(JN.out.lt b e).1;omega
           have TW:∀b,ownB (.slice (some ⟨gb,0,none⟩) h.cells.length h.cells.length)=some b->ownB (.slice ya (st0.length+j) yc)≠some b:=fun b hb e=>pO (by decide) JO.out JN.out b hb e;have hka:=(ag.alloc (fun b=>ownB (.slice ya (st0.length+j) yc)≠some b) _ _).trans (az.keeps (A:=fun b=>ownB (.slice ya (st0.length+j) yc)≠some b) (fun _ h=>h));have Oa:=zh (af.kept JO.out (w':=w4) (fun b hb=>hka.block b (JO.out.lt b hb).2 (TW b hb)));have yX:=zh (dE JX.out hka (hno _ hz'));have dH:=zh (az.below (JB.out.alloc (by omega) _) (by simp;omega) (fun b hb=>by have :=(JN.out.lt b hb).1;omega));have gN:=zh (af.eB hown2);have lF:=az.size;simp only[bF,mZ]at lF;obtain⟨Ob,Oc,hv4, -, -⟩:=af.val gN.o;subst hv4;have JC4:=zh (dE JC.out hka (af.dU JN.out JC.out (by decide)));have hl4:(st0++(argsAt (k:Int) (nn:Int)).take j++[(k:Int)+((j:Int)+1)]).length=st0.length+(j+1):=by rw[bA,hjl];rfl
           rw[hl4];clear hka hown2;go_roundw;case rel=>exact⟨j+1,by omega,by go_num,dH.o,yX.o,Oa.o,(by have :=gN.o;rw[hl4]at this;rw[hnext.out,<-Au];exact this),JC4.out,by omega⟩
           case measure=>simp[intOf];omega
          ·have dm:j=nn:=by omega
           have hall:=zh (show st0++(argsAt (k:Int) (nn:Int)).take j=st0++pushes k c by rw[hpe.out,dm,jU (by rw[kP.o];exact zL _)]);clear dm jn;go_wp2_with fail;go_roundw;case rel=>exact⟨m.set k true,st0++(argsAt (k:Int) (nn:Int)).take j,(by rw[hall.out];exact JS.o),JB.out,JX.out,JO.out,JN.out,by omega⟩
           case measure=>
            rw[DT.o,show zQ wr gb 0 h.cells.length=qh (m.set k true)by
             have hl:(m.set k true).length=h.cells.length:=by rw[vC];exact fP
             rw[<-hl];exact F7 _ 0 (fun i hi=>by rw[kL];exact fK.cells JO.out i hi)];have :=gZ.o;simp[sliceLen];omega
section
variable {base : Nat} {P : List Cl} {q g : Nat} {pv hc ht : Value} {o : Mo} {m : Mv} {w : World}
noncomputable def BC(m:Mv)(a b:Int):Option Bool×Mv:=if(gq m.h a b).2.2≠0 then(none,m.put 4)else(some (gq m.h a b).2.1,{m with h:=(gq m.h a b).1})
def BD:Option Bool->Value|none=> .tuple #[.bool false,.bool false]|some b=> .tuple #[.bool b,.bool true]
def ab8(base:Nat)(P:List Cl)(q g:Nat)(pv:Value)(o:Mo)(r:Option Bool×Mv)(w:World)(e:Ending)(w':World):Prop:=e= .returned (BD r.1)/\bJ base P q g pv o r.2 w w'
theorem bT.new(h:bT base P q g pv hc ht o m w){w':World}{x:Hp}{us:List Value}(hx:Hp.rep (fun b=>MA g o b\/New w b) w' x us):Hp.rep (MA g o) w' x us:=hx.mono fun b _ hb=>hb.elim id fun(hn:w.heap.size<=b)hm=>by have :=(h.qY b hm).2;omega
theorem bJ.below{m':Mv}{w' w'':World}(h:bJ base P q g pv o m' w w')(hb:Below w'.heap.size w' w''):bJ base P q g pv o m' w w'':=by obtain⟨c,t,o',h1,h2,h3⟩:=h;exact⟨c,t,o',h1.below hb,h2.trans (Ch.of_below hb) (fun b h=>h),h3⟩
theorem ab9(a b:Int)(ha:au a)(hb:au b)(h:bT base P q g pv hc ht o m w)(hsz:m.out.length+1<=20):Calls Tryz.prog 109 #[.pointer (some ⟨g,0,none⟩),.int .i64 a,.int .i64 b] w (ab8 base P q g pv o (BC m a b) w):=by
 have HU:=zh h;have Bz:=zh hsz;have gZ:=zh (aa3 m.h a b ha hb (MA g o) w _ h.heap);obtain⟨hl1,hl2⟩:=h.lt;obtain⟨b0,b1,b2,b3,b4,b5,b6,b7,b8,b9,bf⟩:=bP h.box;obtain⟨_,_,_,_,_,_,_,_,ha0,hac,hb0,hbc, -, -, -, -,rfl,rfl, -⟩:=h.vals;have hcs:=dz;clear h ha hb;go_enter Tryz.func109,Tryz.ntmps109;go_wp2_with fail;refine(gZ.o).mono ?_;rintro e w1⟨r,rfl,hb1,us,rfl,hx1⟩;have HB1:=zh hb1;have bR:=zh (HU.o.new hx1);have HE:=zh (show BC m a b=if(gq m.h a b).2.2≠0 then(none,m.put 4)else(some (gq m.h a b).2.1,{m with h:=(gq m.h a b).1})from rfl);obtain⟨xa,sO,xb,sP,rfl, -⟩:=Hp.kY hx1;generalize gq m.h a b=u at*;obtain⟨ux,uo,ue⟩:=u;clear hb1 hx1 gZ b0 b1 b2 b3 b4 b5 b6 b7 b8 b9 bf;have hz1:=HB1.o.size;have HB2:=zh (show Below w.heap.size w (w1.alloc (.cells #[.slice xa ux.cells.length sO,.slice xb ux.trail.length sP] 59))from HB1.o.alloc hz1 _);have bG:=zh (show Hp.rep (MA g o) (w1.alloc (.cells #[.slice xa ux.cells.length sO,.slice xb ux.trail.length sP] 59)) ux [.slice xa ux.cells.length sO,.slice xb ux.trail.length sP]from bR.o.keeps (ag.alloc _ _ _));have dJ:=zh (HU.o.below HB2.o);have HS2:=zh (fun(m':Mv)(w':World)(hh:bJ base P q g pv o m' (w1.alloc (.cells #[.slice xa ux.cells.length sO,.slice xb ux.trail.length sP] 59)) w')=>(bJ.trans (Ch.of_below HB2.o) (bU.refl _ _) hh:bJ base P q g pv o m' w w'));obtain⟨b0,b1,b2,b3,b4,b5,b6,b7,b8,b9,bf⟩:=bP (HU.o.below HB1.o).box;have hgl:g<w1.heap.size:=by omega
 have qU:g≠w1.heap.size:=by omega
 by_cases he:ue=0
 ·have hres:=zh (HE.o.trans (ae (dL he)));have hed:(ue != 0)=false:=by simpa using he
  clear he HE;go_wp2_with fail;go_ret2;rw[hres.o];have hst:=(HU.o.below HB1.o).setH bR.o;refine⟨rfl,bJ.trans (Ch.of_below HB1.o) (bU.refl _ _) (hst.below ?_)⟩;exact(zB _ _).alloc (zL _) _
 ·have hres:=zh (HE.o.trans (ah he));have hed:(ue != 0)=true:=by simpa using he
  clear he HE;go_wp2_with fail;refine(wI 4 (by unfold au;omega) dJ.o Bz.o).mono ?_;rintro e w3⟨rfl,hst⟩;have HST:=zh (HS2.o _ _ hst);clear hst;go_wp2_with fail;go_ret2;rw[hres.o];exact⟨rfl,HST.o⟩
theorem alR(n:Nat)(hn:n<=4)(W:World):(Instr.makeSlice 23 (.int .i64 (n:Int)) (.int .i64 (n:Int))).run Tryz.prog W= .ok (.slice (some ⟨W.heap.size,0,none⟩) n n) (W.alloc (.cells (madeCells #[.int .i64 0,.int .i64 0,.string .empty,.slice none 0 0] (n*4)) 34)):=by
 have ht:Tryz.prog.underlying 23=some (.slice 34):=Tryz.underlying23;have hi:(Tryz.prog.info? 34).map (fun i=>(i.zero,i.size,i.bytes))=some (some (.agg #[.int .i64 0,.int .i64 0,.string .empty,.slice none 0 0]),4,56):=by kernel_rfl
 obtain⟨i0,hi0,h1,h2,h3⟩:=info_parts hi;have hr:=run_make (P:=Tryz.prog) W 23 34 i0 _ ht hi0 h1 .i64 .i64 n n (by omega) (qA _) (by rw[h3];omega) (by omega);rw[hr];simp only[dB,h2];rfl
theorem alS(n:Nat)(hn:n<=4)(W:World):iP (fun _=>True) (W.alloc (.cells (madeCells #[.int .i64 0,.int .i64 0,.string .empty,.slice none 0 0] (n*4)) 34)) (List.replicate n xL) (.slice (some ⟨W.heap.size,0,none⟩) n n):=by
 refine⟨W.heap.size,0,⟨by simp;omega,?_⟩,fun i x hx=>?_⟩
 ·by_cases h0:n=0;·subst h0;exact .inl ⟨rfl,_,0,rfl,by simp[maxLen]⟩
  ·exact .inr ⟨by simp;omega,trivial,n,by simp,by simp,by unfold maxLen;omega⟩
 ·rw[P9]at hx;split at hx
  ·rename_i hi;obtain rfl:=zI hx;refine⟨[.int .i64 0,.int .i64 0,.string .empty,.slice none 0 0],rfl,?_,fun j u hu=>?_⟩;·exact BA _ _
   ·have hj:j<4:=by have :=(iO.1 hu).1;simpa using this
    have hsz:i*4+j<n*4:=by omega
    have hc:(madeCells #[.int .i64 0,.int .i64 0,.string .empty,.slice none 0 0] (n*4))[i*4+j]?=some u:=by
     unfold madeCells;rw[Array.getElem?_map,Array.getElem?_range,ah hsz];simp only[nV];have hm:(i*4+j)%4=j:=by omega
     show some (#[Value.int .i64 0,.int .i64 0,.string .empty,.slice none 0 0][(i*4+j)%4]!)=_;rw[hm];match j,hj with|0,_=>simpa using hu|1,_=>simpa using hu|2,_=>simpa using hu|3,_=>simpa using hu
    rw[kL];exact(dw (bV W _) (i*4+j)).trans hc
  ·cases hx
theorem alT(x:Gm)(hx:Inb m.h.cells x.at_)(hn0:0<=(cellAt m.h.cells x.at_).n)(rX:(cellAt m.h.cells x.at_).n<=4)(hs:(cellAt m.h.cells x.at_).s.size<=1048576)(h:bT base P q g pv hc ht o m w):Calls Tryz.prog 68 #[.pointer (some ⟨g,0,none⟩),.agg #[.int .i64 x.at_,.int .i64 (x.bar:Int),.int .i64 x.next]] w (fun e w'=>∃t,e= .returned (.bool t)/\Below w.heap.size w w'/\(t=true↔wD (cellAt m.h.cells x.at_))):=by
 have HU:=zh h;have HH:=zh (fun(W:World)(hb:Below w.heap.size w W)=>TE x hx (h.below hb));have hcs:=dz;obtain⟨n,hn⟩:=eu hn0;generalize cellAt m.h.cells x.at_=c at*;clear h hx;go_enter Tryz.func68,Tryz.ntmps68;go_wp2_with fail;obtain⟨W1,hW1⟩:∃W1,W1=w.alloc (.cells #[.int .i64 x.at_,.int .i64 (x.bar:Int),.int .i64 x.next] 117):=⟨_,rfl⟩;have HB1:=zh (show Below w.heap.size w W1 by rw[hW1];exact(zB _ _).alloc (zL _) _);rw[<-hW1];clear hW1;refine(HH.o W1 HB1.o).mono ?_;rintro e w2⟨rfl,hb2⟩;have HB2:=zh (HB1.o.trans (hb2.mono HB1.o.size));clear hb2;have hk:n<=4:=by omega
 have jh:=zh (alR n hk);have HN:=zh hn;have HS:=zh hs;have BF:=zh (fun(W:World)=>alS n hk W);have hz2:=HB2.o.size;rw[hn];have asF:(0:Int)<=(n:Int):=zN _;have hmk:=jh.o;clear hn hs hn0 rX hk;go_wp2_with fail;refine(Yu (.mk 0 0 c.s (List.replicate n xL)) (fun _=>True) _ [_,_,_,_] ?_).mono ?_;·rw[Tm.gT];exact⟨by unfold au;omega,by unfold au;omega,HS.o,_,rfl,BF.o w2⟩
 rintro e w3⟨r,rfl,hb3,t,rfl,hkn⟩;have HB3:=zh ((HB2.o.alloc hz2 _).trans (hb3.mono (by simp;omega)));have HK:=zh hkn;clear hb3 hkn;go_wp2_with fail;go_ret;refine⟨_,rfl,HB3.o,?_⟩;unfold wD;rw[HN.o,dB];exact HK.o
end
def aca(A:Nat->Prop)(x:Hp×Int)(r:Value)(w':World):Prop:=∃us,r= .tuple #[.agg us.toArray,.int .i64 x.2]/\Hp.rep A w' x.1 us
def wN(base:Nat)(E:TypeId)(z:Array Value):Value->World->Prop:=fun v w=>∃g,v= .pointer (some ⟨g,0,none⟩)/\base<=g/\w.heap[g]?=some (.cells z E (0,0))
theorem JU(base:Nat)(E:TypeId)(z:Array Value):vO (wN base E z):=fun v w w'⟨g,e,h1,h2⟩hb=>⟨g,e,h1,aL h2 hb⟩
def TZ(base:Nat)(l:List Ce)(t:Value):Value->World->Prop:=fun v w=>∃c,v= .agg #[c,t]/\iL w base l c
theorem alU(base:Nat)(l:List Ce)(t:Value):vO (TZ base l t):=fun v w w'⟨c,e,h⟩hb=>⟨c,e,af.below h hb⟩
theorem aj.drop{α:Type}{size:Nat}{R:(Nat->Prop)->World->α->List Value->Prop}{A:Nat->Prop}{w:World}{l:List α}{a:Option Addr}{len cap:Nat}(h:aj size R A w l (.slice a len cap)){k:Nat}(hk:k<=l.length):aj size R A w (l.drop k) (.slice (if cap=k then a else a.map fun x=>x.add (k*size)) (len - k) (cap - k)):=by
 obtain⟨b,off,hs,he⟩:=h;refine⟨b,off+k*size,?_,fun i x hx=>?_⟩
 ·obtain⟨h1,⟨h0,a',c',e,hc⟩|⟨h0,hA,c',e,hc,hm⟩⟩:=hs;·simp only[eX]at e;obtain⟨rfl,rfl,rfl⟩:=e;exact⟨by simp;omega,.inl ⟨by simp;omega,_,_,by rw[Nat.zero_sub],by omega⟩⟩
  ·simp only[eX]at e;obtain⟨rfl,rfl,rfl⟩:=e;by_cases hkl:k=l.length;·exact⟨by simp;omega,.inl ⟨by simp;omega,_,_,by rw[hkl,Nat.sub_self],by omega⟩⟩
   ·refine⟨by simp;omega,.inr ⟨by simp;omega,hA,cap - k,?_,by simp;omega,by omega⟩⟩;rw[ae (by omega),Av];simp[Addr.add]
 ·rw[List.getElem?_drop]at hx;obtain⟨vs,h1,h2,h3⟩:=he _ _ hx;exact⟨vs,h1,h2,by rw[show off+k*size+i*size=off+(k+i)*size by rw[nX];omega];exact h3⟩
theorem aj.take{α:Type}{size:Nat}{R:(Nat->Prop)->World->α->List Value->Prop}{A:Nat->Prop}{w:World}{l:List α}{a:Option Addr}{len cap:Nat}(h:aj size R A w l (.slice a len cap)){k:Nat}(hk:k<=l.length):aj size R A w (l.take k) (.slice a k cap):=by
 obtain⟨b,off,hs,he⟩:=h;have hl:(l.take k).length=k:=by rw[dS];omega
 refine⟨b,off,?_,fun i x hx=>?_⟩
 ·rw[hl];obtain⟨h1,⟨h0,a',c',e,hc⟩|⟨h0,hA,c',e,hc,hm⟩⟩:=hs;·simp only[eX]at e;obtain⟨rfl,rfl,rfl⟩:=e;exact⟨by omega,.inl ⟨by omega,_,_,by rw[show k=0 by omega],by omega⟩⟩
  ·simp only[eX]at e;obtain⟨rfl,rfl,rfl⟩:=e;by_cases hk0:k=0;·exact⟨by omega,.inl ⟨hk0,_,_,by rw[hk0],by omega⟩⟩
   ·exact⟨by omega,.inr ⟨by omega,hA,cap,rfl,by omega,by omega⟩⟩
 ·have h0:i<k:=by have :=(iO.1 hx).1;omega
  rw[vz h0]at hx;exact he _ _ hx
theorem alV(W:World)(a:Option Addr)(len cap m:Nat)(hm:m<=len):(Instr.slice 57 (.slice a len cap) (some (.int .i64 (m:Int))) none none).run Tryz.prog W= .ok (.slice (if cap=m then a else a.map fun x=>x.add (m*1)) (len - m) (cap - m)) W:=by
 have h0:(0:Int)<=(m:Int):=zN _;have h1:(m:Int)<=(len:Int):=by omega
 rw[Go.run_slice_l (P:=Tryz.prog) (w:=W) (t:=57) (a:=a) (len:=len) (cap:=cap) (ht:=by kernel_rfl) (kl:= .i64) (l:=(m:Int)) h0 h1];obtain⟨⟨i,z,ht,hi,hz,k1,k2,k3⟩, -⟩:=je;have e:Program.elem Tryz.prog 57=3:=by kernel_rfl
 simp[e,sizeOf,typeInfo,hi,k1,sliced]
theorem alW{l:List Ce}{vs us:List Int}{v:Nat}(hv:v<(gK l vs).length)(nY:∀x,x∈us↔x∈vs\/x=(v:Int)):(gK l vs).set v {(gK l vs)[v]with n:=(v:Int)}=gK l us:=by
 rw[<-ahc l vs v (by omega) us nY];apply lV (by simp);intro i h1 h2;simp only[dB,Cv,Qe];split;·rename_i e;subst e;rfl
 ·rfl
theorem alX(h:Hp)(n:Int)(hn:au n)(A:Nat->Prop)(w:World)(vs:List Value)(hh:Hp.rep A w h vs):Calls Tryz.prog 105 #[.agg vs.toArray,.int .i64 n] w (Pure w (aca (fun b=>A b\/New w b) (oO h n))):=by
 obtain⟨va,cap,vb,aN,rfl,hc1,hc2,hc3,ht1,ht2,ht3,hc,ht⟩:=Hp.kY hh;have HH:=zh hh;have HC:=zh hc;have HT:=zh ht;have lZ:=zh (fun w'(hk:ag A w w')=>AQ h A w' _ (Hp.rep.keeps hh hk));clear hh hc ht;go_enter Tryz.func105,Tryz.ntmps105;go_wp2_with fail;refine(lZ.o _ ((ag.alloc _ _ _).trans (ag.alloc _ _ _))).mono ?_;rintro e w1⟨v,rfl,hb1,t,rfl,ht⟩;have h2:=mG w (.cells #[.slice va h.cells.length cap,.slice vb h.trail.length aN] 59) (.cells #[.slice none 0 0,.slice none 0 0] 59);have bR:=zh (aL h2.1 hb1);have bG:=zh (aL h2.2 hb1);have HB:=zh (show Below w.heap.size w w1 from gU (gU (hb1.mono (by simp))));have hz:w.heap.size+1<w1.heap.size:=by have :=hb1.size;simp at this;omega
 have hz':w.heap.size<w1.heap.size:=by omega
 have kC:=zh ht;have hcs:=dz;clear h2 hb1 ht;obtain⟨x0,x1,xf⟩:=bM bR.o;obtain⟨y0,y1,yf⟩:=bM bG.o;cases t with
  |false=>
   have hg:¬h.Good:=fun hg=>by have :=kC.o.2 hg;cases this
   go_wp2_with fail;refine cK (v:= .tuple #[.agg #[.slice va h.cells.length cap,.slice vb h.trail.length aN],.int .i64 1]) (by simp[results,Tryz.results105,go_sem,hcs,x0,x1,y0,y1]) rfl ?_;have hb:Below w.heap.size w ((w1.setCell ⟨w.heap.size+1,0,none⟩ (.slice va h.cells.length cap)).setCell ⟨w.heap.size+1,1,none⟩ (.slice vb h.trail.length aN)):=bH (bH HB.o (by simp) _) (by simp) _;rw[oO,ah hg];exact Pure.mk hb ⟨_,rfl,Hp.rep.mono (Hp.rep.keeps HH.o (ag.ob hb)) (fun _ _ h=> .inl h)⟩
  |true=>
   have HG:=zh (kC.o.1 rfl);have uL:=zh HG.o.2.2.1;have HL2:=zh HG.o.2.2.2;clear kC;by_cases hin:0<=n/\n<=(h.trail.length:Int);case neg=>have gW:=zh hin;have hin':¬(0<=n/\n<=(h.trail.length:Int)):=hin;clear hin;go_wp2_with fail;all_goals first|(exfalso;omega)|(refine cK (v:= .tuple #[.agg #[.slice va h.cells.length cap,.slice vb h.trail.length aN],.int .i64 2]) (by simp[results,Tryz.results105,go_sem,hcs,x0,x1,y0,y1]) rfl ?_;have hb:Below w.heap.size w ((w1.setCell ⟨w.heap.size+1,0,none⟩ (.slice va h.cells.length cap)).setCell ⟨w.heap.size+1,1,none⟩ (.slice vb h.trail.length aN)):=bH (bH HB.o (by simp) _) (by simp) _;rw[oO,ae (dL HG.o),ah gW.o];exact Pure.mk hb ⟨_,rfl,Hp.rep.mono (Hp.rep.keeps HH.o (ag.ob hb)) (fun _ _ h=> .inl h)⟩)|go_ways
   case pos=>
    have gW:=zh hin;obtain⟨i0,i1⟩:=hin;obtain⟨m,rfl⟩:=eu i0;have hm:m<=h.trail.length:=by omega
    have HDR:=zh (aj.drop HT.o hm);obtain⟨sa,hsa⟩:∃sa,sa=(if aN=m then vb else vb.map fun x=>x.add (m*1)):=⟨_,rfl⟩;rw[<-hsa]at HDR;have HSA:=zh hsa;have hdl:(h.trail.drop m).length=h.trail.length - m:=Av;obtain⟨_,_,db,asG,e, -, -, -,hda,hde⟩:=aj.at HDR.o;simp only[eX]at e;obtain⟨rfl, -,rfl⟩:=e;have HDA:=zh hda;have HDE:=zh hde;have qS:∀W:World,(Instr.slice 57 (.slice vb h.trail.length aN) (some (.int .i64 (m:Int))) none none).run Tryz.prog W= .ok (.slice sa (h.trail.length - m) (aN - m)) W:=fun W=>by rw[HSA.o];exact alV W vb h.trail.length aN m hm
    have hmt:(m:Int)<=(h.trail.length:Int):=by omega
    clear hsa hda hde;go_wp2_with fail;all_goals first|(exfalso;omega)|skip
    refine(Ms h.cells A _ _ (aj.keeps Ce.aA HC.o (ag.ob HB.o))).mono ?_;rintro e w2⟨v,rfl,hb2,hown⟩;obtain⟨ca,cc,rfl,hcl,hcm⟩:=iL.j5 hown;have nO:=zh (aL bR.o hb2);have uO:=zh (aL bG.o hb2);have HB2:=zh (show Below w.heap.size w w2 from HB.o.trans (hb2.mono (by omega)));have hz2:w1.heap.size<=w2.heap.size:=hb2.size;have hz3:w.heap.size<w2.heap.size:=by omega
    have HO:=zh hown;clear hown hb2 x0 x1 xf y0 y1 yf;obtain⟨x0,x1,xf⟩:=bM nO.o;go_wp2_with fail;clear x0 x1 xf;go_loopw[31](fun i wr=>∃j:Nat,j<=h.trail.length - m/\i= .int .i64 j/\Below w.heap.size w wr/\wr.heap[w.heap.size]?=some (.cells #[.slice va h.cells.length cap,.slice vb h.trail.length aN] 59)/\wr.heap[w.heap.size+1]?=some (.cells #[.slice none 0 0,.slice none 0 0] 59)/\iL wr w1.heap.size (gK h.cells ((h.trail.drop m).take j)) (.slice ca h.cells.length cc))(fun i _=>h.trail.length - m - (intOf i).toNat);case atStart=>exact⟨0,dD _,rfl,HB2.o,nO.o,uO.o,by rw[ng,Yn];exact HO.o⟩
    case round=>
     obtain⟨j,hj,rfl,hib,hi1,hi2,vN⟩:=hrel;have qR:=zh hib;have HI1:=zh hi1;have HI2:=zh hi2;have CQ:=zh vN;have zR:w.heap.size+1<wr.heap.size:=aD hi2;by_cases hlt:j<h.trail.length - m
     ·have hjd:j<(h.trail.drop m).length:=by rw[hdl];exact hlt
      obtain⟨rfl,hAd⟩:=HDA.o (by omega);obtain⟨c0,ci⟩:=AO HDE.o hAd (ag.ob hib) hjd;obtain⟨v,hv,hvl,hvk⟩:=HG.o.2.1 (m+j) (by omega);rw[List.getElem_drop,hv]at c0;have S9:(gK h.cells ((h.trail.drop m).take j)).length=h.cells.length:=rP _ _;obtain⟨cb,rfl,bX,d0,d1,d2,hok,hfz,hcb,al2⟩:=iL.cell (show iL wr w1.heap.size (gK h.cells ((h.trail.drop m).take j)) (.slice ca (gK h.cells ((h.trail.drop m).take j)).length cc)by rw[S9];exact vN) (i:=v) (by rw[S9];exact hvl);have gV:=zh bX;have yZ:=zh hok;have HV:=zh hv;have hv0:(0:Int)<=(v:Int):=zN _;have hv1:(v:Int)<(h.cells.length:Int):=by omega
      have hj1:(j:Int)<((h.trail.length - m:Nat):Int):=by omega
      have hj0:(0:Int)<=(j:Int):=zN _;clear hib hi1 hi2 vN bX hok hv hdl;go_wp2_with fail;go_roundw;case rel=>
       refine⟨j+1,by omega,by go_num,bH qR.o (by simp only;omega) _,?_,?_,?_⟩;·rw[bC _ _ _ _ (by simp;omega)];exact HI1.o
       ·rw[bC _ _ _ _ (by simp;omega)];exact HI2.o
       ·rw[<-alW (vs:=(h.trail.drop m).take j) (v:=v) (by rw[rP];exact hvl) (fun x=>by rw[fF hjd,gy,iF,List.getElem_drop,HV.o])];exact af.set Ce.jD CQ.o gV.o (by rw[rP];exact hvl) (by omega) rfl ⟨yZ.o.1,by unfold au;simp only;omega,yZ.o.2.2⟩
      case measure=>simp[intOf];omega
     ·have dm:j=h.trail.length - m:=by omega
      obtain⟨x0,x1,xf⟩:=bM hi1;obtain⟨y0,y1,yf⟩:=bM hi2;have fB:=zh (aj.take HT.o hm);clear hib hi1 hi2 vN;go_wp2_with fail;refine(Rh (h.trail.take m) A _ _ (aj.keeps aQ fB.o (ag.ob qR.o))).mono ?_;rintro e w4⟨v,rfl,hb4,hown⟩;obtain⟨na,nc,hnv,hnl,hnm⟩:=af.val hown;rw[show(h.trail.take m).length=m by rw[dS];omega]at hnv;subst hnv;have Rj:=zh (aL HI2.o hb4);have dH:=zh (show Below w.heap.size w w4 from qR.o.trans (hb4.mono (by omega)));have HN:=zh hown;have j6:=zh (af.below CQ.o hb4);have lF:wr.heap.size<=w4.heap.size:=hb4.size;clear hown hb4 x0 x1 xf y0 y1 yf;obtain⟨y0,y1,yf⟩:=bM Rj.o;go_wp2_with fail;refine cK (v:= .tuple #[.agg #[.slice ca h.cells.length cc,.slice na m nc],.int .i64 0]) (by simp[results,Tryz.results105,go_sem,hcs,y0,y1]) rfl ?_;have hb:Below w.heap.size w ((w4.setCell ⟨w.heap.size+1,0,none⟩ (.slice ca h.cells.length cc)).setCell ⟨w.heap.size+1,1,none⟩ (.slice na m nc)):=bH (bH dH.o (by simp) _) (by simp) _;rw[oO,ae (dL HG.o),ae (dL gW.o),dB];refine Pure.mk hb ⟨_,rfl,_,_,rfl,?_,?_⟩;·have h6:=j6.o;rw[dm,jU (by rw[hdl];exact zL _)]at h6;have h7:=af.sl (A:=fun b=>A b\/New w b) Ce.jD Ce.yR (af.kept h6 (w':=(w4.setCell ⟨w.heap.size+1,0,none⟩ (.slice ca h.cells.length cc)).setCell ⟨w.heap.size+1,1,none⟩ (.slice na m nc)) fun k hk=>by have :=(h6.lt k hk).1;rw[bC _ _ _ _ (by simp;omega),bC _ _ _ _ (by simp;omega)]) (by rw[rP];omega) (fun k hk=> .inr (by have :=(h6.lt k hk).1;unfold New;omega));exact h7
      ·have h6:=HN.o;have h7:=af.sl (A:=fun b=>A b\/New w b) dO xx (af.kept h6 (w':=(w4.setCell ⟨w.heap.size+1,0,none⟩ (.slice ca h.cells.length cc)).setCell ⟨w.heap.size+1,1,none⟩ (.slice na m nc)) fun k hk=>by have :=(h6.lt k hk).1;rw[bC _ _ _ _ (by simp;omega),bC _ _ _ _ (by simp;omega)]) (by rw[dS];omega) (fun k hk=> .inr (by have :=(h6.lt k hk).1;unfold New;omega));exact h7
theorem al3(h:Hp)(n:Int)(hn:au n)(A:Nat->Prop)(w:World)(vs:List Value)(hh:Hp.rep A w h vs):Calls Tryz.prog 106 #[.agg vs.toArray,.int .i64 n] w (Pure w (aca (fun b=>A b\/New w b) (oP h n))):=by
 obtain⟨va,cap,vb,aN,rfl,hc1,hc2,hc3,ht1,ht2,ht3,hc,ht⟩:=Hp.kY hh;have HH:=zh hh;have HC:=zh hc;have HT:=zh ht;have lZ:=zh (fun w'(hk:ag A w w')=>AQ h A w' _ (Hp.rep.keeps hh hk));clear hh hc ht;go_enter Tryz.func106,Tryz.ntmps106;go_wp2_with fail;refine(lZ.o _ ((ag.alloc _ _ _).trans (ag.alloc _ _ _))).mono ?_;rintro e w1⟨v,rfl,hb1,t,rfl,ht⟩;have h2:=mG w (.cells #[.slice va h.cells.length cap,.slice vb h.trail.length aN] 59) (.cells #[.slice none 0 0,.slice none 0 0] 59);have bR:=zh (aL h2.1 hb1);have bG:=zh (aL h2.2 hb1);have HB:=zh (show Below w.heap.size w w1 from gU (gU (hb1.mono (by simp))));have hz:w.heap.size+1<w1.heap.size:=by have :=hb1.size;simp at this;omega
 have hz':w.heap.size<w1.heap.size:=by omega
 have kC:=zh ht;have hcs:=dz;clear h2 hb1 ht;obtain⟨x0,x1,xf⟩:=bM bR.o;obtain⟨y0,y1,yf⟩:=bM bG.o;cases t with
  |false=>
   have hg:¬h.Good:=fun hg=>by have :=kC.o.2 hg;cases this
   go_wp2_with fail;refine cK (v:= .tuple #[.agg #[.slice va h.cells.length cap,.slice vb h.trail.length aN],.int .i64 1]) (by simp[results,Tryz.results106,go_sem,hcs,x0,x1,y0,y1]) rfl ?_;have hb:Below w.heap.size w ((w1.setCell ⟨w.heap.size+1,0,none⟩ (.slice va h.cells.length cap)).setCell ⟨w.heap.size+1,1,none⟩ (.slice vb h.trail.length aN)):=bH (bH HB.o (by simp) _) (by simp) _;rw[oP,ah hg];exact Pure.mk hb ⟨_,rfl,Hp.rep.mono (Hp.rep.keeps HH.o (ag.ob hb)) (fun _ _ h=> .inl h)⟩
  |true=>
   have HG:=zh (kC.o.1 rfl);have uL:=zh HG.o.2.2.1;have HL2:=zh HG.o.2.2.2;clear kC;by_cases hin:0<=n/\n<=(h.cells.length:Int);case neg=>have gW:=zh hin;have hin':¬(0<=n/\n<=(h.cells.length:Int)):=hin;clear hin;go_wp2_with fail;all_goals first|(exfalso;omega)|(refine cK (v:= .tuple #[.agg #[.slice va h.cells.length cap,.slice vb h.trail.length aN],.int .i64 2]) (by simp[results,Tryz.results106,go_sem,hcs,x0,x1,y0,y1]) rfl ?_;have hb:Below w.heap.size w ((w1.setCell ⟨w.heap.size+1,0,none⟩ (.slice va h.cells.length cap)).setCell ⟨w.heap.size+1,1,none⟩ (.slice vb h.trail.length aN)):=bH (bH HB.o (by simp) _) (by simp) _;rw[oP,ae (dL HG.o),ah gW.o];exact Pure.mk hb ⟨_,rfl,Hp.rep.mono (Hp.rep.keeps HH.o (ag.ob hb)) (fun _ _ h=> .inl h)⟩)|go_ways
   case pos=>
    have gW:=zh hin;obtain⟨i0,i1⟩:=hin;obtain⟨m,rfl⟩:=eu i0;have hm:m<=h.cells.length:=by omega
    go_wp2_with fail;all_goals first|(exfalso;omega)|skip
    obtain⟨W0,rfl⟩:∃z,z=w1:=⟨_,rfl⟩;have gp:Hd (∀w',Below W0.heap.size W0 w'->Below w.heap.size w w'/\w'.cell? ⟨w.heap.size,0,none⟩=some (.slice va h.cells.length cap)/\w'.cell? ⟨w.heap.size,1,none⟩=some (.slice vb h.trail.length aN)):=zh fun w' hb=>by have h1:=aL bR.o hb;obtain⟨z0,z1, -⟩:=bM h1;exact⟨HB.o.trans (hb.mono (by omega)),z0,z1⟩
    refine Me 9 (Inv:=fun w'=>Below W0.heap.size W0 w') (Po:=posts [bq (.pointer (some ⟨w.heap.size,0,none⟩)),bq (.slice va h.cells.length cap),bq (.int .i64 (m:Int)),bq (.slice va m cap),II W0.heap.size (h.cells.take m),bq (.pointer (some ⟨w.heap.size,1,none⟩)),bq (.slice vb h.trail.length aN),TZ W0.heap.size (h.cells.take m) (.slice vb h.trail.length aN),wN W0.heap.size 59 #[.slice none 0 0,.slice none 0 0]]) (Rl:=fun w w'=>Below w.heap.size w w') (by kernel_rfl) (by kernel_rfl) (by kernel_rfl) (by kernel_rfl) ((zB _ _).drew) ?_ ?_ ?_ ?_;·refine Bc fun R hR=>?_;simp only[iG,yC,vD]at hR;rcases hR with rfl|rfl|rfl|rfl|rfl|rfl|rfl|rfl|rfl<;>first|exact Ba _|exact FI|exact FJ _|exact FK _|exact FL _|exact FM _|exact FN _|exact FO _|exact FP _|exact CR _ _|exact Bb _ _|exact alU _ _ _|exact JU _ _ _
    ·exact fun w1 w2 h h'=>h.trans (h'.mono h.size)
    ·intro i o ho f ac ww hinv hpo hdst hold;match i,ho with
      |0,ho=>obtain rfl:_=o:=zI ho;have t2:=hold 2 (by kernel_rfl);refine Or.inl ⟨aR rfl,?_⟩;clear hdst hpo hold ho hinv;unfold aP;go_simp;exact⟨rfl,zB _ _⟩
      |1,ho=>obtain rfl:_=o:=zI ho;have t21:=hdst 0 21 (by kernel_rfl) (by kernel_rfl);have p0:=hpo 0 (by kernel_rfl);refine Or.inl ⟨aR rfl,?_⟩;clear hdst hpo hold ho;rw[show f 0=_ from p0]at t21;obtain⟨-,x0,x1⟩:=gp.o ww hinv;unfold aP;go_simp;exact⟨rfl,zB _ _⟩
      |2,ho=>obtain rfl:_=o:=zI ho;have t1:=hold 1 (by kernel_rfl);refine Or.inl ⟨aR rfl,?_⟩;clear hdst hpo hold ho hinv;unfold aP;go_simp;exact⟨rfl,zB _ _⟩
      |3,ho=>
       obtain rfl:_=o:=zI ho;have t22:=hdst 1 22 (by kernel_rfl) (by kernel_rfl);have p1:=hpo 1 (by kernel_rfl);have t23:=hdst 2 23 (by kernel_rfl) (by kernel_rfl);have p2:=hpo 2 (by kernel_rfl);refine Or.inl ⟨aR rfl,?_⟩;clear hdst hpo hold ho;rw[show f 1=_ from p1]at t22;rw[show f 2=_ from p2]at t23;clear hinv;have hmc:m<=cap:=by omega
       unfold aP;go_simp;exact⟨rfl,zB _ _⟩
      |4,ho=>obtain rfl:_=o:=zI ho;have t24:=hdst 3 24 (by kernel_rfl) (by kernel_rfl);have p3:=hpo 3 (by kernel_rfl);refine Or.inl ⟨aR rfl,?_⟩;clear hdst hpo hold ho;rw[show f 3=_ from p3]at t24;unfold aP;go_simp;refine(Ms (h.cells.take m) A _ _ (aj.keeps Ce.aA (aj.take HC.o hm) (ag.ob (gp.o ww hinv).1))).mono ?_;rintro e w1⟨v,rfl,hb,hown⟩;exact⟨_,rfl,af.pK hown (fun k hk=>by have :=(hown.lt k hk).1;have :=hinv.size;omega),hb⟩
      |5,ho=>obtain rfl:_=o:=zI ho;have t2:=hold 2 (by kernel_rfl);refine Or.inl ⟨aR rfl,?_⟩;clear hdst hpo hold ho hinv;unfold aP;go_simp;exact⟨rfl,zB _ _⟩
      |6,ho=>obtain rfl:_=o:=zI ho;have t26:=hdst 5 26 (by kernel_rfl) (by kernel_rfl);have p5:=hpo 5 (by kernel_rfl);refine Or.inl ⟨aR rfl,?_⟩;clear hdst hpo hold ho;rw[show f 5=_ from p5]at t26;obtain⟨-,x0,x1⟩:=gp.o ww hinv;unfold aP;go_simp;exact⟨rfl,zB _ _⟩
      |7,ho=>
       obtain rfl:_=o:=zI ho;have t25:=hdst 4 25 (by kernel_rfl) (by kernel_rfl);have p4:(II W0.heap.size (h.cells.take m)) (f 4) ww:=hpo 4 (by kernel_rfl);have t27:=hdst 6 27 (by kernel_rfl) (by kernel_rfl);have p6:=hpo 6 (by kernel_rfl);refine Or.inl ⟨aR rfl,?_⟩;clear hdst hpo hold ho;rw[show f 6=_ from p6]at t27;clear hinv;obtain⟨fa,fc,hf, -, -⟩:=af.val p4;have hlt:(h.cells.take m).length=m:=by rw[dS];omega
       rw[hf,hlt]at t25;have p4':iL ww W0.heap.size (h.cells.take m) (.slice fa m fc):=by rw[hf,hlt]at p4;exact p4
       unfold aP;go_simp;exact⟨⟨_,rfl,p4'⟩,zB _ _⟩
      |8,ho=>obtain rfl:_=o:=zI ho;refine Or.inl ⟨aR rfl,?_⟩;clear hdst hpo hold ho;unfold aP;go_simp;exact⟨⟨_,rfl,hinv.size,bV _ _⟩,(zB _ _).alloc (zL _) _⟩
      |i+9,ho=>simp at ho
    ·intro f ww hinv hpo;have p7:(TZ W0.heap.size (h.cells.take m) (.slice vb h.trail.length aN)) (f 7) ww:=hpo 7 (by decide);have p8:(wN W0.heap.size 59 #[.slice none 0 0,.slice none 0 0]) (f 8) ww:=hpo 8 (by decide);obtain⟨cv,e7,hown⟩:=p7;obtain⟨g,e8,hg8,JV⟩:=p8;obtain⟨ca,cc,hcv,hcl,hcm⟩:=af.val hown;rw[show(h.cells.take m).length=m by rw[dS];omega]at hcv hcl;subst hcv;simp only[jv,yA,ng,Co,Aq,Cu];rw[e7,e8];have hB:=gp.o ww hinv;have HB1:=zh hB.1;have HO:=zh hown;have sQ:=zh JV;have F9:=zh (aL bR.o hinv);have DW:=zh (aL bG.o hinv);obtain⟨z0,z1,zf⟩:=bM JV;have hgw:g<ww.heap.size:=aD JV;have oI:=af.dU hown JV (by decide);clear hinv hpo hB JV hown e7 e8 x0 x1 xf y0 y1 yf;refine CL (i:=9) (by kernel_rfl) (aF rfl (by rfl) ?_);go_simp;refine LF (by kernel_rfl) ?_ _;have hkeep:∀k,k≠g->((ww.setCell ⟨g,0,none⟩ (.slice ca m cc)).setCell ⟨g,1,none⟩ (.slice vb h.trail.length aN)).heap[k]?=ww.heap[k]?:=fun k hk=>by rw[bC _ _ _ _ hk,bC _ _ _ _ hk]
     have hgb:w.heap.size+2<=W0.heap.size:=by omega
     have Od:=zh (show Below w.heap.size w ((ww.setCell ⟨g,0,none⟩ (.slice ca m cc)).setCell ⟨g,1,none⟩ (.slice vb h.trail.length aN))from bH (bH HB1.o (by simp only;omega) _) (by simp only;omega) _);have acf:=zh ((hkeep _ (by omega)).trans F9.o);have acg:=zh ((hkeep _ (by omega)).trans DW.o);have T9:Hd (((ww.setCell ⟨g,0,none⟩ (.slice ca m cc)).setCell ⟨g,1,none⟩ (.slice vb h.trail.length aN)).heap[g]?=some (.cells #[.slice ca m cc,.slice vb h.trail.length aN] 59 (0,0))):=zh ((bI (bI sQ.o 0 _) 1 _).trans rfl);have Ga:=zh (af.kept HO.o (w':=(ww.setCell ⟨g,0,none⟩ (.slice ca m cc)).setCell ⟨g,1,none⟩ (.slice vb h.trail.length aN)) (fun k hk=>hkeep k (fun e=>oI (hk.trans (congrArg some e)))));clear hkeep z0 z1 zf;generalize(ww.setCell ⟨g,0,none⟩ (.slice ca m cc)).setCell ⟨g,1,none⟩ (.slice vb h.trail.length aN)=WS at Od acf acg T9 Ga ⊢;have HRF:Hd (Hp.rep (fun b=>A b\/New w b) WS ⟨h.cells.take m,h.trail⟩ [.slice ca m cc,.slice vb h.trail.length aN]):=zh ⟨_,_,rfl,af.sl Ce.jD Ce.yR Ga.o (by rw[dS];omega) (fun k hk=> .inr (by have :=(Ga.o.lt k hk).1;unfold New;omega)),aj.mono aQ (by omega) (aj.keeps aQ HT.o (ag.ob Od.o)) (fun _ _ h=> .inl h)⟩;obtain⟨z0,z1,zf⟩:=bM T9.o;go_wp2_with fail;refine(AQ ⟨h.cells.take m,h.trail⟩ _ _ [_,_] HRF.o).mono ?_;rintro e w3⟨v,rfl,hb3,t,rfl,ht⟩;have zO:=zh (aL acf.o hb3);have TL:=zh (aL acg.o hb3);have al5:=zh (aL T9.o hb3);have HB3:=zh (Od.o.trans (hb3.mono Od.o.size));have HR3:=zh (Hp.rep.below HRF.o hb3);have kC:=zh ht;have sS:=zh (af.below Ga.o hb3);have hcs:=dz;clear hb3 ht z0 z1 zf;obtain⟨x0,x1,xf⟩:=bM zO.o;obtain⟨y0,y1,yf⟩:=bM TL.o;obtain⟨z0,z1,zf⟩:=bM al5.o;cases t with
      |false=>
       have hg:¬Hp.Good ⟨h.cells.take m,h.trail⟩:=fun hg=>by have :=kC.o.2 hg;cases this
       go_wp2_with fail;refine cK (v:= .tuple #[.agg #[.slice va h.cells.length cap,.slice vb h.trail.length aN],.int .i64 1]) (by simp[results,Tryz.results106,go_sem,hcs,x0,x1,y0,y1]) rfl ?_;have hb:Below w.heap.size w ((w3.setCell ⟨w.heap.size+1,0,none⟩ (.slice va h.cells.length cap)).setCell ⟨w.heap.size+1,1,none⟩ (.slice vb h.trail.length aN)):=bH (bH HB3.o (by simp) _) (by simp) _;rw[oP,ae (dL HG.o),ae (dL gW.o),dB,ah hg];exact Pure.mk hb ⟨_,rfl,Hp.rep.mono (Hp.rep.keeps HH.o (ag.ob hb)) (fun _ _ h=> .inl h)⟩
      |true=>
       have zm:=zh (kC.o.1 rfl);go_wp2_with fail;refine cK (v:= .tuple #[.agg #[.slice ca m cc,.slice vb h.trail.length aN],.int .i64 0]) (by simp[results,Tryz.results106,go_sem,hcs,y0,y1]) rfl ?_;have hb:Below w.heap.size w ((w3.setCell ⟨w.heap.size+1,0,none⟩ (.slice ca m cc)).setCell ⟨w.heap.size+1,1,none⟩ (.slice vb h.trail.length aN)):=bH (bH HB3.o (by simp) _) (by simp) _;rw[oP,ae (dL HG.o),ae (dL gW.o),dB,ae (dL zm.o)];refine Pure.mk hb ⟨_,rfl,_,_,rfl,?_,?_⟩;·have h6:=sS.o;exact af.sl (A:=fun b=>A b\/New w b) Ce.jD Ce.yR (af.kept h6 fun k hk=>by have :=(h6.lt k hk).1;rw[bC _ _ _ _ (by simp;omega),bC _ _ _ _ (by simp;omega)]) (by rw[dS];omega) (fun k hk=> .inr (by have :=(h6.lt k hk).1;unfold New;omega))
       ·exact aj.mono aQ (by omega) (aj.keeps aQ HT.o (ag.ob hb)) (fun _ _ h=> .inl h)
section
variable {base : Nat} {P : List Cl} {q g : Nat} {pv hc ht : Value} {o : Mo} {m : Mv} {w : World}
theorem aci(a:Int)(ha:au a)(hl:0<=look m.h.cells a)(h:bT base P q g pv hc ht o m w):Calls Tryz.prog 110 #[.pointer (some ⟨g,0,none⟩),.int .i64 a] w (fun e w'=>e= .returned (.tuple #[.int .i64 (cellAt m.h.cells (look m.h.cells a)).n,.bool (decide ((cellAt m.h.cells (look m.h.cells a)).kind=2))])/\Below w.heap.size w w'):=by
 have HU:=zh h;have Gb:=zh (fun(W:World)(hb:Below w.heap.size w W)=>look_ok m.h a ha (MA g o) W _ (h.heap.below hb));obtain⟨hl1,hl2⟩:=h.lt;obtain⟨b0,b1,b2,b3,b4,b5,b6,b7,b8,b9,bf⟩:=bP h.box;obtain⟨_,_,_,_,_,_,_,_,ha0,hac,hb0,hbc, -, -, -, -,rfl,rfl, -⟩:=h.vals;obtain⟨k,hka,hkl,hce⟩:=mJ (H7 hl).1;rw[hce];obtain⟨c,t,e0,wJ, -⟩:=h.heap;simp only[Ex,ug]at e0;obtain⟨rfl,rfl⟩:=e0;obtain⟨_,_,hb1,hoff,e9,TF,F4,hh3,xY,xZ⟩:=aj.at wJ;simp only[eX,fH]at e9;obtain⟨rfl,rfl⟩:=e9;obtain⟨rfl,cO⟩:=xY (by omega);have gp:=zh (fun(W:World)(hb:Below w.heap.size w W)=>(show W.cell? ⟨g,1,none⟩=some (.slice (some ⟨hb1,hoff,none⟩) m.h.cells.length hac)/\W.cell? ⟨g,2,none⟩=some (.slice hb0 m.h.trail.length hbc)/\W.cell? ⟨hb1,hoff+k*3,none⟩=some (.int .i64 (m.h.cells[k]).kind)/\W.cell? ⟨hb1,hoff+k*3+1,none⟩=some (.int .i64 (m.h.cells[k]).n)/\W.cell? ⟨hb1,hoff+k*3+2,none⟩=some (.string (m.h.cells[k]).s)/\hb1<W.heap.size from by obtain⟨c0,c1,c2, -⟩:=vG xZ cO (ag.ob hb) hkl;exact⟨bc hb b1,bc hb b2,c0,c1,c2,mX W _ c0⟩));have al6:=zh (fun(W:World)(hb:Below w.heap.size w W)=>(Gb.o W hb).mono (R':=fun e w1=>e= .returned (.int .i64 (k:Int))/\Below W.heap.size W w1/\True) (by rintro e w1⟨v,rfl,hbb,hv⟩;refine⟨?_,hbb,trivial⟩;rw[show v= .int .i64 (look m.h.cells a)from hv,hka]));have hk0:(0:Int)<=(k:Int):=zN _;have hk1:(k:Int)<(m.h.cells.length:Int):=by omega
 unfold maxLen at F4;clear h wJ xY xZ hce hl hka Gb b0 b1 b2 b3 b4 b5 b6 b7 b8 b9 bf;go_enter Tryz.func110,Tryz.ntmps110;go_wp2_with fail;refine Me 14 (Inv:=fun w'=>Below w.heap.size w w') (Po:=posts [bq (.pointer (some ⟨g,0,none⟩)),bq (.pointer (some ⟨g,0,none⟩)),bq (.pointer (some ⟨g,1,none⟩)),bq (.pointer (some ⟨g,1,none⟩)),bq (.slice (some ⟨hb1,hoff,none⟩) m.h.cells.length hac),bq (.pointer (some ⟨g,0,none⟩)),bq (.pointer (some ⟨g,0,none⟩)),bq (.pointer (some ⟨g,1,none⟩)),bq (.agg #[.slice (some ⟨hb1,hoff,none⟩) m.h.cells.length hac,.slice hb0 m.h.trail.length hbc]),bq (.int .i64 a),bq (.int .i64 (k:Int)),bq (.pointer (some ⟨hb1,hoff+k*3,none⟩)),bq (.agg #[.int .i64 (m.h.cells[k]).kind,.int .i64 (m.h.cells[k]).n,.string (m.h.cells[k]).s]),wN w.heap.size 112 #[.int .i64 0,.int .i64 0,.string .empty]]) (Rl:=fun w w'=>Below w.heap.size w w') (by kernel_rfl) (by kernel_rfl) (by kernel_rfl) (by kernel_rfl) ((zB _ _).drew) ?_ ?_ ?_ ?_;·refine Bc fun R hR=>?_;simp only[iG,yC,vD]at hR;rcases hR with rfl|rfl|rfl|rfl|rfl|rfl|rfl|rfl|rfl|rfl|rfl|rfl|rfl|rfl<;>first|exact Ba _|exact FI|exact FJ _|exact FK _|exact FL _|exact FM _|exact FN _|exact FO _|exact FP _|exact CR _ _|exact Bb _ _|exact JU _ _ _
 ·exact fun w1 w2 h h'=>h.trans (h'.mono h.size)
 ·intro i o ho f ac ww hinv hpo hdst hold;match i,ho with|0,ho=>obtain rfl:_=o:=zI ho;have t0:=hold 0 (by kernel_rfl);refine Or.inl ⟨aR rfl,?_⟩;clear hdst hpo hold ho hinv;unfold aP;go_simp;exact⟨rfl,zB _ _⟩|1,ho=>obtain rfl:_=o:=zI ho;have t7:=hdst 0 7 (by kernel_rfl) (by kernel_rfl);have p0:=hpo 0 (by kernel_rfl);refine Or.inl ⟨aR rfl,?_⟩;clear hdst hpo hold ho;rw[show f 0=_ from p0]at t7;clear hinv;unfold aP;go_simp;exact⟨rfl,zB _ _⟩|2,ho=>obtain rfl:_=o:=zI ho;have t8:=hdst 1 8 (by kernel_rfl) (by kernel_rfl);have p1:=hpo 1 (by kernel_rfl);refine Or.inl ⟨aR rfl,?_⟩;clear hdst hpo hold ho;rw[show f 1=_ from p1]at t8;clear hinv;unfold aP;go_simp;exact⟨rfl,zB _ _⟩|3,ho=>obtain rfl:_=o:=zI ho;have t9:=hdst 2 9 (by kernel_rfl) (by kernel_rfl);have p2:=hpo 2 (by kernel_rfl);refine Or.inl ⟨aR rfl,?_⟩;clear hdst hpo hold ho;rw[show f 2=_ from p2]at t9;clear hinv;unfold aP;go_simp;exact⟨rfl,zB _ _⟩|4,ho=>obtain rfl:_=o:=zI ho;have t10:=hdst 3 10 (by kernel_rfl) (by kernel_rfl);have p3:=hpo 3 (by kernel_rfl);refine Or.inl ⟨aR rfl,?_⟩;clear hdst hpo hold ho;rw[show f 3=_ from p3]at t10;obtain⟨b1,b2,c0,c1,c2,hbl⟩:=gp.o ww hinv;unfold aP;go_simp;exact⟨rfl,zB _ _⟩|5,ho=>obtain rfl:_=o:=zI ho;have t0:=hold 0 (by kernel_rfl);refine Or.inl ⟨aR rfl,?_⟩;clear hdst hpo hold ho hinv;unfold aP;go_simp;exact⟨rfl,zB _ _⟩|6,ho=>obtain rfl:_=o:=zI ho;have t12:=hdst 5 12 (by kernel_rfl) (by kernel_rfl);have p5:=hpo 5 (by kernel_rfl);refine Or.inl ⟨aR rfl,?_⟩;clear hdst hpo hold ho;rw[show f 5=_ from p5]at t12;clear hinv;unfold aP;go_simp;exact⟨rfl,zB _ _⟩|7,ho=>obtain rfl:_=o:=zI ho;have t13:=hdst 6 13 (by kernel_rfl) (by kernel_rfl);have p6:=hpo 6 (by kernel_rfl);refine Or.inl ⟨aR rfl,?_⟩;clear hdst hpo hold ho;rw[show f 6=_ from p6]at t13;clear hinv;unfold aP;go_simp;exact⟨rfl,zB _ _⟩|8,ho=>obtain rfl:_=o:=zI ho;have t14:=hdst 7 14 (by kernel_rfl) (by kernel_rfl);have p7:=hpo 7 (by kernel_rfl);refine Or.inl ⟨aR rfl,?_⟩;clear hdst hpo hold ho;rw[show f 7=_ from p7]at t14;obtain⟨b1,b2,c0,c1,c2,hbl⟩:=gp.o ww hinv;unfold aP;go_simp;exact⟨rfl,zB _ _⟩|9,ho=>obtain rfl:_=o:=zI ho;have t1:=hold 1 (by kernel_rfl);refine Or.inl ⟨aR rfl,?_⟩;clear hdst hpo hold ho hinv;unfold aP;go_simp;exact⟨rfl,zB _ _⟩|10,ho=>obtain rfl:_=o:=zI ho;have t15:=hdst 8 15 (by kernel_rfl) (by kernel_rfl);have p8:=hpo 8 (by kernel_rfl);have t16:=hdst 9 16 (by kernel_rfl) (by kernel_rfl);have p9:=hpo 9 (by kernel_rfl);refine Or.inl ⟨aR rfl,?_⟩;clear hdst hpo hold ho;rw[show f 8=_ from p8]at t15;rw[show f 9=_ from p9]at t16;unfold aP;go_simp;refine(al6.o ww hinv).mono ?_;rintro e w1⟨rfl,hb1', -⟩;exact⟨_,rfl,rfl,hb1'⟩|11,ho=>obtain rfl:_=o:=zI ho;have t11:=hdst 4 11 (by kernel_rfl) (by kernel_rfl);have p4:=hpo 4 (by kernel_rfl);have t17:=hdst 10 17 (by kernel_rfl) (by kernel_rfl);have sJ:=hpo 10 (by kernel_rfl);refine Or.inl ⟨aR rfl,?_⟩;clear hdst hpo hold ho;rw[show f 4=_ from p4]at t11;rw[show f 10=_ from sJ]at t17;clear hinv;unfold aP;go_simp;exact⟨rfl,zB _ _⟩|12,ho=>obtain rfl:_=o:=zI ho;have t18:=hdst 11 18 (by kernel_rfl) (by kernel_rfl);have wC:=hpo 11 (by kernel_rfl);refine Or.inl ⟨aR rfl,?_⟩;clear hdst hpo hold ho;rw[show f 11=_ from wC]at t18;obtain⟨b1,b2,c0,c1,c2,hbl⟩:=gp.o ww hinv;unfold aP;go_simp;exact⟨rfl,zB _ _⟩|13,ho=>obtain rfl:_=o:=zI ho;refine Or.inl ⟨aR rfl,?_⟩;clear hdst hpo hold ho;unfold aP;go_simp;exact⟨⟨_,rfl,hinv.size,bV _ _⟩,(zB _ _).alloc (zL _) _⟩|i+14,ho=>simp at ho
 ·intro f ww hinv hpo;have xQ:(bq (.agg #[.int .i64 (m.h.cells[k]).kind,.int .i64 (m.h.cells[k]).n,.string (m.h.cells[k]).s])) (f 12) ww:=hpo 12 (by decide);have Dy:(wN w.heap.size 112 #[.int .i64 0,.int .i64 0,.string .empty]) (f 13) ww:=hpo 13 (by decide);obtain⟨xb,e13,hxb,uQ⟩:=Dy;simp only[jv,yA,ng,Co,Aq,Cu];rw[show f 12=_ from xQ,e13];have gM:=zh hinv;have wO:=zh uQ;have hxl:=aD uQ;obtain⟨y0,y1,y2,yf⟩:=fO uQ;clear hinv hpo xQ e13 uQ;refine CL (i:=14) (by kernel_rfl) (aF rfl (by rfl) ?_);go_simp;refine LF (by kernel_rfl) ?_ _;obtain⟨W2,hW2⟩:∃W2,W2=((ww.setCell ⟨xb,0,none⟩ (.int .i64 (m.h.cells[k]).kind)).setCell ⟨xb,1,none⟩ (.int .i64 (m.h.cells[k]).n)).setCell ⟨xb,2,none⟩ (.string (m.h.cells[k]).s):=⟨_,rfl⟩;have HB2:=zh (show Below w.heap.size w W2 by rw[hW2];exact((gM.o.setCell hxb _).setCell hxb _).setCell hxb _);have bG:=zh (show W2.heap[xb]?=some (.cells #[.int .i64 (m.h.cells[k]).kind,.int .i64 (m.h.cells[k]).n,.string (m.h.cells[k]).s] 112 (0,0))by rw[hW2];exact(bI (bI (bI wO.o 0 _) 1 _) 2 _).trans rfl);rw[<-hW2];clear hW2 y0 y1 y2 yf wO;obtain⟨y0,y1,y2, -⟩:=fO bG.o;have ZV:=aD bG.o;go_wp2_with fail;go_quiet(fail);have HB3:=zh (show Below w.heap.size w (W2.drewN nq)from HB2.o.trans ⟨rfl,rfl,rfl,zL _,fun _ _=>rfl⟩);generalize W2.drewN nq=W3 at*;go_wp2_with fail;go_ret2;exact⟨rfl,HB3.o⟩
end
