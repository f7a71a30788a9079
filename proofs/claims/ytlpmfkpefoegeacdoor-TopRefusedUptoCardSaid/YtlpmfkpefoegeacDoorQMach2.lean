import Derived.Test.YtlpmfkpefoegeacDoorPMAns
import Derived.Test.YtlpmfkpefoegeacDoorQSolveE
import Derived.Test.YtlpmfkpefoegeacDoorPRead2
import Derived.StillTailTactics
import Derived.BigQuiet
namespace Go.Proofs.YtlpmfkpefoegeacDoor
set_option maxRecDepth 100000
set_option maxHeartbeats 16000000
set_option linter.all false
open Go.RowKit
def McR(A:Nat->Prop)(w:World)(c:Cl)(vs:List Value):Prop:=∃cv gv,vs=[.string c.head.s,.int .i64 (c.head.args.length:Int),cv,.int .i64 (Zaf c).vars,.int .i64 (Zaf c).head,gv]/\CesR A w (Zaf c).cells cv/\ZbB A w (Zaf c).goals gv
theorem Zbb:Lasts McR:=by
 refine⟨fun A w w' c vs h hk=>?_,fun A A' w c vs h hA=>?_,fun A w c vs h=>?_⟩;·obtain⟨cv,gv,e,h1,h2⟩:=h;exact⟨cv,gv,e,SlR.keeps Ce.rep_lasts h1 hk,SlR.keeps Zab h2 hk⟩
 ·obtain⟨cv,gv,e,h1,h2⟩:=h;exact⟨cv,gv,e,SlR.mono Ce.rep_lasts (by omega) h1 hA,SlR.mono Zab (by omega) h2 hA⟩
 ·obtain⟨cv,gv,rfl,h1,h2⟩:=h;obtain⟨_,_,_,_,rfl, -⟩:=SlR.at h1;obtain⟨_,_,_,_,rfl, -⟩:=SlR.at h2;simp[Value.oneCell']
def gmV(g:Gm):List Value:=[.int .i64 g.at_,.int .i64 (g.bar:Int),.int .i64 g.next]
def Zph(g:Gm):Prop:=I64 g.at_/\I64 g.next/\g.bar<=1000000
def cmV(c:Cm):List Value:=[.int .i64 (c.goal:Int),.int .i64 (c.from_:Int),.int .i64 (c.top:Int),.int .i64 (c.trail:Int)]
def Zpu(c:Cm):Prop:=c.goal<=1000000/\c.from_<=1000000/\c.top<=1000000/\c.trail<=1000000
theorem Zjd(g:Gm):(gmV g).length=3:=rfl
theorem Zmd(g:Gm):∀u∈gmV g,u.oneCell'=true:=by simp[gmV,Value.oneCell']
theorem ZhA(c:Cm):(cmV c).length=4:=rfl
theorem ZoJ(c:Cm):∀u∈cmV c,u.oneCell'=true:=by simp[cmV,Value.oneCell']
abbrev OwnG(w:World)(base:Nat)(l:List Gm)(v:Value):Prop:=OwnF gmV Zph 117 3 w base l v
abbrev OwnM(w:World)(base:Nat)(l:List Cm)(v:Value):Prop:=OwnF cmV Zpu 124 4 w base l v
structure Mo where
  gv : Value
  cv : Value
  ov : Value
def MM(g:Nat)(o:Mo)(b:Nat):Prop:=b=g\/Zai o.gv=some b\/Zai o.cv=some b\/Zai o.ov=some b
def MA(g:Nat)(o:Mo)(b:Nat):Prop:=¬MM g o b
structure MvI (base : Nat) (P : List Cl) (q g : Nat) (pv hc ht : Value) (o : Mo) (m : Mv) (w : World) : Prop where
  box : w.heap[g]? = some (.cells #[pv, hc, ht, o.gv, o.cv, .int .i64 m.now, .int .i64 (q : Int), .int .i64 m.query, .int .i64 (m.fuel : Int), o.ov] 86 (0, 0))
  prog : SlR 6 McR (fun b => b < base ∧ b ≠ g) w P pv
  heap : Hp.rep (MA g o) w m.h [hc, ht]
  goals : OwnG w base m.goals o.gv
  chc : OwnM w base m.choices.reverse o.cv
  out : OwnR w base 66 2 evR (MA g o) m.out o.ov
  bg : g < base ∧ base ≤ w.heap.size
  nowb : I64 m.now
  qb : I64 m.query
  fu : m.fuel ≤ 150
  qq : q ≤ 8
  gl : m.goals.length ≤ 6000
  cl : m.choices.length ≤ 1000
  ol : m.out.length ≤ 20
theorem ZaM{w:World}{g:Nat}{E:TypeId}{v0 v1 v2 v3 v4 v5 v6 v7 v8 v9:Value}(h:w.heap[g]?=some (.cells #[v0,v1,v2,v3,v4,v5,v6,v7,v8,v9] E (0,0))):w.cell? ⟨g,0,none⟩=some v0/\w.cell? ⟨g,1,none⟩=some v1/\w.cell? ⟨g,2,none⟩=some v2/\w.cell? ⟨g,3,none⟩=some v3/\w.cell? ⟨g,4,none⟩=some v4/\w.cell? ⟨g,5,none⟩=some v5/\w.cell? ⟨g,6,none⟩=some v6/\w.cell? ⟨g,7,none⟩=some v7/\w.cell? ⟨g,8,none⟩=some v8/\w.cell? ⟨g,9,none⟩=some v9/\∀o,w.frozen? ⟨g,o,none⟩=false:=⟨(Zao h 0).trans rfl,(Zao h 1).trans rfl,(Zao h 2).trans rfl,(Zao h 3).trans rfl,(Zao h 4).trans rfl,(Zao h 5).trans rfl,(Zao h 6).trans rfl,(Zao h 7).trans rfl,(Zao h 8).trans rfl,(Zao h 9).trans rfl,fun o=>by simp[World.frozen?,h]⟩
section
variable {base : Nat} {P : List Cl} {q g : Nat} {pv hc ht hc' ht' : Value} {o o' : Mo} {m m' : Mv} {w w' : World}
structure MApart (g : Nat) (o : Mo) : Prop where
  gg : Zai o.gv ≠ some g
  cg : Zai o.cv ≠ some g
  og : Zai o.ov ≠ some g
  gc : ∀ b, Zai o.gv = some b → Zai o.cv ≠ some b
  go : ∀ b, Zai o.gv = some b → Zai o.ov ≠ some b
  co : ∀ b, Zai o.cv = some b → Zai o.ov ≠ some b
theorem MvI.apart(h:MvI base P q g pv hc ht o m w):MApart g o:=by
 refine⟨fun e=>?_,fun e=>?_,fun e=>?_,fun b e e'=>?_,fun b e e'=>?_,fun b e e'=>?_⟩;·obtain⟨c,hc⟩:=Zck h.goals.1 e;exact absurd (Zec h.box hc) (by decide)
 ·obtain⟨c,hc⟩:=Zck h.chc.1 e;exact absurd (Zec h.box hc) (by decide)
 ·obtain⟨c,hc⟩:=h.out.ty e;exact absurd (Zec h.box hc) (by decide)
 ·obtain⟨c,hc⟩:=Zck h.goals.1 e;obtain⟨c',hc'⟩:=Zck h.chc.1 e';exact absurd (Zec hc hc') (by decide)
 ·obtain⟨c,hc⟩:=Zck h.goals.1 e;obtain⟨c',hc'⟩:=h.out.ty e';exact absurd (Zec hc hc') (by decide)
 ·obtain⟨c,hc⟩:=Zck h.chc.1 e;obtain⟨c',hc'⟩:=h.out.ty e';exact absurd (Zec hc hc') (by decide)
theorem MvI.lt(h:MvI base P q g pv hc ht o m w):g<w.heap.size/\base<=w.heap.size:=⟨Zah h.box,h.bg.2⟩
theorem MvI.mm_lt(h:MvI base P q g pv hc ht o m w):∀b,MM g o b->(b=g\/base<=b)/\b<w.heap.size:=by
 rintro b(rfl|hb|hb|hb);·exact⟨.inl rfl,h.lt.1⟩
 ·exact⟨.inr (h.goals.lt b hb).1,(h.goals.lt b hb).2⟩
 ·exact⟨.inr (h.chc.lt b hb).1,(h.chc.lt b hb).2⟩
 ·exact⟨.inr (h.out.lt b hb).1,(h.out.lt b hb).2⟩
theorem MvI.vals(h:MvI base P q g pv hc ht o m w):∃pa pc ga gc ca cc oa oc ha hac hb hbc,pv= .slice pa P.length pc/\o.gv= .slice ga m.goals.length gc/\o.cv= .slice ca m.choices.length cc/\o.ov= .slice oa m.out.length oc/\hc= .slice ha m.h.cells.length hac/\ht= .slice hb m.h.trail.length hbc/\P.length<=pc/\pc<=maxLen/\m.goals.length<=gc/\gc<=maxLen/\m.choices.length<=cc/\cc<=maxLen/\m.out.length<=oc/\oc<=maxLen:=by obtain⟨pa,pc,_,_,rfl,p1,p2, -⟩:=SlR.at h.prog;obtain⟨ga,gc,e1,g1,g2⟩:=h.goals.val;obtain⟨ca,cc,e2,c1,c2⟩:=h.chc.val;obtain⟨oa,oc,e3,o1,o2⟩:=OwnR.val' h.out;obtain⟨ha,hac,hb,hbc,e4, -⟩:=Hp.rep2 h.heap;simp only[List.cons.injEq,and_true]at e4;rw[List.length_reverse]at e2 c1;exact⟨pa,pc,ga,gc,ca,cc,oa,oc,ha,hac,hb,hbc,rfl,e1,e2,e3,e4.1,e4.2,p1,p2,g1,g2,c1,c2,o1,o2⟩
theorem MvI.below(h:MvI base P q g pv hc ht o m w)(hb:Below w.heap.size w w'):MvI base P q g pv hc ht o m w':=⟨Zad h.box hb,SlR.keeps Zbb h.prog (Keeps.ob hb),h.heap.below hb,h.goals.below hb,h.chc.below hb,h.out.below evR_lasts hb,⟨h.bg.1,Nat.le_trans h.bg.2 hb.size⟩,h.nowb,h.qb,h.fu,h.qq,h.gl,h.cl,h.ol⟩
structure MGrow (w : World) (o o' : Mo) : Prop where
  gv : ∀ b, Zai o'.gv = some b → Zai o.gv = some b ∨ w.heap.size ≤ b
  cv : ∀ b, Zai o'.cv = some b → Zai o.cv = some b ∨ w.heap.size ≤ b
  ov : ∀ b, Zai o'.ov = some b → Zai o.ov = some b ∨ w.heap.size ≤ b
theorem MGrow.refl(w:World)(o:Mo):MGrow w o o:=⟨fun b h=> .inl h,fun b h=> .inl h,fun b h=> .inl h⟩
theorem MGrow.trans{o'':Mo}(h:MGrow w o o')(h':MGrow w' o' o'')(hs:w.heap.size<=w'.heap.size):MGrow w o o'':=⟨fun b hb=>(h'.gv b hb).elim (h.gv b) (fun e=> .inr (Nat.le_trans hs e)),fun b hb=>(h'.cv b hb).elim (h.cv b) (fun e=> .inr (Nat.le_trans hs e)),fun b hb=>(h'.ov b hb).elim (h.ov b) (fun e=> .inr (Nat.le_trans hs e))⟩
theorem MGrow.up(h:MGrow w o o'):∀b,MM g o' b->MM g o b\/w.heap.size<=b:=by
 rintro b(e|e|e|e);·exact .inl (.inl e)
 ·exact(h.gv b e).imp (fun e=> .inr (.inl e)) id
 ·exact(h.cv b e).imp (fun e=> .inr (.inr (.inl e))) id
 ·exact(h.ov b e).imp (fun e=> .inr (.inr (.inr e))) id
def MaStep(base:Nat)(P:List Cl)(q g:Nat)(pv:Value)(o:Mo)(m':Mv)(w w':World):Prop:=∃hc' ht' o',MvI base P q g pv hc' ht' o' m' w'/\Ch (MM g o) w w'/\MGrow w o o'
theorem MaStep.refl(h:MvI base P q g pv hc ht o m w):MaStep base P q g pv o m w w:=⟨hc,ht,o,h,Ch.refl _ _,MGrow.refl _ _⟩
theorem MaStep.trans{w'':World}(hch:Ch (MM g o) w w')(hg:MGrow w o o')(h:MaStep base P q g pv o' m' w' w''):MaStep base P q g pv o m' w w'':=by obtain⟨c2,t2,o2,h1,h2,h3⟩:=h;exact⟨c2,t2,o2,h1,hch.trans h2 hg.up,hg.trans h3 hch.size⟩
theorem Zme(hc:Ch (MM g o) w w')(hg:MGrow w o o'):Keeps (fun b=>MA g o b/\b<w.heap.size) w w'/\∀b,(MA g o b/\b<w.heap.size)->MA g o' b:=by
 refine⟨hc.keeps fun b _ hb e=>hb.1 e,fun b hb e=>?_⟩;rcases hg.up b e with e|e;·exact hb.1 e
 ·have :=hb.2;omega
theorem ZdH{h:Hp}{vs:List Value}(hh:Hp.rep (MA g o) w h vs)(hc:Ch (MM g o) w w')(hg:MGrow w o o'):Hp.rep (MA g o') w' h vs:=by obtain⟨h1,h2⟩:=Zme hc hg;exact((hh.mono (A':=fun b=>MA g o b/\b<w.heap.size) fun b hb hA=>⟨hA,hb⟩).keeps h1).mono fun b _ hb=>h2 b hb
theorem MvI.turned(h:MvI base P q g pv hc ht o m w)(hbox:w'.heap[g]?=some (.cells #[pv,hc',ht',o'.gv,o'.cv,.int .i64 m'.now,.int .i64 (q:Int),.int .i64 m'.query,.int .i64 (m'.fuel:Int),o'.ov] 86 (0,0)))(hch:Ch (MM g o) w w')(hg:MGrow w o o')(hh:Hp.rep (MA g o') w' m'.h [hc',ht'])(hgs:OwnG w' base m'.goals o'.gv)(hcs:OwnM w' base m'.choices.reverse o'.cv)(hou:OwnR w' base 66 2 evR (MA g o') m'.out o'.ov)(hn:I64 m'.now)(hq:I64 m'.query)(hf:m'.fuel<=150)(hgl:m'.goals.length<=6000)(hcl:m'.choices.length<=1000)(hol:m'.out.length<=20):MaStep base P q g pv o m' w w':=⟨hc',ht',o',⟨hbox,SlR.keeps Zbb h.prog (hch.keeps fun b hb hA e=>by have :=(h.mm_lt b e).1;have :=hA.1;have :=hA.2;omega),hh,hgs,hcs,hou,⟨h.bg.1,Nat.le_trans h.bg.2 hch.size⟩,hn,hq,hf,h.qq,hgl,hcl,hol⟩,hch,hg⟩
theorem MvI.keepG(h:MvI base P q g pv hc ht o m w){Z:Nat->Prop}(hch:Ch Z w w')(hz:∀b,Zai o.gv=some b->¬Z b):OwnG w' base m.goals o.gv:=h.goals.kept fun k hk=>hch.block k (h.goals.lt k hk).2 (hz k hk)
theorem MvI.keepC(h:MvI base P q g pv hc ht o m w){Z:Nat->Prop}(hch:Ch Z w w')(hz:∀b,Zai o.cv=some b->¬Z b):OwnM w' base m.choices.reverse o.cv:=h.chc.kept fun k hk=>hch.block k (h.chc.lt k hk).2 (hz k hk)
theorem MvI.keepO(h:MvI base P q g pv hc ht o m w){Z:Nat->Prop}(hch:Ch Z w w')(hZ:∀b,Z b->MM g o b)(hz:∀b,Zai o.ov=some b->¬Z b)(hg:MGrow w o o')(ho:o'.ov=o.ov):OwnR w' base 66 2 evR (MA g o') m.out o'.ov:=by have hmid:=Zme (hch.mono fun b _ hb=>hZ b hb) hg;rw[ho];refine((h.out.mono (A':=fun b=>MA g o b/\b<w.heap.size) evR_lasts fun b hb hA=>⟨hA,hb⟩).keeps evR_lasts (hch.keeps (A:=fun b=>¬Z b) fun b _ hb=>hb) (fun b hb e=>hb.1 (hZ b e)) hz).mono evR_lasts fun b _ hb=>hmid.2 b hb
theorem MvI.setI(h:MvI base P q g pv hc ht o m w)(k:Nat)(u:Value)(hm:m'.h=m.h/\m'.goals=m.goals/\m'.choices=m.choices/\m'.out=m.out)(hbox:(w.setCell ⟨g,k,none⟩ u).heap[g]?=some (.cells #[pv,hc,ht,o.gv,o.cv,.int .i64 m'.now,.int .i64 (q:Int),.int .i64 m'.query,.int .i64 (m'.fuel:Int),o.ov] 86 (0,0)))(hn:I64 m'.now)(hq:I64 m'.query)(hf:m'.fuel<=150):MaStep base P q g pv o m' w (w.setCell ⟨g,k,none⟩ u):=by
 have hap:=h.apart;have hch0:Ch (fun b=>b=g) w (w.setCell ⟨g,k,none⟩ u):=(Ch.refl (fun b=>b=g) w).setCell (p:=⟨g,k,none⟩) (.inl rfl) _;have hch:Ch (MM g o) w (w.setCell ⟨g,k,none⟩ u):=hch0.mono fun b _ hb=> .inl hb;obtain⟨e1,e2,e3,e4⟩:=hm;refine h.turned hbox hch (MGrow.refl _ _) ?_ ?_ ?_ ?_ hn hq hf (by rw[e2];exact h.gl) (by rw[e3];exact h.cl) (by rw[e4];exact h.ol);·rw[e1];exact ZdH h.heap hch (MGrow.refl _ _)
 ·rw[e2];exact h.keepG hch0 fun b hb e=>hap.gg (e▸hb)
 ·rw[e3];exact h.keepC hch0 fun b hb e=>hap.cg (e▸hb)
 ·rw[e4];exact h.keepO hch0 (fun b e=> .inl e) (fun b hb e=>hap.og (e▸hb)) (MGrow.refl _ _) rfl
theorem MvI.setH(h:MvI base P q g pv hc ht o m w){x:Hp}(hx:Hp.rep (MA g o) w x [hc',ht']):MaStep base P q g pv o {m with h:=x} w ((w.setCell ⟨g,1,none⟩ hc').setCell ⟨g,2,none⟩ ht'):=by
 have hap:=h.apart;have hch0:Ch (fun b=>b=g) w ((w.setCell ⟨g,1,none⟩ hc').setCell ⟨g,2,none⟩ ht'):=((Ch.refl (fun b=>b=g) w).setCell (p:=⟨g,1,none⟩) (.inl rfl) _).setCell (p:=⟨g,2,none⟩) (.inl rfl) _;have hch:Ch (MM g o) w ((w.setCell ⟨g,1,none⟩ hc').setCell ⟨g,2,none⟩ ht'):=hch0.mono fun b _ hb=> .inl hb;refine h.turned (m':={m with h:=x}) ((Zal ((Zal h.box 1 hc').trans rfl) 2 ht').trans rfl) hch (MGrow.refl _ _) (ZdH hx hch (MGrow.refl _ _)) ?_ ?_ ?_ h.nowb h.qb h.fu h.gl h.cl h.ol;·exact h.keepG hch0 fun b hb e=>hap.gg (e▸hb)
 ·exact h.keepC hch0 fun b hb e=>hap.cg (e▸hb)
 ·exact h.keepO hch0 (fun b e=> .inl e) (fun b hb e=>hap.og (e▸hb)) (MGrow.refl _ _) rfl
theorem MvI.tell{e:Ev}{ov2:Value}{w2:World}{cells:Array Value}(h:MvI base P q g pv hc ht o m w)(hsz:m.out.length+1<=20)(hown:OwnR w2 base 66 2 evR (MA g o) (m.out++[e]) ov2)(hg:Grew (w.alloc (.cells cells 66)) w2 o.ov ov2):MaStep base P q g pv o {m with out:=m.out++[e]} w (w2.setCell ⟨g,9,none⟩ ov2):=by
 have hap:=h.apart;have hlt:=h.lt;have hog:∀b,Zai ov2=some b->Zai o.ov=some b\/w.heap.size<=b:=fun b hb=>by
  rcases hg.block with e|e;·exact .inl (e▸hb)
  ·have :=e b hb;simp only[World.size_alloc]at this;exact .inr (by omega)
 have hgr:MGrow w o ⟨o.gv,o.cv,ov2⟩:=⟨fun b h=> .inl h,fun b h=> .inl h,hog⟩;have hch0:Ch (fun b=>b=g\/Zai o.ov=some b) w (w2.setCell ⟨g,9,none⟩ ov2):=(hg.ch ((Ch.refl _ _).alloc _) (fun b hb=> .inl (.inr hb))).setCell (p:=⟨g,9,none⟩) (.inl (.inl rfl)) _;have hch:Ch (MM g o) w (w2.setCell ⟨g,9,none⟩ ov2):=hch0.mono fun b _ hb=>hb.elim .inl fun e=> .inr (.inr (.inr e));have hB2:w2.heap[g]?=_:=(hg.grown.block g (by simp;omega) (fun e=>hap.og e.symm)).trans (Zag h.box _);refine h.turned (o':=⟨o.gv,o.cv,ov2⟩) (m':={m with out:=m.out++[e]}) ((Zal hB2 9 _).trans rfl) hch hgr (ZdH h.heap hch hgr) ?_ ?_ ?_ h.nowb h.qb h.fu h.gl h.cl (by simpa using hsz);·exact h.keepG hch0 fun b hb e=>e.elim (fun e=>hap.gg (e▸hb)) (fun e=>hap.go b hb e)
 ·exact h.keepC hch0 fun b hb e=>e.elim (fun e=>hap.cg (e▸hb)) (fun e=>hap.co b hb e)
 ·have hng:Zai ov2≠some g:=fun e=>by
   rcases hog g e with e|e;·exact hap.og e
   ·omega
  refine(hown.keeps (B:=fun b=>b≠g) evR_lasts (Keeps.setCell _ _ _ _ (fun h=>h rfl)) (fun b hb e=>hb (.inl e)) (fun b hb e=>hng (e▸hb))).mono' evR_lasts fun b hb hA hn=>fun hs=>?_;rcases hs with e|e|e|e;·exact hA (.inl e)
  ·exact hA (.inr (.inl e))
  ·exact hA (.inr (.inr (.inl e)))
  ·exact hn e
theorem MvI.pushC{x:Cm}{cv2:Value}{w2:World}{cells:Array Value}(h:MvI base P q g pv hc ht o m w)(hsz:m.choices.length+1<=1000)(hown:OwnM w2 base (m.choices.reverse++[x]) cv2)(hg:Grew (w.alloc (.cells cells 124)) w2 o.cv cv2):MaStep base P q g pv o {m with choices:=x::m.choices} w (w2.setCell ⟨g,4,none⟩ cv2):=by
 have hap:=h.apart;have hlt:=h.lt;have hog:∀b,Zai cv2=some b->Zai o.cv=some b\/w.heap.size<=b:=fun b hb=>by
  rcases hg.block with e|e;·exact .inl (e▸hb)
  ·have :=e b hb;simp only[World.size_alloc]at this;exact .inr (by omega)
 have hgr:MGrow w o ⟨o.gv,cv2,o.ov⟩:=⟨fun b h=> .inl h,hog,fun b h=> .inl h⟩;have hch0:Ch (fun b=>b=g\/Zai o.cv=some b) w (w2.setCell ⟨g,4,none⟩ cv2):=(hg.ch ((Ch.refl _ _).alloc _) (fun b hb=> .inl (.inr hb))).setCell (p:=⟨g,4,none⟩) (.inl (.inl rfl)) _;have hZ:∀b,(b=g\/Zai o.cv=some b)->MM g o b:=fun b hb=>hb.elim .inl fun e=> .inr (.inr (.inl e));have hch:Ch (MM g o) w (w2.setCell ⟨g,4,none⟩ cv2):=hch0.mono fun b _ hb=>hZ b hb;have hB2:w2.heap[g]?=_:=(hg.grown.block g (by simp;omega) (fun e=>hap.cg e.symm)).trans (Zag h.box _);have hng:Zai cv2≠some g:=fun e=>by
  rcases hog g e with e|e;·exact hap.cg e
  ·omega
 refine h.turned (o':=⟨o.gv,cv2,o.ov⟩) (m':={m with choices:=x::m.choices}) ((Zal hB2 4 _).trans rfl) hch hgr (ZdH h.heap hch hgr) ?_ ?_ ?_ h.nowb h.qb h.fu h.gl (by simpa using hsz) h.ol;·exact h.keepG hch0 fun b hb e=>e.elim (fun e=>hap.gg (e▸hb)) (fun e=>hap.gc b hb e)
 ·rw[List.reverse_cons];exact hown.kept fun k hk=>Below.heap_setCell _ _ _ _ (fun e=>hng ((show k=g from e)▸hk))
 ·exact h.keepO hch0 hZ (fun b hb e=>e.elim (fun e=>hap.og (e▸hb)) (fun e=>hap.co b e hb)) hgr rfl
theorem MvI.cutC(h:MvI base P q g pv hc ht o m w){k:Nat}(hk:k<=m.choices.length){ca:Option Addr}{cc:Nat}(hcv:o.cv= .slice ca m.choices.length cc):MaStep base P q g pv o {m with choices:=m.choices.drop (m.choices.length - k)} w (w.setCell ⟨g,4,none⟩ (.slice ca k cc)):=by
 have hap:=h.apart;have hch0:Ch (fun b=>b=g) w (w.setCell ⟨g,4,none⟩ (.slice ca k cc)):=(Ch.refl (fun b=>b=g) w).setCell (p:=⟨g,4,none⟩) (.inl rfl) _;have hch:Ch (MM g o) w (w.setCell ⟨g,4,none⟩ (.slice ca k cc)):=hch0.mono fun b _ hb=> .inl hb;have hlr:m.choices.reverse.length=m.choices.length:=List.length_reverse;have hown:OwnM w base (m.choices.reverse.take k) (.slice ca k cc):=by have h1:=h.chc;rw[hcv,<-hlr]at h1;exact h1.take ZhA (by rw[hlr];exact hk)
 have hog:∀b,Zai (.slice ca k cc)=some b->Zai o.cv=some b:=fun b hb=>by rw[hcv];cases ca with|none=>simp[Zai]at hb|some a=>simpa[Zai]using hb
 have hgr:MGrow w o ⟨o.gv,.slice ca k cc,o.ov⟩:=⟨fun b h=> .inl h,fun b h=> .inl (hog b h),fun b h=> .inl h⟩;refine h.turned (o':=⟨o.gv,.slice ca k cc,o.ov⟩) (m':={m with choices:=m.choices.drop (m.choices.length - k)}) ((Zal h.box 4 _).trans rfl) hch hgr (ZdH h.heap hch hgr) ?_ ?_ ?_ h.nowb h.qb h.fu h.gl (by have :=h.cl;simp only[List.length_drop];omega) h.ol;·exact h.keepG hch0 fun b hb e=>hap.gg (e▸hb)
 ·have e:(m.choices.drop (m.choices.length - k)).reverse=m.choices.reverse.take k:=by rw[List.reverse_drop];congr 1;omega
  simp only;rw[e];exact hown.kept fun b hb=>Below.heap_setCell _ _ _ _ (fun e=>hap.cg ((show b=g from e)▸hog b hb))
 ·exact h.keepO hch0 (fun b e=> .inl e) (fun b hb e=>hap.og (e▸hb)) hgr rfl
end
section
variable {base : Nat} {P : List Cl} {q g : Nat} {pv hc ht : Value} {o : Mo} {m : Mv} {w : World}
def Znv(base:Nat)(P:List Cl)(q g:Nat)(pv:Value)(o:Mo)(m':Mv)(w:World)(e:Ending)(w':World):Prop:=e= .returned (.bool false)/\MaStep base P q g pv o m' w w'
theorem Zch(kind:Int)(hk:I64 kind)(h:MvI base P q g pv hc ht o m w)(hsz:m.out.length+1<=20):Calls Tryd.prog 75 #[.pointer (some ⟨g,0,none⟩),.int .i64 kind] w (Znv base P q g pv o (m.put kind) w):=by have HU:=zh h;have HK:=zh hk;have HSZ:=zh hsz;have HAP:=zh h.apart;obtain⟨gv,cv,ov⟩:=o;obtain⟨pa,pc,ga,gc,ca,cc,oa,oc,ha,hac,hb,hbc,rfl,rfl,rfl,rfl,rfl,rfl, -⟩:=h.vals;obtain⟨hl1,hl2⟩:=h.lt;obtain⟨b0,b1,b2,b3,b4,b5,b6,b7,b8,b9,bf⟩:=ZaM h.box;have hcs:=Zap;clear h hk;go_enter Tryd.func75,Tryd.ntmps75;go_wp2_with(at_builtin;go_must(refine Zas rfl (.tmp 9) (.tmp 12) 62 rfl base 66 2 32 Zpg evR_lasts (A:=MA g _) (.slice oa m.out.length oc) m.out rfl HU.o.out ⟨kind,[]⟩ [.int .i64 kind,.slice none 0 0] (by rfl) rfl ⟨_,rfl,SlR.nil ..,HK.o⟩ ⟨by omega,by omega⟩ ?_);go_must(intro v2 w2 hown hgrew;have hB2:=(hgrew.grown.block g (by simp;omega) (fun e=>HAP.o.og e.symm)).trans (Zag HU.o.box _);obtain⟨va2,vc2,hv2,hvl2,hvm2⟩:=OwnR.val' hown;rw[show(m.out++[(⟨kind,[]⟩:Ev)]).length=m.out.length+1 by simp]at hv2;subst hv2;have HO2:=zh hown;have HG2:=zh hgrew;obtain⟨k0,k1,k2,k3,k4,k5,k6,k7,k8,k9,kf⟩:=ZaM hB2;clear hown hgrew hB2));go_ret;exact⟨rfl,HU.o.tell HSZ.o HO2.o HG2.o⟩
theorem ZhB(x:Gm)(hx:Inb m.h.cells x.at_)(h:MvI base P q g pv hc ht o m w):Calls Tryd.prog 81 #[.pointer (some ⟨g,0,none⟩),.agg #[.int .i64 x.at_,.int .i64 (x.bar:Int),.int .i64 x.next]] w (fun e w'=>e= .returned (.tuple #[.string (Zaa m.h.cells x.at_).s,.int .i64 (Zaa m.h.cells x.at_).n])/\Below w.heap.size w w'):=by
 have HU:=zh h;obtain⟨pa,pc,ga,gc,ca,cc,oa,oc,ha,hac,hb,hbc, -, -, -, -,rfl,rfl, -⟩:=h.vals;obtain⟨hl1,hl2⟩:=h.lt;obtain⟨k,hka,hkl,hce⟩:=ZaY hx;rw[hce];obtain⟨c,t,e0,hcs0, -⟩:=h.heap;simp only[List.cons.injEq,and_true]at e0;obtain⟨rfl,rfl⟩:=e0;obtain⟨_,_,hb0,hoff,e9,hh1,hh2,hh3,hha,hhe⟩:=SlR.at hcs0;simp only[Value.slice.injEq,true_and]at e9;obtain⟨rfl,rfl⟩:=e9;obtain⟨rfl,hAb⟩:=hha (by omega);have HE:=zh hhe;have HA:=zh hAb;rw[hka];have hk0:(0:Int)<=(k:Int):=zN _;have hk1:(k:Int)<(m.h.cells.length:Int):=by omega
 unfold maxLen at hh2;have hcs:=Zap;clear h hcs0 hha hhe hx hce;go_enter Tryd.func81,Tryd.ntmps81;go_wp2_with fail;obtain⟨W1,hW1⟩:∃W1,W1=w.alloc (.cells #[.int .i64 (k:Int),.int .i64 (x.bar:Int),.int .i64 x.next] 117):=⟨_,rfl⟩;have HB1:=zh (show Below w.heap.size w W1 by rw[hW1];exact(zB _ _).alloc (zL _) _);have HX1:=zh (show W1.heap[w.heap.size]?=some (.cells #[.int .i64 (k:Int),.int .i64 (x.bar:Int),.int .i64 x.next] 117 (0,0))by rw[hW1];exact Zar _ _);rw[<-hW1];clear hW1;have hz1:=HB1.o.size;obtain⟨b0,b1,b2,b3,b4,b5,b6,b7,b8,b9,bf⟩:=ZaM (HU.o.below HB1.o).box;obtain⟨c0,c1,c2⟩:=ZbP HE.o HA.o (Keeps.ob HB1.o) hkl;have x0:W1.cell? ⟨w.heap.size,0,none⟩=some (.int .i64 (k:Int)):=(Zao HX1.o 0).trans rfl;have hbl:=World.block_lt_of_cell? W1 _ c0;have hxl:=Zah HX1.o;have hgl:g<W1.heap.size:=by omega
 simp only at hbl;go_region;go_wp2_with fail;obtain⟨W2,hW2⟩:∃W2,W2=(W1.alloc (.cells #[.int .i64 (m.h.cells[k]).kind,.int .i64 (m.h.cells[k]).n,.string (m.h.cells[k]).s] 112)).drew:=⟨_,rfl⟩;have HB2:=zh (show Below w.heap.size w W2 by rw[hW2];exact(HB1.o.alloc hz1 _).drew);have HX2:=zh (show W2.heap[W1.heap.size]?=some (.cells #[.int .i64 (m.h.cells[k]).kind,.int .i64 (m.h.cells[k]).n,.string (m.h.cells[k]).s] 112 (0,0))by rw[hW2];exact Zar W1 _);rw[<-hW2];clear hW2 b0 b1 b2 b3 b4 b5 b6 b7 b8 b9 bf c0 c1 c2 x0;have y1:W2.cell? ⟨W1.heap.size,1,none⟩=some (.int .i64 (m.h.cells[k]).n):=(Zao HX2.o 1).trans rfl;have y2:W2.cell? ⟨W1.heap.size,2,none⟩=some (.string (m.h.cells[k]).s):=(Zao HX2.o 2).trans rfl;have hyl:=Zah HX2.o;go_quiet(fail);have HB3:=zh (show Below w.heap.size w (W2.drewN nq)from HB2.o.trans ⟨rfl,rfl,rfl,zL _,fun _ _=>rfl⟩);generalize W2.drewN nq=W3 at*;go_wp2_with fail;go_ret2;exact⟨rfl,HB3.o⟩
theorem ZeP(P:List Cl)(x:Ce):∀(n k:Nat),k<=ZaX P x n k/\ZaX P x n k<=k+n
 |0,k=>by simp[ZaX]
 |n+1,k=>by
  unfold ZaX;have :=ZeP P x n (k+1);split;·omega
  ·split<;>omega
theorem Znw{P:List Cl}{x:Ce}{k:Nat}(h:k<P.length):ZaX P x (P.length - k) k=if ZfA P[k] x then k else ZaX P x (P.length - (k+1)) (k+1):=by rw[show P.length - k=(P.length - (k+1))+1 by omega,ZaX,List.getElem?_eq_getElem h]
def Zc8(P:List Cl)(k:Nat):Int:=if k<P.length then(k:Int)else -1
theorem Zki{A:Nat->Prop}{w wr:World}{l:List Cl}{b off:Nat}(he:Elems A w 6 McR l b off)(hA:A b)(hk:Keeps A w wr){k:Nat}(hlt:k<l.length):∃cv gv,wr.cell? ⟨b,off+k*6,none⟩=some (.string l[k].head.s)/\wr.cell? ⟨b,off+k*6+1,none⟩=some (.int .i64 (l[k].head.args.length:Int))/\wr.cell? ⟨b,off+k*6+2,none⟩=some cv/\wr.cell? ⟨b,off+k*6+3,none⟩=some (.int .i64 (Zaf l[k]).vars)/\wr.cell? ⟨b,off+k*6+4,none⟩=some (.int .i64 (Zaf l[k]).head)/\wr.cell? ⟨b,off+k*6+5,none⟩=some gv/\CesR A wr (Zaf l[k]).cells cv/\ZbB A wr (Zaf l[k]).goals gv:=by obtain⟨vs,hvl,⟨cv,gv,rfl,h1,h2⟩,hrow⟩:=he k _ (List.getElem?_eq_getElem hlt);have hr:=RowAt.keeps hA hrow hk;exact⟨cv,gv,hr 0 _ rfl,hr 1 _ rfl,hr 2 _ rfl,hr 3 _ rfl,hr 4 _ rfl,hr 5 _ rfl,SlR.keeps Ce.rep_lasts h1 hk,SlR.keeps Zab h2 hk⟩
theorem ZfM(x:Ce)(k:Nat)(hk:k<=P.length+1)(h:MvI base P q g pv hc ht o m w):Calls Tryd.prog 82 #[.pointer (some ⟨g,0,none⟩),.string x.s,.int .i64 x.n,.int .i64 (k:Int)] w (fun e w'=>e= .returned (.int .i64 (Zc8 P (ZaX P x (P.length - k) k)))/\Below w.heap.size w w'):=by
 have HU:=zh h;obtain⟨hl1,hl2⟩:=h.lt;obtain⟨pa,pc,pb,poff,rfl,hpl1,hpl2,hpl3,hpA,hpE⟩:=SlR.at h.prog;have HPA:=zh hpA;have HPE:=zh hpE;unfold maxLen at hpl2;have hk0:(0:Int)<=(k:Int):=zN _;clear h hpA hpE;go_enter Tryd.func82,Tryd.ntmps82;go_wp2_with fail;go_loopw[9](fun i9 wr=>∃kk:Nat,k<=kk/\kk<=P.length+1/\i9= .int .i64 (kk:Int)/\Below w.heap.size w wr/\ZaX P x (P.length - k) k=ZaX P x (P.length - kk) kk)(fun i9 _=>P.length+1 - (intOf i9).toNat);case atStart=>exact⟨k,zL _,hk,rfl,zB _ _,rfl⟩
 case round=>
  obtain⟨kk,h1,h2,rfl,hb,hn⟩:=hrel;have HB:=zh hb;have HN:=zh hn;have hz:=hb.size;obtain⟨b0,b1,b2,b3,b4,b5,b6,b7,b8,b9,bf⟩:=ZaM (HU.o.below hb).box;have hkk:(0:Int)<=(kk:Int):=zN _;clear hb hn;by_cases hlt:kk<P.length
  ·obtain⟨rfl,hpb⟩:=HPA.o (by omega);have hlt':(kk:Int)<(P.length:Int):=by omega
   obtain⟨cv,gv,c0,c1, -⟩:=Zki HPE.o hpb (Keeps.ob HB.o) hlt;have hbl:=World.block_lt_of_cell? wr _ c0;simp only at hbl;have hat:=Znw (x:=x) hlt;by_cases e1:(P[kk]).head.s=x.s
   ·by_cases e2:((P[kk]).head.args.length:Int)=x.n
    ·have hres:=zh (show Zc8 P (ZaX P x (P.length - k) k)=(kk:Int)by rw[HN.o,hat,if_pos ⟨e1,e2⟩];unfold Zc8;rw[if_pos hlt]);have e1':((P[kk]).head.s.toList==x.s.toList)=true:=by simp[e1]
     have e2':(((P[kk]).head.args.length:Int)==x.n)=true:=by simpa using e2
     clear e1 e2 hat;go_wp2_with fail;go_ret;rw[hres.o];exact⟨rfl,HB.o⟩
    ·have hnx:=zh (HN.o.trans (hat.trans (if_neg (fun h=>e2 h.2))));have e1':((P[kk]).head.s.toList==x.s.toList)=true:=by simp[e1]
     have e2':(((P[kk]).head.args.length:Int)==x.n)=false:=by simpa using e2
     clear e1 e2 hat;go_wp2_with fail;go_roundw;case rel=>exact⟨kk+1,by omega,by omega,by go_num,HB.o,hnx.out⟩
     case measure=>simp[intOf];omega
   ·have hnx:=zh (HN.o.trans (hat.trans (if_neg (fun h=>e1 h.1))));have e1':=Zk7 e1;clear e1 hat;go_wp2_with fail;go_roundw;case rel=>exact⟨kk+1,by omega,by omega,by go_num,HB.o,hnx.out⟩
    case measure=>simp[intOf];omega
  ·have hres:=zh (show Zc8 P (ZaX P x (P.length - k) k)= -1 by rw[HN.o,show P.length - kk=0 by omega,ZaX];unfold Zc8;rw[if_neg hlt]);have hlt':(P.length:Int)<=(kk:Int):=by omega
   go_wp2_with fail;go_ret;rw[hres.o];exact⟨rfl,HB.o⟩
end
end Go.Proofs.YtlpmfkpefoegeacDoor
