import Derived.Test.YtlpmfkpefoegeacGreatDoorQMach11
import Derived.Test.YtlpmfkpefoegeacGreatDoorQMarksOf
namespace Go.Proofs.YtlpmfkpefoegeacGreatDoor
set_option maxRecDepth 99999
set_option maxHeartbeats 0
set_option linter.all false
open Go.RowKit
structure uu (B : Nat) (w : World) (la lb : List Int) (av bv : Value) : Prop where
  a : dC w B la av
  b : dC w B lb bv
  sep : ∀ k, ownB av = some k → ownB bv ≠ some k
theorem uu.swap{B:Nat}{w:World}{la lb:List Int}{av bv:Value}(h:uu B w la lb av bv):uu B w lb la bv av:=⟨h.b,h.a,fun k h1 h2=>h.sep k h2 h1⟩
theorem uu.nil(B:Nat)(w:World):uu B w [] [] (.slice none 0 0) (.slice none 0 0):=⟨I.nil,I.nil,fun k h=>by simp[ownB]at h⟩
theorem uu.below{B:Nat}{w w':World}{la lb:List Int}{av bv:Value}(h:uu B w la lb av bv)(hb:Below w.heap.size w w'):uu B w' la lb av bv:=⟨h.a.below hb,h.b.below hb,h.sep⟩
theorem uu.app{B:Nat}{w w':World}{la lb ys:List Int}{av bv v':Value}(h:uu B w la lb av bv)(h1:dC w' B (la++ys) v')(hg:jJ w w' av v'):uu B w' (la++ys) lb v' bv:=⟨h1,h.b.kept fun k hk=>hg.grown.block k (h.b.lt k hk).2 (fun e=>h.sep k e.symm hk),fun k e e2=>hg.new (h.b.lt k e2).2 (fun e3=>h.sep k e3 e2) e⟩
theorem zX.app{B:Nat}{w w':World}{av bv v' z:Value}{zs:List Int}(hg:jJ w w' av v')(hz:gX (Out B av bv) w zs z):gX (Out B v' bv) w' zs z:=by have h2:=ag.mono (A':=fun b=>Out B av bv b/\ownB v'≠some b) aN (by omega) hz (fun b hb hb'=>⟨hb',hg.new hb hb'.2.1⟩);have h3:=ag.keeps aN h2 (hg.keeps (A:=fun b=>Out B av bv b/\ownB v'≠some b) (fun b hb=>hb.1.2.1));exact ag.mono aN (by omega) h3 (fun b _ hb=>⟨hb.1.1,hb.2,hb.1.2.2⟩)
theorem zX.below{B:Nat}{w w':World}{av bv z:Value}{zs:List Int}(hb:Below w.heap.size w w')(hz:gX (Out B av bv) w zs z):gX (Out B av bv) w' zs z:=ag.keeps aN hz (J.ob hb)
theorem zX.made{B:Nat}{w:World}{av bv:Value}{la lb:List Int}{x:Int}(h:uu B w la lb av bv)(hB:B<=w.heap.size)(hx:ah x):gX (Out B av bv) (w.alloc (.cells #[.int .i64 x] 3)) [x] (.slice (some ⟨w.heap.size,0,none⟩) 1 1):=by refine⟨w.heap.size,0,⟨by simp,.inr ⟨by simp,⟨hB,fun e=>by have :=(h.a.lt _ e).2;omega,fun e=>by have :=(h.b.lt _ e).2;omega⟩,1,rfl,by simp,by simp[maxLen]⟩⟩,?_⟩;exact Q3 aN (vs:=[.int .i64 x]) _ rfl ⟨hx,rfl⟩
theorem U5{w:World}{x:Int}(hx:ah x):gX (fun b=>b=w.heap.size) (w.alloc (.cells #[.int .i64 x] 3)) [x] (.slice (some ⟨w.heap.size,0,none⟩) 1 1):=by refine⟨w.heap.size,0,⟨by simp,.inr ⟨by simp,rfl,1,rfl,by simp,by simp[maxLen]⟩⟩,?_⟩;exact Q3 aN (vs:=[.int .i64 x]) _ rfl ⟨hx,rfl⟩
def awn(base:Nat)(P:List Cl)(q g:Nat)(pv:Value)(o:Mo)(m':Mv)(w:World)(e:Ending)(w':World):Prop:=(∃r,e= .returned r)/\bD base P q g pv o m' w w'
structure abJ (q : Nat) (m : Mv) : Prop where
  ak : ∀ n ∈ jH m, 0 ≤ n → qW m.goals m.h.cells n.toNat
  i64 : ∀ n ∈ jH m, ah n
  qr : ∀ v : Nat, v < q → ah (m.query + (v : Nat))
  col : (oo m.h (jY q m) (m.choices.reverse.map fun c => (c.top : Int)) (m.choices.reverse.map fun c => (c.trail : Int))).err = 0 →
    (oo m.h (jY q m) (m.choices.reverse.map fun c => (c.top : Int)) (m.choices.reverse.map fun c => (c.trail : Int))).roots.length = (jY q m).length ∧
    (oo m.h (jY q m) (m.choices.reverse.map fun c => (c.top : Int)) (m.choices.reverse.map fun c => (c.trail : Int))).eB.length = m.choices.length ∧
    (oo m.h (jY q m) (m.choices.reverse.map fun c => (c.top : Int)) (m.choices.reverse.map fun c => (c.trail : Int))).eD.length = m.choices.length ∧
    (∀ x ∈ (oo m.h (jY q m) (m.choices.reverse.map fun c => (c.top : Int)) (m.choices.reverse.map fun c => (c.trail : Int))).eB, 0 ≤ x ∧ x ≤ 1000000) ∧
    (∀ x ∈ (oo m.h (jY q m) (m.choices.reverse.map fun c => (c.top : Int)) (m.choices.reverse.map fun c => (c.trail : Int))).eD, 0 ≤ x ∧ x ≤ 1000000)
section
variable {base : Nat} {P : List Cl} {q g : Nat} {pv hc ht : Value} {o : Mo} {m : Mv} {w : World}
theorem bS.aki{n j:Nat}{u:Value}{y:Cm}{cb:Nat}(h:bS base P q g pv hc ht o m w)(hn:n<m.choices.reverse.length)(hb:ownB o.cv=some cb)(hj:j<4)(hy:EZ y=(EZ m.choices.reverse[n]).set j u)(hok:TQ y):bS base P q g pv hc ht o {m with choices:=(m.choices.reverse.set n y).reverse} (w.setCell ⟨cb,n*4+j,none⟩ u)/\Ch (MM g o) w (w.setCell ⟨cb,n*4+j,none⟩ u):=by have hap:=h.apart;have dz:Ch (fun b=>b=cb) w (w.setCell ⟨cb,n*4+j,none⟩ u):=(Ch.refl (fun b=>b=cb) w).setCell (p:=⟨cb,n*4+j,none⟩) (.inl rfl) _;have hZ:∀b,b=cb->MM g o b:=fun b e=> .inr (.inr (.inl (e▸hb)));have hch:Ch (MM g o) w (w.setCell ⟨cb,n*4+j,none⟩ u):=dz.mono fun b _ hb=>hZ b hb;refine⟨⟨(aW _ _ _ _ (fun e=>hap.cg (by rw[hb];exact congrArg some e.symm))).trans h.box,ag.keeps tZ h.prog (hch.keeps fun b hb' hA e=>by have :=(h.rX b e).1;have :=hA.1;have :=hA.2;omega),E5 h.heap hch (bR.refl _ _),h.Kz dz fun b hb' e=>hap.gc b hb' (e▸hb),?_,h.Ij dz hZ (fun b hb' e=>hap.co cb hb (e▸hb')) (bR.refl _ _) rfl,⟨h.bg.1,dm h.bg.2 hch.size⟩,h.wI,h.qb,h.fu,h.qq,h.gl,by simpa using h.cl,h.ol⟩,hch⟩;rw[QO];exact I.set TR h.bC hb hn hj hy hok
structure BG (B : Nat) (w : World) (gs : List Gm) (q : Nat) (query : Int) (ns : List Int) (vb : Nat) (sv : Value) (ak FD : List Nat) (v : Value) (wr : World) : Prop where
  lW : Below B w wr
  two : uu B wr (vD q query gs FD) ns v sv
  marks : gZ wr B (vC gs.length ak) (.slice (some ⟨vb, 0, none⟩) gs.length gs.length)
theorem BG.mark{B:Nat}{gs:List Gm}{query:Int}{ns:List Int}{vb:Nat}{sv v:Value}{ak FD:List Nat}{wr:World}(h:BG B w gs q query ns vb sv ak FD v wr){k:Nat}(hk:k<gs.length):BG B w gs q query ns vb sv (ak++[k]) FD v (wr.setCell ⟨vb,k,none⟩ (.bool true)):=by
 obtain⟨hm, -,he,hB,hs⟩:=gZ.mark h.marks (k:=k) (by rw[Li];exact hk);rw[ajZ]at hm;obtain⟨cm,hcm⟩:=mJ h.marks.1 he;have hv:∀b,ownB v=some b->b≠vb:=fun b hb e=>by obtain⟨c,hc⟩:=mJ h.two.a.1 hb;rw[e]at hc;exact absurd (lG hc hcm) (by decide)
 have hsv:∀b,ownB sv=some b->b≠vb:=fun b hb e=>by obtain⟨c,hc⟩:=mJ h.two.b.1 hb;rw[e]at hc;exact absurd (lG hc hcm) (by decide)
 refine⟨h.lW.setCell hB _,⟨h.two.a.kept fun b hb=>aW _ _ _ _ (hv b hb),h.two.b.kept fun b hb=>aW _ _ _ _ (hsv b hb),h.two.sep⟩,hm⟩
theorem BG.grow{B:Nat}{gs:List Gm}{query:Int}{ns:List Int}{vb:Nat}{sv v v2:Value}{ak FD:List Nat}{wr w2:World}{x:Int}{k:Nat}{cells:Array Value}(h:BG B w gs q query ns vb sv ak FD v wr)(hB:B<=wr.heap.size)(hx:x=((gs[k]?).getD default).at_)(h1:dC w2 B (vD q query gs FD++[x]) v2)(hg:jJ (wr.alloc (.cells cells 3)) w2 v v2):BG B w gs q query ns vb sv ak (FD++[k]) v2 w2:=by
 refine⟨hg.below (h.lW.alloc hB _) (by simp;omega) (fun k hk=>(h.two.a.lt k hk).1),?_,?_⟩;·rw[avs,<-hx];exact(h.two.below ((gQ _ wr).alloc (zL _) _)).app h1 hg
 ·refine(h.marks.below ((gQ _ wr).alloc (zL _) (.cells cells 3))).kept fun b hb=>hg.grown.block b (by have :=(h.marks.lt b hb).2;simp;omega) fun e=>?_;obtain⟨c,hc⟩:=mJ h.marks.1 hb;obtain⟨c2,hc2⟩:=mJ h.two.a.1 e.symm;exact absurd (lG hc hc2) (by decide)
theorem bS.awp{n:Nat}{x:Cm}{tv kv:Int}{cb:Nat}{cs':List Cm}{h0:Hp}{gs:List Gm}{nw qr:Int}{fl:Nat}{ou:List Ev}(h:bS base P q g pv hc ht o ⟨h0,gs,cs'.reverse,nw,qr,fl,ou⟩ w)(hn:n<cs'.length)(hb:ownB o.cv=some cb)(hx:cs'[n]=x)(ht':0<=tv/\tv<=1000000)(hk':0<=kv/\kv<=1000000):bS base P q g pv hc ht o ⟨h0,gs,(cs'.set n ⟨x.goal,x.from_,tv.toNat,kv.toNat⟩).reverse,nw,qr,fl,ou⟩ ((w.setCell ⟨cb,n*4+2,none⟩ (.int .i64 tv)).setCell ⟨cb,n*4+3,none⟩ (.int .i64 kv))/\Ch (MM g o) w ((w.setCell ⟨cb,n*4+2,none⟩ (.int .i64 tv)).setCell ⟨cb,n*4+3,none⟩ (.int .i64 kv)):=by subst hx;have hok:=h.bC.2 cs'[n] (by simp);obtain⟨k1,k2,k3,k4⟩:=hok;have e1:((tv.toNat:Nat):Int)=tv:=Int.toNat_of_nonneg ht'.1;have e2:((kv.toNat:Nat):Int)=kv:=Int.toNat_of_nonneg hk'.1;obtain⟨a1,a2⟩:=h.aki (n:=n) (j:=2) (u:= .int .i64 tv) (y:=⟨cs'[n].goal,cs'[n].from_,tv.toNat,cs'[n].trail⟩) (by simpa using hn) hb (by omega) (by simp[EZ,e1]) ⟨k1,k2,by show tv.toNat<=1000000;omega,k4⟩;simp only[QO]at a1;obtain⟨a3,a4⟩:=a1.aki (n:=n) (j:=3) (u:= .int .i64 kv) (y:=⟨cs'[n].goal,cs'[n].from_,tv.toNat,kv.toNat⟩) (by simpa using hn) hb (by omega) (by simp[EZ,e2]) ⟨k1,k2,by show tv.toNat<=1000000;omega,by show kv.toNat<=1000000;omega⟩;simp only[QO,adT]at a3;exact⟨a3,a2.trans a4 (fun b h=> .inl h)⟩
theorem zZ{g:Nat}{o o':Mo}{w w':World}{l:List Int}{v:Value}(h:gX (MA g o) w l v)(hc:Ch (MM g o) w w')(hg:bR w o o'):gX (MA g o') w' l v:=by obtain⟨h1,h2⟩:=ZC hc hg;exact ag.mono aN (by omega) (ag.keeps aN (ag.mono (A':=fun b=>MA g o b/\b<w.heap.size) aN (by omega) h (fun b hb hA=>⟨hA,hb⟩)) h1) (fun b _ hb=>h2 b hb)
theorem U6{A:Nat->Prop}{w:World}{l:List Int}{a:Option Addr}{len cap:Nat}(h:gX A w l (.slice a len cap)){k:Nat}(hk:k<l.length):∃b off,a=some ⟨b,off,none⟩/\A b/\b<w.heap.size/\w.cell? ⟨b,off+k,none⟩=some (.int .i64 l[k])/\ah l[k]:=by obtain⟨a',cap',b,off,e, -, -, -,ha,he⟩:=ag.at h;simp only[cK]at e;obtain⟨rfl, -, -⟩:=e;obtain⟨rfl,hA⟩:=ha (by omega);obtain⟨h1,h2⟩:=Ef he hA (J.refl _ _) hk;exact⟨b,off,rfl,hA,iW w ⟨b,off+k,none⟩ h1,h1,h2⟩
theorem P9{A:Nat->Prop}{w:World}{l:List Int}{v:Value}(h:gX A w l v):∃a cap,v= .slice a l.length cap/\l.length<=cap/\cap<=maxLen:=by obtain⟨a',cap',b,off,e,h1,h2, -⟩:=ag.at h;exact⟨_,_,e,h1,h2⟩
theorem bS.abK{w':World}{gs':List Gm}(h:bS base P q g pv hc ht o m w)(dz:Ch (fun b=>ownB o.gv=some b) w w')(hg:rV w' base gs' o.gv)(hl:gs'.length<=6000):bS base P q g pv hc ht o {m with goals:=gs'} w'/\Ch (MM g o) w w':=by have hap:=h.apart;have hZ:∀b,ownB o.gv=some b->MM g o b:=fun b e=> .inr (.inl e);have hch:Ch (MM g o) w w':=dz.mono fun b _ hb=>hZ b hb;exact⟨⟨(dz.block g h.lt.1 (fun e=>hap.gg e)).trans h.box,ag.keeps tZ h.prog (hch.keeps fun b hb' hA e=>by have :=(h.rX b e).1;have :=hA.1;have :=hA.2;omega),E5 h.heap hch (bR.refl _ _),hg,h.OJ dz fun b hb' e=>hap.gc b e hb',h.Ij dz hZ (fun b hb' e=>hap.go b e hb') (bR.refl _ _) rfl,⟨h.bg.1,dm h.bg.2 hch.size⟩,h.wI,h.qb,h.fu,h.qq,hl,h.cl,h.ol⟩,hch⟩
structure ym (base : Nat) (o : Mo) (W2 : World) (gs : List Gm) (q : Nat) (R : List Int) (ns : List Int) (vb : Nat) (sv : Value) (ak su : List Nat) (wr : World) : Prop where
  gl : rV wr base (lH R q su gs) o.gv
  ch : Ch (fun b => ownB o.gv = some b) W2 wr
  marks : gZ wr W2.heap.size (vC gs.length ak) (.slice (some ⟨vb, 0, none⟩) gs.length gs.length)
  st : dC wr W2.heap.size ns sv
  lt : ∀ b, ownB o.gv = some b → b < W2.heap.size
theorem ym.mark{W2 wr:World}{gs:List Gm}{R ns:List Int}{vb:Nat}{sv:Value}{ak su:List Nat}(h:ym base o W2 gs q R ns vb sv ak su wr){k:Nat}(hk:k<gs.length):ym base o W2 gs q R ns vb sv (ak++[k]) su (wr.setCell ⟨vb,k,none⟩ (.bool true)):=by
 obtain⟨hm, -,he,hB,hs⟩:=gZ.mark h.marks (k:=k) (by rw[Li];exact hk);rw[ajZ]at hm;obtain⟨cm,hcm⟩:=mJ h.marks.1 he;have hsv:∀b,ownB sv=some b->b≠vb:=fun b hb e=>by obtain⟨c,hc⟩:=mJ h.st.1 hb;rw[e]at hc;exact absurd (lG hc hcm) (by decide)
 exact⟨h.gl.kept fun b hb=>aW _ _ _ _ (by have :=h.lt b hb;show b≠vb;omega),h.ch.setCell (p:=⟨vb,k,none⟩) (.inr hB) _,hm,h.st.kept fun b hb=>aW _ _ _ _ (hsv b hb),h.lt⟩
theorem ym.turn{W2 wr:World}{gs:List Gm}{R ns:List Int}{vb gb:Nat}{sv:Value}{ak su:List Nat}(h:ym base o W2 gs q R ns vb sv ak su wr){k:Nat}(hk:k<gs.length)(hm:k∉su)(hb:ownB o.gv=some gb)(hI:ah ((R[q+su.length]?).getD 0)):ym base o W2 gs q R ns vb sv ak (su++[k]) (wr.setCell ⟨gb,k*3,none⟩ (.int .i64 ((R[q+su.length]?).getD 0))):=by
 have hgb:=h.lt gb hb;have hk2:k<(lH R q su gs).length:=by rw[vE];exact hk
 have hok:=h.gl.2 _ (bN hk2);rw[aj5 hk hm]at hok;refine⟨?_,h.ch.setCell (p:=⟨gb,k*3,none⟩) (.inl hb) _,h.marks.kept fun b hb'=>aW _ _ _ _ (by have :=(h.marks.lt b hb').1;show b≠gb;omega),h.st.kept fun b hb'=>aW _ _ _ _ (by have :=(h.st.lt b hb').1;show b≠gb;omega),h.lt⟩;rw[<-avu hk hm];have :=I.set (y:=(⟨(R[q+su.length]?).getD 0,gs[k].bar,gs[k].next⟩:Gm)) (u:= .int .i64 ((R[q+su.length]?).getD 0)) ZB h.gl hb (i:=k) (j:=0) hk2 (by omega) (by rw[aj5 hk hm];rfl) ⟨hI,hok.2.1,hok.2.2⟩;simpa using this
theorem ym.drew{W2 wr:World}{gs:List Gm}{R ns:List Int}{vb:Nat}{sv:Value}{ak su:List Nat}(h:ym base o W2 gs q R ns vb sv ak su wr):ym base o W2 gs q R ns vb sv ak su wr.drew:=have hb:Below wr.heap.size wr wr.drew:=(Z _ _).drew;⟨h.gl.below hb,h.ch.drew,h.marks.below hb,h.st.below hb,h.lt⟩
def akj(m:Mv)(w0:World)(v48 v49:Value)(wx:World):Prop:=∃(sa:Option Addr)(sc:Nat),v48= .slice sa (jH m).length sc/\v49= .int .i64 ((jH m).length:Int)/\Below w0.heap.size w0 wx/\dC wx w0.heap.size (jH m) (.slice sa (jH m).length sc)
end
