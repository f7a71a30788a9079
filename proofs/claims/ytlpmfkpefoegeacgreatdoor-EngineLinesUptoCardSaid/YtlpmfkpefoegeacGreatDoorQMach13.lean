import Derived.Test.YtlpmfkpefoegeacGreatDoorQMach11
import Derived.Test.YtlpmfkpefoegeacGreatDoorQMarksOf
namespace Go.Proofs.YtlpmfkpefoegeacGreatDoor
set_option maxRecDepth 99999
set_option maxHeartbeats 0
set_option linter.all false
open Go.RowKit
structure ql (B : Nat) (w : World) (la lb : List Int) (av bv : Value) : Prop where
  a : dA w B la av
  b : dA w B lb bv
  sep : ∀ k, ownB av = some k → ownB bv ≠ some k
theorem ql.swap{B:Nat}{w:World}{la lb:List Int}{av bv:Value}(h:ql B w la lb av bv):ql B w lb la bv av:=⟨h.b,h.a,fun k h1 h2=>h.sep k h2 h1⟩
theorem ql.nil(B:Nat)(w:World):ql B w [] [] (.slice none 0 0) (.slice none 0 0):=⟨af.nil,af.nil,fun k h=>by simp[ownB]at h⟩
theorem ql.below{B:Nat}{w w':World}{la lb:List Int}{av bv:Value}(h:ql B w la lb av bv)(hb:Below w.heap.size w w'):ql B w' la lb av bv:=⟨h.a.below hb,h.b.below hb,h.sep⟩
theorem ql.app{B:Nat}{w w':World}{la lb ys:List Int}{av bv v':Value}(h:ql B w la lb av bv)(h1:dA w' B (la++ys) v')(hg:iX w w' av v'):ql B w' (la++ys) lb v' bv:=⟨h1,h.b.kept fun k hk=>hg.grown.block k (h.b.lt k hk).2 (fun e=>h.sep k e.symm hk),fun k e e2=>hg.new (h.b.lt k e2).2 (fun e3=>h.sep k e3 e2) e⟩
theorem wY.app{B:Nat}{w w':World}{av bv v' z:Value}{zs:List Int}(hg:iX w w' av v')(hz:fI (Out B av bv) w zs z):fI (Out B v' bv) w' zs z:=by have h2:=aj.mono (A':=fun b=>Out B av bv b/\ownB v'≠some b) aQ (by omega) hz (fun b hb hb'=>⟨hb',hg.new hb hb'.2.1⟩);have h3:=aj.keeps aQ h2 (hg.keeps (A:=fun b=>Out B av bv b/\ownB v'≠some b) (fun b hb=>hb.1.2.1));exact aj.mono aQ (by omega) h3 (fun b _ hb=>⟨hb.1.1,hb.2,hb.1.2.2⟩)
theorem wY.below{B:Nat}{w w':World}{av bv z:Value}{zs:List Int}(hb:Below w.heap.size w w')(hz:fI (Out B av bv) w zs z):fI (Out B av bv) w' zs z:=aj.keeps aQ hz (ag.ob hb)
theorem wY.made{B:Nat}{w:World}{av bv:Value}{la lb:List Int}{x:Int}(h:ql B w la lb av bv)(hB:B<=w.heap.size)(hx:au x):fI (Out B av bv) (w.alloc (.cells #[.int .i64 x] 3)) [x] (.slice (some ⟨w.heap.size,0,none⟩) 1 1):=by refine⟨w.heap.size,0,⟨by simp,.inr ⟨by simp,⟨hB,fun e=>by have :=(h.a.lt _ e).2;omega,fun e=>by have :=(h.b.lt _ e).2;omega⟩,1,rfl,by simp,by simp[maxLen]⟩⟩,?_⟩;exact LJ aQ (vs:=[.int .i64 x]) _ rfl ⟨hx,rfl⟩
theorem Pj{w:World}{x:Int}(hx:au x):fI (fun b=>b=w.heap.size) (w.alloc (.cells #[.int .i64 x] 3)) [x] (.slice (some ⟨w.heap.size,0,none⟩) 1 1):=by refine⟨w.heap.size,0,⟨by simp,.inr ⟨by simp,rfl,1,rfl,by simp,by simp[maxLen]⟩⟩,?_⟩;exact LJ aQ (vs:=[.int .i64 x]) _ rfl ⟨hx,rfl⟩
def apm(base:Nat)(P:List Cl)(q g:Nat)(pv:Value)(o:Mo)(m':Mv)(w:World)(e:Ending)(w':World):Prop:=(∃r,e= .returned r)/\bJ base P q g pv o m' w w'
structure VS (q : Nat) (m : Mv) : Prop where
  ay : ∀ n ∈ iE m, 0 ≤ n → nN m.goals m.h.cells n.toNat
  i64 : ∀ n ∈ iE m, au n
  qr : ∀ v : Nat, v < q → au (m.query + (v : Nat))
  col : (lL m.h (iV q m) (m.choices.reverse.map fun c => (c.top : Int)) (m.choices.reverse.map fun c => (c.trail : Int))).err = 0 →
    (lL m.h (iV q m) (m.choices.reverse.map fun c => (c.top : Int)) (m.choices.reverse.map fun c => (c.trail : Int))).roots.length = (iV q m).length ∧
    (lL m.h (iV q m) (m.choices.reverse.map fun c => (c.top : Int)) (m.choices.reverse.map fun c => (c.trail : Int))).dP.length = m.choices.length ∧
    (lL m.h (iV q m) (m.choices.reverse.map fun c => (c.top : Int)) (m.choices.reverse.map fun c => (c.trail : Int))).dQ.length = m.choices.length ∧
    (∀ x ∈ (lL m.h (iV q m) (m.choices.reverse.map fun c => (c.top : Int)) (m.choices.reverse.map fun c => (c.trail : Int))).dP, 0 ≤ x ∧ x ≤ 1000000) ∧
    (∀ x ∈ (lL m.h (iV q m) (m.choices.reverse.map fun c => (c.top : Int)) (m.choices.reverse.map fun c => (c.trail : Int))).dQ, 0 ≤ x ∧ x ≤ 1000000)
section
variable {base : Nat} {P : List Cl} {q g : Nat} {pv hc ht : Value} {o : Mo} {m : Mv} {w : World}
theorem bT.aeu{n j:Nat}{u:Value}{y:Cm}{cb:Nat}(h:bT base P q g pv hc ht o m w)(hn:n<m.choices.reverse.length)(hb:ownB o.cv=some cb)(hj:j<4)(hy:Bv y=(Bv m.choices.reverse[n]).set j u)(hok:NJ y):bT base P q g pv hc ht o {m with choices:=(m.choices.reverse.set n y).reverse} (w.setCell ⟨cb,n*4+j,none⟩ u)/\Ch (MM g o) w (w.setCell ⟨cb,n*4+j,none⟩ u):=by have hap:=h.apart;have dZ:Ch (fun b=>b=cb) w (w.setCell ⟨cb,n*4+j,none⟩ u):=(Ch.refl (fun b=>b=cb) w).setCell (p:=⟨cb,n*4+j,none⟩) (.inl rfl) _;have hZ:∀b,b=cb->MM g o b:=fun b e=> .inr (.inr (.inl (e▸hb)));have hch:Ch (MM g o) w (w.setCell ⟨cb,n*4+j,none⟩ u):=dZ.mono fun b _ hb=>hZ b hb;refine⟨⟨(bC _ _ _ _ (fun e=>hap.cg (by rw[hb];exact congrArg some e.symm))).trans h.box,aj.keeps qd h.prog (hch.keeps fun b hb' hA e=>by have :=(h.qY b e).1;have :=hA.1;have :=hA.2;omega),Bw h.heap hch (bU.refl _ _),h.FZ dZ fun b hb' e=>hap.gc b hb' (e▸hb),?_,h.DJ dZ hZ (fun b hb' e=>hap.co cb hb (e▸hb')) (bU.refl _ _) rfl,⟨h.bg.1,dM h.bg.2 hch.size⟩,h.sM,h.qb,h.fu,h.qq,h.gl,by simpa using h.cl,h.ol⟩,hch⟩;rw[Lm];exact af.set NL h.cu hb hn hj hy hok
structure yo (B : Nat) (w : World) (gs : List Gm) (q : Nat) (query : Int) (ns : List Int) (vb : Nat) (sv : Value) (ay Cb : List Nat) (v : Value) (wr : World) : Prop where
  ku : Below B w wr
  two : ql B wr (rE q query gs Cb) ns v sv
  marks : fK wr B (rD gs.length ay) (.slice (some ⟨vb, 0, none⟩) gs.length gs.length)
theorem yo.mark{B:Nat}{gs:List Gm}{query:Int}{ns:List Int}{vb:Nat}{sv v:Value}{ay Cb:List Nat}{wr:World}(h:yo B w gs q query ns vb sv ay Cb v wr){k:Nat}(hk:k<gs.length):yo B w gs q query ns vb sv (ay++[k]) Cb v (wr.setCell ⟨vb,k,none⟩ (.bool true)):=by
 obtain⟨hm, -,he,hB,hs⟩:=fK.mark h.marks (k:=k) (by rw[Gx];exact hk);rw[aea]at hm;obtain⟨cm,hcm⟩:=oU h.marks.1 he;have hv:∀b,ownB v=some b->b≠vb:=fun b hb e=>by obtain⟨c,hc⟩:=oU h.two.a.1 hb;rw[e]at hc;exact absurd (xX hc hcm) (by decide)
 have hsv:∀b,ownB sv=some b->b≠vb:=fun b hb e=>by obtain⟨c,hc⟩:=oU h.two.b.1 hb;rw[e]at hc;exact absurd (xX hc hcm) (by decide)
 refine⟨h.ku.setCell hB _,⟨h.two.a.kept fun b hb=>bC _ _ _ _ (hv b hb),h.two.b.kept fun b hb=>bC _ _ _ _ (hsv b hb),h.two.sep⟩,hm⟩
theorem yo.grow{B:Nat}{gs:List Gm}{query:Int}{ns:List Int}{vb:Nat}{sv v v2:Value}{ay Cb:List Nat}{wr w2:World}{x:Int}{k:Nat}{cells:Array Value}(h:yo B w gs q query ns vb sv ay Cb v wr)(hB:B<=wr.heap.size)(hx:x=((gs[k]?).getD default).at_)(h1:dA w2 B (rE q query gs Cb++[x]) v2)(hg:iX (wr.alloc (.cells cells 3)) w2 v v2):yo B w gs q query ns vb sv ay (Cb++[k]) v2 w2:=by
 refine⟨hg.below (h.ku.alloc hB _) (by simp;omega) (fun k hk=>(h.two.a.lt k hk).1),?_,?_⟩;·rw[aos,<-hx];exact(h.two.below ((gJ _ wr).alloc (zL _) _)).app h1 hg
 ·refine(h.marks.below ((gJ _ wr).alloc (zL _) (.cells cells 3))).kept fun b hb=>hg.grown.block b (by have :=(h.marks.lt b hb).2;simp;omega) fun e=>?_;obtain⟨c,hc⟩:=oU h.marks.1 hb;obtain⟨c2,hc2⟩:=oU h.two.a.1 e.symm;exact absurd (xX hc hc2) (by decide)
theorem bT.apo{n:Nat}{x:Cm}{tv kv:Int}{cb:Nat}{cs':List Cm}{h0:Hp}{gs:List Gm}{nw qr:Int}{fl:Nat}{ou:List Ev}(h:bT base P q g pv hc ht o ⟨h0,gs,cs'.reverse,nw,qr,fl,ou⟩ w)(hn:n<cs'.length)(hb:ownB o.cv=some cb)(hx:cs'[n]=x)(ht':0<=tv/\tv<=1000000)(hk':0<=kv/\kv<=1000000):bT base P q g pv hc ht o ⟨h0,gs,(cs'.set n ⟨x.goal,x.from_,tv.toNat,kv.toNat⟩).reverse,nw,qr,fl,ou⟩ ((w.setCell ⟨cb,n*4+2,none⟩ (.int .i64 tv)).setCell ⟨cb,n*4+3,none⟩ (.int .i64 kv))/\Ch (MM g o) w ((w.setCell ⟨cb,n*4+2,none⟩ (.int .i64 tv)).setCell ⟨cb,n*4+3,none⟩ (.int .i64 kv)):=by subst hx;have hok:=h.cu.2 cs'[n] (by simp);obtain⟨k1,k2,k3,k4⟩:=hok;have e1:((tv.toNat:Nat):Int)=tv:=Int.toNat_of_nonneg ht'.1;have e2:((kv.toNat:Nat):Int)=kv:=Int.toNat_of_nonneg hk'.1;obtain⟨a1,a2⟩:=h.aeu (n:=n) (j:=2) (u:= .int .i64 tv) (y:=⟨cs'[n].goal,cs'[n].from_,tv.toNat,cs'[n].trail⟩) (by simpa using hn) hb (by omega) (by simp[Bv,e1]) ⟨k1,k2,by show tv.toNat<=1000000;omega,k4⟩;simp only[Lm]at a1;obtain⟨a3,a4⟩:=a1.aeu (n:=n) (j:=3) (u:= .int .i64 kv) (y:=⟨cs'[n].goal,cs'[n].from_,tv.toNat,kv.toNat⟩) (by simpa using hn) hb (by omega) (by simp[Bv,e2]) ⟨k1,k2,by show tv.toNat<=1000000;omega,by show kv.toNat<=1000000;omega⟩;simp only[Lm,XT]at a3;exact⟨a3,a2.trans a4 (fun b h=> .inl h)⟩
theorem wZ{g:Nat}{o o':Mo}{w w':World}{l:List Int}{v:Value}(h:fI (MA g o) w l v)(hc:Ch (MM g o) w w')(hg:bU w o o'):fI (MA g o') w' l v:=by obtain⟨h1,h2⟩:=TC hc hg;exact aj.mono aQ (by omega) (aj.keeps aQ (aj.mono (A':=fun b=>MA g o b/\b<w.heap.size) aQ (by omega) h (fun b hb hA=>⟨hA,hb⟩)) h1) (fun b _ hb=>h2 b hb)
theorem Pk{A:Nat->Prop}{w:World}{l:List Int}{a:Option Addr}{len cap:Nat}(h:fI A w l (.slice a len cap)){k:Nat}(hk:k<l.length):∃b off,a=some ⟨b,off,none⟩/\A b/\b<w.heap.size/\w.cell? ⟨b,off+k,none⟩=some (.int .i64 l[k])/\au l[k]:=by obtain⟨a',cap',b,off,e, -, -, -,ha,he⟩:=aj.at h;simp only[eX]at e;obtain⟨rfl, -, -⟩:=e;obtain⟨rfl,hA⟩:=ha (by omega);obtain⟨h1,h2⟩:=AO he hA (ag.refl _ _) hk;exact⟨b,off,rfl,hA,mX w ⟨b,off+k,none⟩ h1,h1,h2⟩
theorem KV{A:Nat->Prop}{w:World}{l:List Int}{v:Value}(h:fI A w l v):∃a cap,v= .slice a l.length cap/\l.length<=cap/\cap<=maxLen:=by obtain⟨a',cap',b,off,e,h1,h2, -⟩:=aj.at h;exact⟨_,_,e,h1,h2⟩
theorem bT.VT{w':World}{gs':List Gm}(h:bT base P q g pv hc ht o m w)(dZ:Ch (fun b=>ownB o.gv=some b) w w')(hg:oV w' base gs' o.gv)(hl:gs'.length<=6000):bT base P q g pv hc ht o {m with goals:=gs'} w'/\Ch (MM g o) w w':=by have hap:=h.apart;have hZ:∀b,ownB o.gv=some b->MM g o b:=fun b e=> .inr (.inl e);have hch:Ch (MM g o) w w':=dZ.mono fun b _ hb=>hZ b hb;exact⟨⟨(dZ.block g h.lt.1 (fun e=>hap.gg e)).trans h.box,aj.keeps qd h.prog (hch.keeps fun b hb' hA e=>by have :=(h.qY b e).1;have :=hA.1;have :=hA.2;omega),Bw h.heap hch (bU.refl _ _),hg,h.JK dZ fun b hb' e=>hap.gc b e hb',h.DJ dZ hZ (fun b hb' e=>hap.go b e hb') (bU.refl _ _) rfl,⟨h.bg.1,dM h.bg.2 hch.size⟩,h.sM,h.qb,h.fu,h.qq,hl,h.cl,h.ol⟩,hch⟩
structure uY (base : Nat) (o : Mo) (W2 : World) (gs : List Gm) (q : Nat) (R : List Int) (ns : List Int) (vb : Nat) (sv : Value) (ay pz : List Nat) (wr : World) : Prop where
  gl : oV wr base (jL R q pz gs) o.gv
  ch : Ch (fun b => ownB o.gv = some b) W2 wr
  marks : fK wr W2.heap.size (rD gs.length ay) (.slice (some ⟨vb, 0, none⟩) gs.length gs.length)
  st : dA wr W2.heap.size ns sv
  lt : ∀ b, ownB o.gv = some b → b < W2.heap.size
theorem uY.mark{W2 wr:World}{gs:List Gm}{R ns:List Int}{vb:Nat}{sv:Value}{ay pz:List Nat}(h:uY base o W2 gs q R ns vb sv ay pz wr){k:Nat}(hk:k<gs.length):uY base o W2 gs q R ns vb sv (ay++[k]) pz (wr.setCell ⟨vb,k,none⟩ (.bool true)):=by
 obtain⟨hm, -,he,hB,hs⟩:=fK.mark h.marks (k:=k) (by rw[Gx];exact hk);rw[aea]at hm;obtain⟨cm,hcm⟩:=oU h.marks.1 he;have hsv:∀b,ownB sv=some b->b≠vb:=fun b hb e=>by obtain⟨c,hc⟩:=oU h.st.1 hb;rw[e]at hc;exact absurd (xX hc hcm) (by decide)
 exact⟨h.gl.kept fun b hb=>bC _ _ _ _ (by have :=h.lt b hb;show b≠vb;omega),h.ch.setCell (p:=⟨vb,k,none⟩) (.inr hB) _,hm,h.st.kept fun b hb=>bC _ _ _ _ (hsv b hb),h.lt⟩
theorem uY.turn{W2 wr:World}{gs:List Gm}{R ns:List Int}{vb gb:Nat}{sv:Value}{ay pz:List Nat}(h:uY base o W2 gs q R ns vb sv ay pz wr){k:Nat}(hk:k<gs.length)(hm:k∉pz)(hb:ownB o.gv=some gb)(hI:au ((R[q+pz.length]?).getD 0)):uY base o W2 gs q R ns vb sv ay (pz++[k]) (wr.setCell ⟨gb,k*3,none⟩ (.int .i64 ((R[q+pz.length]?).getD 0))):=by
 have hgb:=h.lt gb hb;have hk2:k<(jL R q pz gs).length:=by rw[tH];exact hk
 have hok:=h.gl.2 _ (bZ hk2);rw[aef hk hm]at hok;refine⟨?_,h.ch.setCell (p:=⟨gb,k*3,none⟩) (.inl hb) _,h.marks.kept fun b hb'=>bC _ _ _ _ (by have :=(h.marks.lt b hb').1;show b≠gb;omega),h.st.kept fun b hb'=>bC _ _ _ _ (by have :=(h.st.lt b hb').1;show b≠gb;omega),h.lt⟩;rw[<-aov hk hm];have :=af.set (y:=(⟨(R[q+pz.length]?).getD 0,gs[k].bar,gs[k].next⟩:Gm)) (u:= .int .i64 ((R[q+pz.length]?).getD 0)) TB h.gl hb (i:=k) (j:=0) hk2 (by omega) (by rw[aef hk hm];rfl) ⟨hI,hok.2.1,hok.2.2⟩;simpa using this
theorem uY.drew{W2 wr:World}{gs:List Gm}{R ns:List Int}{vb:Nat}{sv:Value}{ay pz:List Nat}(h:uY base o W2 gs q R ns vb sv ay pz wr):uY base o W2 gs q R ns vb sv ay pz wr.drew:=have hb:Below wr.heap.size wr wr.drew:=(zB _ _).drew;⟨h.gl.below hb,h.ch.drew,h.marks.below hb,h.st.below hb,h.lt⟩
def aev(m:Mv)(w0:World)(v48 v49:Value)(wx:World):Prop:=∃(sa:Option Addr)(sc:Nat),v48= .slice sa (iE m).length sc/\v49= .int .i64 ((iE m).length:Int)/\Below w0.heap.size w0 wx/\dA wx w0.heap.size (iE m) (.slice sa (iE m).length sc)
theorem apq(h:bT base P q g pv hc ht o m w)(hpre:VS q m):Calls Tryz.prog 36 #[.pointer (some ⟨g,0,none⟩)] w (apm base P q g pv o (wE q m) w):=by
 have HU:=zh h;have rA:=zh hpre;have tF:=zh (show ∀b,MM g o b->b<w.heap.size from fun b hb=>(h.qY b hb).2);obtain⟨hl1,hl2⟩:=h.lt;obtain⟨gv,cv,ov⟩:=o;obtain⟨pa,pc,ga,gc,ca,cc,oa,oc,ha,hac,hb,hbc,rfl,rfl,rfl,rfl,rfl,rfl, -, -,g1,g2,c1,c2, -⟩:=h.vals;obtain⟨b0,b1,b2,b3,b4,b5,b6,b7,b8,b9,bf⟩:=bP h.box;simp only at b3 b4 b9;unfold maxLen at g2 c2;have hq8:=h.qq;have hgl:=h.gl;have hcl:=h.cl;clear h hpre;go_enter Tryz.func36,Tryz.ntmps36;go_wp2_with fail;go_loopw[22,2](fun i v wr=>∃(j:Nat),j<=q/\i= .int .i64 (j:Int)/\Below w.heap.size w wr/\dA wr w.heap.size ((List.range j).map fun v=>m.query+(v:Nat)) v)(fun i _ _=>q - (intOf i).toNat);case atStart=>exact⟨0,dD _,rfl,zB _ _,af.nil⟩
 case round=>
  obtain⟨j,hj,rfl,hbw,hown⟩:=hrel;have HB:=zh hbw;have HO:=zh hown;have hz:=hbw.size;have hj0:(0:Int)<=(j:Int):=zN _;clear hbw hown b0 b1 b2 b3 b4 b5 b6 b7 b8 b9 bf;obtain⟨b0,b1,b2,b3,b4,b5,b6,b7,b8,b9,bf⟩:=bP (HU.o.below HB.o).box;simp only at b3 b4 b9;obtain⟨va,vc,hv,hvl,mM⟩:=af.val HO.o;rw[show((List.range j).map fun v=>m.query+(v:Nat)).length=j by simp]at hv hvl;subst hv;unfold maxLen at mM;by_cases hlt:j<q
  ·have hlt':(j:Int)<(q:Int):=by omega
   have hI:=rA.o.qr j hlt;have HI:=zh hI;have hwr:IntKind.i64.wrap (m.query+(j:Int))=m.query+(j:Int):=Cw _ hI;have dC:=zh (HO.o.eZ dO (fun _=>True));have fB:=zh (show((List.range (j+1)).map fun v=>m.query+(v:Nat))=((List.range j).map fun v=>m.query+(v:Nat))++[m.query+(j:Int)]by simp[XK]);have HL:=zh (show((List.range j).map fun v=>m.query+(v:Nat)).length<4194304/\w.heap.size<=wr.heap.size from⟨by simp;omega,hz⟩);clear hI;go_wp2_with(at_builtin;go_must(refine iH rfl (.tmp 25) (.tmp 32) 57 rfl w.heap.size 3 1 8 je aQ (A:=fun _=>True) (.slice va j vc) ((List.range j).map fun v=>m.query+(v:Nat)) rfl dC.o (m.query+(j:Int)) [.int .i64 (m.query+(j:Int))] rfl rfl ⟨HI.o,rfl⟩ HL.o ?_);go_must(intro v2 w2 hown2 az));have bE:=zh (af.eB hown2);have HB2:=zh (az.below (HB.o.alloc hz _) (by simp;omega) (fun k hk=>(HO.o.lt k hk).1));clear hown2 az;go_roundw;case rel=>exact⟨j+1,by omega,by go_num,HB2.o,by rw[fB.o];exact bE.o⟩
   case measure=>simp[intOf];omega
  ·have dm:j=q:=by omega
   subst dm;have HV:=zh (HU.o.below HB.o);have ik:=zh (show dA wr w.heap.size (rE j m.query m.goals []) (.slice va j vc)from by rw[rE,Aw,nW];exact HO.o);clear HO hlt;have qM:∀W:World,(Instr.makeSlice 121 (.int .i64 (m.goals.length:Int)) (.int .i64 (m.goals.length:Int))).run Tryz.prog W= .ok (.slice (some ⟨W.heap.size,0,none⟩) m.goals.length m.goals.length) (W.alloc (.cells (Array.replicate m.goals.length (.bool false)) 4)):=fun W=>JQ (bytes:=1) W Tryz.underlying121 (by kernel_rfl) rfl _ (by omega) (by omega);go_wp2_with fail;obtain⟨vb,hvb⟩:∃b,b=wr.heap.size:=⟨_,rfl⟩;obtain⟨W6,yt⟩:∃W,W=wr.alloc (.cells (Array.replicate m.goals.length (.bool false)) 4):=⟨_,rfl⟩;have HM6:=zh (show fK W6 w.heap.size (rD m.goals.length []) (.slice (some ⟨vb,0,none⟩) m.goals.length m.goals.length)by rw[ad9,yt,hvb];exact af.pK (fK.fresh wr m.goals.length (by unfold maxLen;omega)) (fun k hk=>by simp[ownB]at hk;omega));have jT:=zh (show Below w.heap.size w W6 by rw[yt];exact HB.o.alloc hz _);have KW:=zh (show dA W6 w.heap.size (rE j m.query m.goals []) (.slice va j vc)by rw[yt];exact ik.o.below ((zB _ _).alloc (zL _) _));have yj:=zh (HU.o.below jT.o);have hz6:=jT.o.size;rw[<-hvb,<-yt];clear hvb yt qM HB ik HV hz b0 b1 b2 b3 b4 b5 b6 b7 b8 b9 bf;go_upto_region 7 with fail;go_cut[48,49,50](fun v48 v49 v50 wx=>aev m W6 v48 v49 wx/\v50= .int .i64 0);case first=>
    as_aux_lemma=>
     have VU:=zh (fun(W:World)(hbw:Below W6.heap.size W6 W)=>(show W.cell? ⟨g,5,none⟩=some (.int .i64 m.now)from(bP (yj.o.below hbw).box).2.2.2.2.2.1));have KX:=zh (fun(W:World)(hbw:Below W6.heap.size W6 W)=>acm (yj.o.below hbw));have HF:∀{k:Nat},Below W6.heap.size W6 W6.drew:=fun{k}=>(zB _ _).drew;have hI:=zh (show au m.now from yj.o.sM);have hlm:=zh (show(m.choices.reverse.map fun c=>(c.goal:Int)).length+1<=4194304 by have :=yj.o.cl;(try simp only at this);simp;omega);have hsl:=zh (show(iE m)=(m.choices.reverse.map fun c=>(c.goal:Int))++[m.now]from rfl);refine iY (F:=fun k w'=>Below W6.heap.size W6 w') (by kernel_rfl) ?_;refine aC (i:=0) (v:=?_) rfl (Or.inl ⟨by rfl,?_⟩) (HF (k:=0)) ?_;rotate_left;·(intro w' hw;clear hw;go_simp<;>with_reducible rfl)
     try simp only[zP]
     refine aC (i:=2) (v:=?_) rfl (Or.inl ⟨by rfl,?_⟩) (HF (k:=0)) ?_;rotate_left;·(intro w' hw;clear hw;go_simp<;>with_reducible rfl)
     try simp only[zP]
     refine aC (i:=3) (v:=?_) rfl (Or.inl ⟨by rfl,?_⟩) (HF (k:=0)) ?_;rotate_left;·(intro w' hw;clear hw;go_simp<;>with_reducible rfl)
     try simp only[zP]
     refine aC (i:=4) (v:=?_) rfl (Or.inl ⟨by rfl,?_⟩) (HF (k:=0)) ?_;rotate_left;·(intro w' hw;clear hw;go_simp<;>with_reducible rfl)
     try simp only[zP]
     refine aC (i:=5) (v:=?_) rfl (Or.inl ⟨by rfl,?_⟩) (HF (k:=0)) ?_;rotate_left;·(intro w' hw;have q0:=VU.o w' hw;clear hw;go_simp<;>with_reducible rfl)
     try simp only[zP]
     refine aC (i:=9) (v:=?_) rfl (Or.inl ⟨by rfl,?_⟩) (HF (k:=0)) ?_;rotate_left;·(intro w' hw;clear hw;go_simp<;>with_reducible rfl)
     try simp only[zP]
     clear HF;have jS:=zh (show Below W6.heap.size W6 W6.drew from(zB _ _).drew);generalize W6.drew=Wa at*;refine CY (i:=1) (j:=6) (by kernel_rfl) (aF rfl (by rfl) ?_) (aF rfl (by rfl) ?_)
     ·go_simp;refine(KX.o Wa jS.o).mono ?_;rintro e Wc⟨sv,rfl,hb5,hown5⟩;have tJ:=zh (jS.o.trans (hb5.mono jS.o.size));have Ah:=zh (af.pK hown5 (base':=W6.heap.size) (fun k hk=>by have h1:=(hown5.lt k hk).1;have h2:=jS.o.size;omega));clear hb5 hown5;refine⟨fun _ _ _=>tJ.o,?_⟩;try simp only[zP]
      refine aM (i:=6) (by kernel_rfl) (aF rfl (by rfl) ?_);go_simp;have gu:=zh (tJ.o.alloc tJ.o.size (.cells #[.int .i64 m.now] 3));obtain⟨bz,hbz⟩:∃bz,bz=Wc.heap.size:=⟨_,rfl⟩;have hzs:(Wc.alloc (.cells #[.int .i64 m.now] 3)).heap.size=bz+1:=by rw[hbz];simp
      have tK:=zh (show fI (fun b=>b=bz) (Wc.alloc (.cells #[.int .i64 m.now] 3)) [m.now] (.slice (some ⟨bz,0,none⟩) 1 1)from by rw[hbz];exact Pj hI.out);have xe:=zh (Ah.o.below ((gJ _ Wc).alloc (zL _) (.cells #[.int .i64 m.now] 3)));have hne:∀b,b=bz->ownB sv≠some b:=fun b hb e=>by have :=(Ah.o.lt b e).2;omega
      rw[<-hbz];clear hbz;refine⟨fun _ _ _=>gu.o,?_⟩;generalize Wc.alloc (.cells #[.int .i64 m.now] 3)=Wb at*;try simp only[zP]
      refine aM (i:=7) (by kernel_rfl) (aF rfl (by rfl) ?_);have Ee:=zh (show aI _ W6.heap.size 3 1 nu (fun _=>True) (m.choices.reverse.map fun c=>(c.goal:Int)) sv from xe.o.eZ dO _);refine xG (.tmp 42) (.tmp 47) 57 rfl W6.heap.size 3 1 8 je aQ (A:=fun _=>True) sv (m.choices.reverse.map fun c=>(c.goal:Int)) rfl Ee.o (.slice (some ⟨bz,0,none⟩) 1 1) rfl [m.now] (aj.mono aQ (by omega) tK.o (fun b _ hb=>⟨trivial,hne b hb⟩)) hlm.out gu.o.size ?_;intro v2 w2 hown2 az;have bE:=zh (af.eB hown2);have HB2:=zh (az.below gu.o gu.o.size (fun k hk=>(xe.o.lt k hk).1));obtain⟨bN,bO,hv2,qK,qL⟩:=af.val bE.o;rw[<-hsl.out]at hv2 bE;subst hv2;clear hown2 az;refine⟨fun _ _ _=>HB2.o,?_⟩;try simp only[zP]
      refine aM (i:=8) (by kernel_rfl) (aF rfl (by rfl) ?_);go_simp;refine⟨fun _ _ h=>h,fU (by kernel_rfl) ?_ _⟩;try simp only[zP]
      go_wp2_with fail;go_meet;case rel=>exact⟨⟨bN,bO,rfl,rfl,HB2.o,bE.o⟩,rfl⟩
     ·go_simp;have gu:=zh (jS.o.alloc jS.o.size (.cells #[.int .i64 m.now] 3));obtain⟨bz,hbz⟩:∃bz,bz=Wa.heap.size:=⟨_,rfl⟩;have hzs:(Wa.alloc (.cells #[.int .i64 m.now] 3)).heap.size=bz+1:=by rw[hbz];simp
      have tK:=zh (show fI (fun b=>b=bz) (Wa.alloc (.cells #[.int .i64 m.now] 3)) [m.now] (.slice (some ⟨bz,0,none⟩) 1 1)from by rw[hbz];exact Pj hI.out);rw[<-hbz];clear hbz;refine⟨fun _ _ _=>gu.o,?_⟩;generalize Wa.alloc (.cells #[.int .i64 m.now] 3)=Wb at*;try simp only[zP]
      refine aM (i:=1) (by kernel_rfl) (aF rfl (by rfl) ?_);go_simp;refine(KX.o Wb gu.o).mono ?_;rintro e Wc⟨sv,rfl,hb5,hown5⟩;have tJ:=zh (gu.o.trans (hb5.mono gu.o.size));have Ah:=zh (af.pK hown5 (base':=W6.heap.size) (fun k hk=>by have h1:=(hown5.lt k hk).1;have h2:=gu.o.size;omega));have VV:=zh (aj.keeps aQ tK.o (ag.ob hb5));have VW:=zh (fun k(hk:ownB sv=some k)=>(hown5.lt k hk).1);clear hb5 hown5;refine⟨fun _ _ _=>tJ.o,?_⟩;try simp only[zP]
      have hne:∀b,b=bz->ownB sv≠some b:=fun b hb e=>by have :=VW.o b e;omega
      clear gu tK;have gu:=zh tJ.o;have xe:=zh Ah.o;have tK:=zh VV.o;refine aM (i:=7) (by kernel_rfl) (aF rfl (by rfl) ?_);have Ee:=zh (show aI _ W6.heap.size 3 1 nu (fun _=>True) (m.choices.reverse.map fun c=>(c.goal:Int)) sv from xe.o.eZ dO _);refine xG (.tmp 42) (.tmp 47) 57 rfl W6.heap.size 3 1 8 je aQ (A:=fun _=>True) sv (m.choices.reverse.map fun c=>(c.goal:Int)) rfl Ee.o (.slice (some ⟨bz,0,none⟩) 1 1) rfl [m.now] (aj.mono aQ (by omega) tK.o (fun b _ hb=>⟨trivial,hne b hb⟩)) hlm.out gu.o.size ?_;intro v2 w2 hown2 az;have bE:=zh (af.eB hown2);have HB2:=zh (az.below gu.o gu.o.size (fun k hk=>(xe.o.lt k hk).1));obtain⟨bN,bO,hv2,qK,qL⟩:=af.val bE.o;rw[<-hsl.out]at hv2 bE;subst hv2;clear hown2 az;refine⟨fun _ _ _=>HB2.o,?_⟩;try simp only[zP]
      refine aM (i:=8) (by kernel_rfl) (aF rfl (by rfl) ?_);go_simp;refine⟨fun _ _ h=>h,fU (by kernel_rfl) ?_ _⟩;try simp only[zP]
      go_wp2_with fail;go_meet;case rel=>exact⟨⟨bN,bO,rfl,rfl,HB2.o,bE.o⟩,rfl⟩
   case rest=>
    obtain⟨⟨sa,sc,rfl,rfl,Ai,xg⟩,rfl⟩:=hcut;have Kl:=zh (show yo w.heap.size w m.goals j m.query (iE m) vb (.slice sa (iE m).length sc) (gI m.goals (iE m) 0) (gI m.goals (iE m) 0) (.slice va j vc) wc from⟨jT.o.trans (Ai.mono hz6),⟨KW.o.below Ai,af.pK xg (fun k hk=>by have :=(xg.lt k hk).1;omega),fun k e e2=>by have h1:=(KW.o.lt k e).2;have h2:=(xg.lt k e2).1;omega⟩,HM6.o.below Ai⟩);obtain⟨ns,hns⟩:∃ns,ns=iE m:=⟨_,rfl⟩;have KY:=zh hns;have KZ:=zh (fun n(h:n∈ns)=>rA.o.ay n (hns▸h));have HNI:=zh (fun n(h:n∈ns)=>rA.o.i64 n (hns▸h));have hnl:ns.length<=1001:=by rw[hns];simp[iE];omega
    rw[<-hns]at Kl xg;rw[<-hns];have at7:=zh (af.val xg);clear Ai xg hns HM6 KW;go_wp2_with fail;go_loopw[50,2](fun i v wr=>∃(i1:Nat),i1<=ns.length/\i= .int .i64 (i1:Int)/\yo w.heap.size w m.goals j m.query ns vb (.slice sa ns.length sc) (gI m.goals ns i1) (gI m.goals ns i1) v wr)(fun i _ _=>ns.length - (intOf i).toNat);case atStart=>exact⟨0,dD _,rfl,Kl.o⟩
    case round=>
     obtain⟨i1,hi1,rfl,hf1⟩:=hrel;have tL:=zh hf1;have hi0:(0:Int)<=(i1:Int):=zN _;clear hf1 Kl;by_cases pQ:i1<ns.length
     ·have VX:(i1:Int)<(ns.length:Int):=by omega
      obtain⟨sg,scp,hse, -, -, -, -, -,hsl, -,hsc⟩:=af.at dO tL.o.two.b (by omega);simp only[eX,fH]at hse;obtain⟨rfl,rfl⟩:=hse;have hs0:=hsc i1 pQ 0 _ rfl;simp only[yF,qz]at hs0;have HI1:=zh (HNI.o _ (bZ pQ));have nE:=zh (show Under m.goals m.h.cells (gI m.goals ns (i1+1)) ns[i1] (gI m.goals ns i1)by rw[Pd pQ];exact Under.start (KQ KZ.o i1) (Gy ns i1) (KZ.o _ (bZ pQ)));generalize ns[i1]=n0 at*;clear hsc;go_wp2_with fail;clear hs0 hsl;go_loopw[8,2](fun nv v wr=>∃(n:Int)(ay:List Nat),nv= .int .i64 n/\Under m.goals m.h.cells (gI m.goals ns (i1+1)) n ay/\au n/\yo w.heap.size w m.goals j m.query ns vb (.slice (some ⟨sg,0,none⟩) ns.length sc) ay ay v wr)(fun nv _ _=>(intOf nv+1).toNat);case atStart=>exact⟨n0,_,rfl,nE.o,HI1.o,tL.o⟩
      case round=>
       obtain⟨n,ay,rfl,hun,hni,hf2⟩:=hrel;have gZ:=zh hun;have lU:=zh hf2;clear hun hf2 nE tL HI1;by_cases hn0:n<0
       ·have hT:=zh (gZ.o.neg hn0);have hnn:¬(0<=n):=by omega
        go_wp2_with fail;go_roundw;case rel=>exact⟨i1+1,by omega,by go_num,by rw[hT.out];exact lU.o⟩
        case measure=>simp[intOf];omega
       ·obtain⟨k,rfl⟩:=eu (show 0<=n by omega);obtain⟨hkl,hdn⟩:=gZ.o.down (by omega);rw[dB]at hkl hdn;have hk0:(0:Int)<=(k:Int):=zN _;have hk1:(k:Int)<(m.goals.length:Int):=by omega
        have Cc:=fK.cells lU.o.marks k (by rw[Gx];exact hkl);rw[KP]at Cc;obtain⟨aps,apt⟩:=lU.o.marks.lt vb (by simp[ownB];intro h;simp[h]at hkl);by_cases hmem:k∈ay
        ·have hT:=zh (gZ.o.seen (by omega) (by rw[dB];exact hmem));rw[kJ hmem]at Cc;clear hmem hdn hn0;go_wp2_with fail;go_roundw;case rel=>exact⟨i1+1,by omega,by go_num,by rw[hT.out];exact lU.o⟩
         case measure=>simp[intOf];omega
        ·have Aj:=zh (gZ.o.next (by omega) (by rw[dB];exact hmem));rw[dB]at Aj;rw[decide_eq_false hmem]at Cc;have Ak:=zh (lU.o.mark hkl);clear hmem hn0;have yn:=zh (HU.o.below lU.o.ku);obtain⟨b0,b1,b2,b3,b4,b5,b6,b7,b8,b9,bf⟩:=bP yn.o.box;simp only at b3;obtain⟨gb,rfl,Pm,lK, -, -,e0,e1,e2,GD⟩:=oV.cells yn.o.goals hkl;have apu:=zh (tF.o gb (.inr (.inl Pm)));have aua:gb≠vb:=by have :=apu.out;omega
         have hgv:g≠vb:=by omega
         have hcs:=dz;obtain⟨-,hfv, -⟩:=fK.mark lU.o.marks (k:=k) (by rw[Gx];exact hkl);rw[aS hkl]at Aj;simp only[qw]at Aj;have wQ:=zh (show m.goals[k].at_=((m.goals[k]?).getD default).at_ by rw[aS hkl];rfl);have gW:=zh GD.2.1;have xP:=zh GD.1;have hz3:=Ak.o.ku.size;obtain⟨xa,xc,hxe,hxl,hxm⟩:=af.val lU.o.two.a;rw[VQ]at hxe hxl;have hvl:=zh (show ay.length<=6000 by have :=gZ.o.few;omega);have dC:=zh (show aI _ w.heap.size 3 1 nu (fun _=>True) (rE j m.query m.goals ay) _ from Ak.o.two.a.eZ dO _);have HL:=zh (show(rE j m.query m.goals ay).length<4194304/\w.heap.size<=(wr.setCell ⟨vb,k,none⟩ (.bool true)).heap.size from⟨by rw[VQ];have :=hvl.out;omega,hz3⟩);rw[aS hkl]at hdn;have Pn:=zh (show m.goals[k].next<(k:Int)from hdn);obtain⟨gk,kU⟩:∃gk,gk=m.goals[k]:=⟨_,rfl⟩;rw[<-kU]at e0 e1 e2 GD Aj wQ gW xP Pn;have Jq:=zh kU;subst hxe;clear hz3 kU hdn;go_wp2_with(at_builtin;go_must(refine iH rfl (.tmp 66) (.tmp 75) 57 rfl w.heap.size 3 1 8 je aQ (A:=fun _=>True) _ (rE j m.query m.goals ay) rfl dC.o gk.at_ [.int .i64 gk.at_] (by simp only[mZ];rfl) rfl ⟨xP.o,rfl⟩ HL.o ?_);go_must(intro v2 w2 hown2 az;have Cf:=zh (yo.grow Ak.o HL.o.2 wQ.o (af.eB hown2) az);clear hown2 az b0 b1 b2 b3 b4 b5 b6 b7 b8 b9 bf e0 e1 e2 GD;have yh:=zh (HU.o.below Cf.o.ku);obtain⟨b0,b1,b2,b3,b4,b5,b6,b7,b8,b9,bf⟩:=bP yh.o.box;simp only at b3;obtain⟨gb4,Dt, -,apw, -, -,e0,e1,e2, -⟩:=oV.cells yh.o.goals hkl;simp only[cZ,Ey,ug]at Dt;subst Dt;rw[<-Jq.o]at e0 e1 e2;have aeo:=yh.o.lt.1));go_roundw;case rel=>exact⟨gk.next,ay++[k],rfl,Aj.o,gW.o,Cf.o⟩
         case measure=>have :=Pn.o;simp[intOf];omega
     ·have hT:=zh (Pe (gs:=m.goals) (ns:=ns) (j:=i1) (by omega));have Al:=tL.o;rw[hT.out]at Al;obtain⟨ra,rc,hre,hrl,hrm⟩:=af.val Al.two.a;rw[VQ]at hre hrl;subst hre;have K3:=zh Al;obtain⟨W5,jR⟩:∃W5:World,W5=wr:=⟨_,rfl⟩;rw[<-jR]at K3;have HV5:=zh (HU.o.below K3.o.ku);have uM:=K3.o.ku.size;obtain⟨b0,b1,b2,b3,b4,b5,b6,b7,b8,b9,bf⟩:=bP HV5.o.box;simp only at b4;have hcl0:(0:Int)<=(m.choices.length:Int):=zN _;rw[<-jR];have VX:(ns.length:Int)<=(i1:Int):=by omega
      clear Al tL hT pQ jR;go_wp2_with fail;clear b0 b1 b2 b3 b4 b5 b6 b7 b8 b9 bf;obtain⟨cs,Pp⟩:∃cs,cs=m.choices.reverse:=⟨_,rfl⟩;have FY:m.choices.length=cs.length:=by rw[Pp,Ct]
      have BG:=zh Pp;have BL:=zh (show oW W5 base cs (.slice ca cs.length cc)by have :=HV5.o.cu;rw[<-Pp]at this;simp only at this;rwa[FY]at this);rw[FY];rw[FY]at hcl c1 hcl0;have nK:=zh FY;clear Pp FY;go_loopw[91,3,4](fun i tv kv wr=>∃(j4:Nat),j4<=cs.length/\i= .int .i64 (j4:Int)/\Below W5.heap.size W5 wr/\ql W5.heap.size wr ((cs.take j4).map fun c=>(c.top:Int)) ((cs.take j4).map fun c=>(c.trail:Int)) tv kv)(fun i _ _ _=>cs.length - (intOf i).toNat);case atStart=>exact⟨0,dD _,rfl,zB _ _,ql.nil _ _⟩
      case round=>
       obtain⟨j4,hj4,rfl,hb4,aeA⟩:=hrel;have dH:=zh hb4;have Pq:=zh aeA;have apy:=hb4.size;have aub:(0:Int)<=(j4:Int):=zN _;clear hb4 aeA;by_cases hl4:j4<cs.length
       ·have apz:(j4:Int)<(cs.length:Int):=by omega
        obtain⟨cb,rfl,K4,DN, -, -,d0,d1,d2,d3,VY⟩:=oW.cells (BL.o.below dH.o) hl4;have VZ:=zh (show(cs.take (j4+1)).map (fun c=>(c.top:Int))=(cs.take j4).map (fun c=>(c.top:Int))++[(cs[j4].top:Int)]by rw[fF hl4,mF,Ar]);have pg:=zh (show(cs.take (j4+1)).map (fun c=>(c.trail:Int))=(cs.take j4).map (fun c=>(c.trail:Int))++[(cs[j4].trail:Int)]by rw[fF hl4,mF,Ar]);generalize cs[j4]=x at*;have HI1:=zh (show au (x.top:Int)by have :=VY.2.2.1;unfold au;omega);have HI2:=zh (show au (x.trail:Int)by have :=VY.2.2.2;unfold au;omega);obtain⟨W8,wU⟩:∃W8,W8=wr.alloc (.cells #[.int .i64 (x.goal:Int),.int .i64 (x.from_:Int),.int .i64 (x.top:Int),.int .i64 (x.trail:Int)] 124):=⟨_,rfl⟩;obtain⟨xb,hxb⟩:∃xb,xb=wr.heap.size:=⟨_,rfl⟩;have iB:=zh (Pq.o.below ((gJ _ wr).alloc (zL _) (.cells #[.int .i64 (x.goal:Int),.int .i64 (x.from_:Int),.int .i64 (x.top:Int),.int .i64 (x.trail:Int)] 124)));have qj:=zh (dH.o.alloc apy (.cells #[.int .i64 (x.goal:Int),.int .i64 (x.from_:Int),.int .i64 (x.top:Int),.int .i64 (x.trail:Int)] 124));have sQ:=zh (bV wr (.cells #[.int .i64 (x.goal:Int),.int .i64 (x.from_:Int),.int .i64 (x.top:Int),.int .i64 (x.trail:Int)] 124));rw[<-wU]at iB qj sQ;rw[<-hxb]at sQ;have GG:=zh (show cs.length<=1000 by omega);have HW8:=zh wU;have Pt:=zh hxb;have hcs:=dz;clear wU hxb;go_wp2_with fail;rw[<-Pt.o,<-HW8.o];have iM:=zh (show ∀b,ownB u3=some b->b≠xb from fun b hb=>by have :=(Pq.o.a.lt b hb).2;have :=Pt.o;omega);have fq:=zh (show ∀b,ownB u4=some b->b≠xb from fun b hb=>by have :=(Pq.o.b.lt b hb).2;have :=Pt.o;omega);clear d0 d1 d2 d3 VY hcs Pt HW8 K4;refine iY (F:=fun k w'=>w'.heap[xb]?=some (.cells #[.int .i64 (x.goal:Int),.int .i64 (x.from_:Int),.int .i64 (x.top:Int),.int .i64 (x.trail:Int)] 124 (0,0))) (by kernel_rfl) ?_;have V3:W8.drew.heap[xb]?=some (.cells #[.int .i64 (x.goal:Int),.int .i64 (x.from_:Int),.int .i64 (x.top:Int),.int .i64 (x.trail:Int)] 124 (0,0)):=sQ.o;have aeC:=zh (iB.o.below ((gJ _ W8).drew));have aeD:=zh (qj.o.drew);have HF:∀{k:Nat},W8.drew.heap[xb]?=some (.cells #[.int .i64 (x.goal:Int),.int .i64 (x.from_:Int),.int .i64 (x.top:Int),.int .i64 (x.trail:Int)] 124 (0,0)):=fun{k}=>V3;refine aC (i:=0) (v:=?_) rfl (Or.inl ⟨by rfl,?_⟩) (HF (k:=0)) ?_;rotate_left;·(intro w' hw;clear hw;go_simp<;>with_reducible rfl)
        try simp only[zP]
        refine aC (i:=1) (v:=?_) rfl (Or.inl ⟨by rfl,?_⟩) (HF (k:=0)) ?_;rotate_left;·(intro w' hw;clear hw;go_simp<;>with_reducible rfl)
        try simp only[zP]
        refine aC (i:=2) (v:=?_) rfl (Or.inl ⟨by rfl,?_⟩) (HF (k:=0)) ?_;rotate_left;·(intro w' hw;obtain⟨q0,q1,q2,q3,qf⟩:=aW hw;clear hw;go_simp<;>with_reducible rfl)
        try simp only[zP]
        refine aC (i:=5) (v:=?_) rfl (Or.inl ⟨by rfl,?_⟩) (HF (k:=0)) ?_;rotate_left;·(intro w' hw;clear hw;go_simp<;>with_reducible rfl)
        try simp only[zP]
        refine aC (i:=6) (v:=?_) rfl (Or.inl ⟨by rfl,?_⟩) (HF (k:=0)) ?_;rotate_left;·(intro w' hw;clear hw;go_simp<;>with_reducible rfl)
        try simp only[zP]
        refine aC (i:=7) (v:=?_) rfl (Or.inl ⟨by rfl,?_⟩) (HF (k:=0)) ?_;rotate_left;·(intro w' hw;obtain⟨q0,q1,q2,q3,qf⟩:=aW hw;clear hw;go_simp<;>with_reducible rfl)
        try simp only[zP]
        have aeE:=zh V3;have Pw:=zh aeC.o;have GH:=zh aeD.o;clear HF V3 aeC aeD iB qj sQ;generalize W8.drew=Wa at*;refine CY (i:=3) (j:=8) (by kernel_rfl) (aF rfl (by rfl) ?_) (aF rfl (by rfl) ?_)
        ·go_simp;have V4:=zh (wY.made Pw.o GH.o.size HI1.o);have GI:=zh (GH.o.alloc GH.o.size (.cells #[.int .i64 (x.top:Int)] 3));have K5:=zh (Pw.o.below ((gJ _ Wa).alloc (zL _) (.cells #[.int .i64 (x.top:Int)] 3)));have Px:=zh (aX aeE.o (.cells #[.int .i64 (x.top:Int)] 3));obtain⟨z1,hz1⟩:∃z,z=Wa.heap.size:=⟨_,rfl⟩;rw[<-hz1]at V4;rw[<-hz1];clear hz1;refine⟨fun _ _ _=>Px.o,?_⟩;generalize Wa.alloc (.cells #[.int .i64 (x.top:Int)] 3)=X1 at*;try simp only[zP]
         refine CY (i:=4) (j:=8) (by kernel_rfl) (aF rfl (by rfl) ?_) (aF rfl (by rfl) ?_)
         ·have dC:=zh (show aI X1 W5.heap.size 3 1 nu (fun _=>True) ((cs.take j4).map fun c=>(c.top:Int)) u3 from K5.o.a.eZ dO _);refine xG (.tmp 95) (.tmp 98) 57 rfl W5.heap.size 3 1 8 je aQ (A:=fun _=>True) u3 ((cs.take j4).map fun c=>(c.top:Int)) rfl dC.o (.slice (some ⟨z1,0,none⟩) 1 1) rfl [(x.top:Int)] (aj.mono aQ (by omega) V4.o (fun b _ hb=>⟨trivial,hb.2.1⟩)) (by have :=GG.out;simp;omega) GI.o.size ?_;intro va X2 hown2 az;have aeF:=zh (K5.o.app (af.eB hown2) az);have sF:=zh (az.below GI.o GI.o.size (fun k hk=>(K5.o.a.lt k hk).1));have aeG:=zh ((az.grown.block xb (aD Px.o) (fun e=>iM.o _ e.symm rfl)).trans Px.o);clear hown2 az dC;refine⟨fun _ _ _=>aeG.o,?_⟩;try simp only[zP]
          refine aM (i:=8) (by kernel_rfl) (aF rfl (by rfl) ?_);go_simp;have aeH:=zh (wY.made aeF.o sF.o.size HI2.o);have V5:=zh (sF.o.alloc sF.o.size (.cells #[.int .i64 (x.trail:Int)] 3));have V6:=zh (aeF.o.below ((gJ _ X2).alloc (zL _) (.cells #[.int .i64 (x.trail:Int)] 3)));have V7:=zh (aX aeG.o (.cells #[.int .i64 (x.trail:Int)] 3));obtain⟨z2,hz2⟩:∃z,z=X2.heap.size:=⟨_,rfl⟩;rw[<-hz2]at aeH;rw[<-hz2];clear hz2;refine⟨fun _ _ _=>V7.o,?_⟩;generalize X2.alloc (.cells #[.int .i64 (x.trail:Int)] 3)=X3 at*;try simp only[zP]
          refine aM (i:=9) (by kernel_rfl) (aF rfl (by rfl) ?_);have dC:=zh (show aI X3 W5.heap.size 3 1 nu (fun _=>True) ((cs.take j4).map fun c=>(c.trail:Int)) u4 from V6.o.swap.a.eZ dO _);refine xG (.tmp 100) (.tmp 103) 57 rfl W5.heap.size 3 1 8 je aQ (A:=fun _=>True) u4 ((cs.take j4).map fun c=>(c.trail:Int)) rfl dC.o (.slice (some ⟨z2,0,none⟩) 1 1) rfl [(x.trail:Int)] (aj.mono aQ (by omega) aeH.o (fun b _ hb=>⟨trivial,hb.2.2⟩)) (by have :=GG.out;simp;omega) V5.o.size ?_;intro Am X4 hown2 az;have V8:=zh (V6.o.swap.app (af.eB hown2) az);have sG:=zh (az.below V5.o V5.o.size (fun k hk=>(V6.o.swap.a.lt k hk).1));have apA:=zh ((az.grown.block xb (aD V7.o) (fun e=>fq.o _ e.symm rfl)).trans V7.o);replace V8:=zh V8.o.swap;clear hown2 az dC;refine⟨fun _ _ _=>apA.o,?_⟩;try simp only[zP]
          refine aM (i:=10) (by kernel_rfl) (aF rfl (by rfl) ?_);go_simp;refine⟨fun _ _ h=>h,?_⟩;try simp only[zP]
          refine aM (i:=11) (by kernel_rfl) (aF rfl (by rfl) ?_);go_simp;refine⟨fun _ _ h=>h,fU (by kernel_rfl) ?_ _⟩;try simp only[zP]
          go_wp2_with fail;go_roundw;case rel=>exact⟨j4+1,by omega,by go_num,sG.o,by rw[VZ.o,pg.o];exact V8.o⟩
          case measure=>simp[intOf];omega
         ·go_simp;have aeI:=zh (wY.made K5.o GI.o.size HI2.o);have V9:=zh (GI.o.alloc GI.o.size (.cells #[.int .i64 (x.trail:Int)] 3));have We:=zh (K5.o.below ((gJ _ X1).alloc (zL _) (.cells #[.int .i64 (x.trail:Int)] 3)));have Wh:=zh (aX Px.o (.cells #[.int .i64 (x.trail:Int)] 3));have apB:=zh (wY.below ((gJ _ X1).alloc (zL _) (.cells #[.int .i64 (x.trail:Int)] 3)) V4.o);obtain⟨z2,hz2⟩:∃z,z=X1.heap.size:=⟨_,rfl⟩;rw[<-hz2]at aeI;rw[<-hz2];clear hz2;refine⟨fun _ _ _=>Wh.o,?_⟩;generalize X1.alloc (.cells #[.int .i64 (x.trail:Int)] 3)=X5 at*;try simp only[zP]
          refine aM (i:=4) (by kernel_rfl) (aF rfl (by rfl) ?_);have dC:=zh (show aI X5 W5.heap.size 3 1 nu (fun _=>True) ((cs.take j4).map fun c=>(c.top:Int)) u3 from We.o.a.eZ dO _);refine xG (.tmp 95) (.tmp 98) 57 rfl W5.heap.size 3 1 8 je aQ (A:=fun _=>True) u3 ((cs.take j4).map fun c=>(c.top:Int)) rfl dC.o (.slice (some ⟨z1,0,none⟩) 1 1) rfl [(x.top:Int)] (aj.mono aQ (by omega) apB.o (fun b _ hb=>⟨trivial,hb.2.1⟩)) (by have :=GG.out;simp;omega) V9.o.size ?_;intro va X6 hown2 az;have Wi:=zh (We.o.app (af.eB hown2) az);have Wj:=zh (az.below V9.o V9.o.size (fun k hk=>(We.o.a.lt k hk).1));have Wl:=zh ((az.grown.block xb (aD Wh.o) (fun e=>iM.o _ e.symm rfl)).trans Wh.o);have apC:=zh (wY.app az aeI.o);clear hown2 az dC;refine⟨fun _ _ _=>Wl.o,?_⟩;try simp only[zP]
          refine aM (i:=9) (by kernel_rfl) (aF rfl (by rfl) ?_);have dC:=zh (show aI X6 W5.heap.size 3 1 nu (fun _=>True) ((cs.take j4).map fun c=>(c.trail:Int)) u4 from Wi.o.swap.a.eZ dO _);refine xG (.tmp 100) (.tmp 103) 57 rfl W5.heap.size 3 1 8 je aQ (A:=fun _=>True) u4 ((cs.take j4).map fun c=>(c.trail:Int)) rfl dC.o (.slice (some ⟨z2,0,none⟩) 1 1) rfl [(x.trail:Int)] (aj.mono aQ (by omega) apC.o (fun b _ hb=>⟨trivial,hb.2.2⟩)) (by have :=GG.out;simp;omega) Wj.o.size ?_;intro Am X7 hown2 az;have Wm:=zh (Wi.o.swap.app (af.eB hown2) az);have apD:=zh (az.below Wj.o Wj.o.size (fun k hk=>(Wi.o.swap.a.lt k hk).1));have apE:=zh ((az.grown.block xb (aD Wl.o) (fun e=>fq.o _ e.symm rfl)).trans Wl.o);replace Wm:=zh Wm.o.swap;clear hown2 az dC;refine⟨fun _ _ _=>apE.o,?_⟩;try simp only[zP]
          refine aM (i:=10) (by kernel_rfl) (aF rfl (by rfl) ?_);go_simp;refine⟨fun _ _ h=>h,?_⟩;try simp only[zP]
          refine aM (i:=11) (by kernel_rfl) (aF rfl (by rfl) ?_);go_simp;refine⟨fun _ _ h=>h,fU (by kernel_rfl) ?_ _⟩;try simp only[zP]
          go_wp2_with fail;go_roundw;case rel=>exact⟨j4+1,by omega,by go_num,apD.o,by rw[VZ.o,pg.o];exact Wm.o⟩
          case measure=>simp[intOf];omega
        ·go_simp;have aeJ:=zh (wY.made Pw.o GH.o.size HI2.o);have Wn:=zh (GH.o.alloc GH.o.size (.cells #[.int .i64 (x.trail:Int)] 3));have aeK:=zh (Pw.o.below ((gJ _ Wa).alloc (zL _) (.cells #[.int .i64 (x.trail:Int)] 3)));have aeL:=zh (aX aeE.o (.cells #[.int .i64 (x.trail:Int)] 3));obtain⟨z2,hz2⟩:∃z,z=Wa.heap.size:=⟨_,rfl⟩;rw[<-hz2]at aeJ;rw[<-hz2];clear hz2;refine⟨fun _ _ _=>aeL.o,?_⟩;generalize Wa.alloc (.cells #[.int .i64 (x.trail:Int)] 3)=X8 at*;try simp only[zP]
         refine aM (i:=3) (by kernel_rfl) (aF rfl (by rfl) ?_);go_simp;have aeM:=zh (wY.made aeK.o Wn.o.size HI1.o);have Wo:=zh (Wn.o.alloc Wn.o.size (.cells #[.int .i64 (x.top:Int)] 3));have Wp:=zh (aeK.o.below ((gJ _ X8).alloc (zL _) (.cells #[.int .i64 (x.top:Int)] 3)));have Wq:=zh (aX aeL.o (.cells #[.int .i64 (x.top:Int)] 3));have apF:=zh (wY.below ((gJ _ X8).alloc (zL _) (.cells #[.int .i64 (x.top:Int)] 3)) aeJ.o);obtain⟨z1,hz1⟩:∃z,z=X8.heap.size:=⟨_,rfl⟩;rw[<-hz1]at aeM;rw[<-hz1];clear hz1;refine⟨fun _ _ _=>Wq.o,?_⟩;generalize X8.alloc (.cells #[.int .i64 (x.top:Int)] 3)=X9 at*;try simp only[zP]
         refine aM (i:=4) (by kernel_rfl) (aF rfl (by rfl) ?_);have dC:=zh (show aI X9 W5.heap.size 3 1 nu (fun _=>True) ((cs.take j4).map fun c=>(c.top:Int)) u3 from Wp.o.a.eZ dO _);refine xG (.tmp 95) (.tmp 98) 57 rfl W5.heap.size 3 1 8 je aQ (A:=fun _=>True) u3 ((cs.take j4).map fun c=>(c.top:Int)) rfl dC.o (.slice (some ⟨z1,0,none⟩) 1 1) rfl [(x.top:Int)] (aj.mono aQ (by omega) aeM.o (fun b _ hb=>⟨trivial,hb.2.1⟩)) (by have :=GG.out;simp;omega) Wo.o.size ?_;intro va X10 hown2 az;have Ws:=zh (Wp.o.app (af.eB hown2) az);have Wt:=zh (az.below Wo.o Wo.o.size (fun k hk=>(Wp.o.a.lt k hk).1));have Wu:=zh ((az.grown.block xb (aD Wq.o) (fun e=>iM.o _ e.symm rfl)).trans Wq.o);have apH:=zh (wY.app az apF.o);clear hown2 az dC;refine⟨fun _ _ _=>Wu.o,?_⟩;try simp only[zP]
         refine aM (i:=9) (by kernel_rfl) (aF rfl (by rfl) ?_);have dC:=zh (show aI X10 W5.heap.size 3 1 nu (fun _=>True) ((cs.take j4).map fun c=>(c.trail:Int)) u4 from Ws.o.swap.a.eZ dO _);refine xG (.tmp 100) (.tmp 103) 57 rfl W5.heap.size 3 1 8 je aQ (A:=fun _=>True) u4 ((cs.take j4).map fun c=>(c.trail:Int)) rfl dC.o (.slice (some ⟨z2,0,none⟩) 1 1) rfl [(x.trail:Int)] (aj.mono aQ (by omega) apH.o (fun b _ hb=>⟨trivial,hb.2.2⟩)) (by have :=GG.out;simp;omega) Wt.o.size ?_;intro Am X11 hown2 az;have Wv:=zh (Ws.o.swap.app (af.eB hown2) az);have apI:=zh (az.below Wt.o Wt.o.size (fun k hk=>(Ws.o.swap.a.lt k hk).1));have apJ:=zh ((az.grown.block xb (aD Wu.o) (fun e=>fq.o _ e.symm rfl)).trans Wu.o);replace Wv:=zh Wv.o.swap;clear hown2 az dC;refine⟨fun _ _ _=>apJ.o,?_⟩;try simp only[zP]
         refine aM (i:=10) (by kernel_rfl) (aF rfl (by rfl) ?_);go_simp;refine⟨fun _ _ h=>h,?_⟩;try simp only[zP]
         refine aM (i:=11) (by kernel_rfl) (aF rfl (by rfl) ?_);go_simp;refine⟨fun _ _ h=>h,fU (by kernel_rfl) ?_ _⟩;try simp only[zP]
         go_wp2_with fail;go_roundw;case rel=>exact⟨j4+1,by omega,by go_num,apI.o,by rw[VZ.o,pg.o];exact Wv.o⟩
         case measure=>simp[intOf];omega
       ·have hT1:=zh (show((cs.take j4).map fun c=>(c.top:Int))=cs.map fun c=>(c.top:Int)by rw[jU (by omega)]);have hT2:=zh (show((cs.take j4).map fun c=>(c.trail:Int))=cs.map fun c=>(c.trail:Int)by rw[jU (by omega)]);have Ww:=Pq.o;rw[hT1.out,hT2.out]at Ww;have Py:=zh Ww;have apz:(cs.length:Int)<=(j4:Int):=by omega
        have HRO:=zh (show dA wr w.heap.size (iV j m) (.slice ra (j+(mV m.goals ns).length) rc)from by have :=K3.o.two.a.below dH.o;rw[show iV j m=rE j m.query m.goals (mV m.goals ns)by rw[KY.o];rfl];exact this);have Wx:=zh (K3.o.ku.trans (dH.o.mono uM));have apK:=Wx.o.size;have HVr:=zh (HU.o.below Wx.o);obtain⟨b0,b1,b2,b3,b4,b5,b6,b7,b8,b9,bf⟩:=bP HVr.o.box;have apL:=VO m.goals.length (mV m.goals ns) (by have :=Gy (gs:=m.goals) ns ns.length;rwa[Pe (zL _)]at this) (by have :=KQ (gs:=m.goals) (ns:=ns) KZ.o ns.length;rwa[Pe (zL _)]at this);have hrlen:(iV j m).length=j+(mV m.goals ns).length:=by rw[KY.o];simp[iV]
        have ze:=zh (aj.mono (A:=fun b=>w.heap.size<=b) (A':=MA g ⟨.slice ga m.goals.length gc,.slice ca m.choices.length cc,.slice oa m.out.length oc⟩) aQ (by omega) (dA.sl HRO.o (by rw[hrlen];omega) (A:=fun b=>w.heap.size<=b) (fun b hb=>(HRO.o.lt b hb).1)) (fun b _ hb hm=>by have :=tF.o b hm;omega));have HAT:=zh (aj.mono (A:=fun b=>w.heap.size<=b) (A':=MA g ⟨.slice ga m.goals.length gc,.slice ca m.choices.length cc,.slice oa m.out.length oc⟩) aQ (by omega) (dA.sl Py.o.a (by simp;omega) (A:=fun b=>w.heap.size<=b) (fun b hb=>by have :=(Py.o.a.lt b hb).1;omega)) (fun b _ hb hm=>by have :=tF.o b hm;omega));have HAK:=zh (aj.mono (A:=fun b=>w.heap.size<=b) (A':=MA g ⟨.slice ga m.goals.length gc,.slice ca m.choices.length cc,.slice oa m.out.length oc⟩) aQ (by omega) (dA.sl Py.o.b (by simp;omega) (A:=fun b=>w.heap.size<=b) (fun b hb=>by have :=(Py.o.b.lt b hb).1;omega)) (fun b _ hb hm=>by have :=tF.o b hm;omega));have KU:=zh (aoC m.h (iV j m) (cs.map fun c=>(c.top:Int)) (cs.map fun c=>(c.trail:Int)) _ wr _ _ _ _ HVr.o.heap ze.o HAT.o HAK.o);have HCP:=zh rA.o.col;rw[<-BG.o]at HCP;have HCM:=zh (show wE j m=if(lL m.h (iV j m) (cs.map fun c=>(c.top:Int)) (cs.map fun c=>(c.trail:Int))).err≠0 then m else⟨(lL m.h (iV j m) (cs.map fun c=>(c.top:Int)) (cs.map fun c=>(c.trail:Int))).heap,jL (lL m.h (iV j m) (cs.map fun c=>(c.top:Int)) (cs.map fun c=>(c.trail:Int))).roots j (mV m.goals ns) m.goals,(kW (lL m.h (iV j m) (cs.map fun c=>(c.top:Int)) (cs.map fun c=>(c.trail:Int))).dP (lL m.h (iV j m) (cs.map fun c=>(c.top:Int)) (cs.map fun c=>(c.trail:Int))).dQ cs.length cs).reverse,m.now,if j>0 then((lL m.h (iV j m) (cs.map fun c=>(c.top:Int)) (cs.map fun c=>(c.trail:Int))).roots[0]?).getD 0 else m.query,m.fuel,m.out⟩by rw[aox,KY.o,BG.o];rfl);generalize lL m.h (iV j m) (cs.map fun c=>(c.top:Int)) (cs.map fun c=>(c.trail:Int))=C at*;clear hT1 hT2 Ww hl4 apL hj4;go_wp2_with fail;refine KU.o.mono ?_;rintro e w6⟨r,rfl,hb6,us,va6,vb6,vc6,rfl,BM,wT,Ve,hm6⟩;obtain⟨lS,hcc,nM,htc,rfl, -⟩:=Hp.kY BM;have Pz:=zh (show ∀b,(MA g ⟨.slice ga m.goals.length gc,.slice ca m.choices.length cc,.slice oa m.out.length oc⟩ b\/New wr b)->MA g ⟨.slice ga m.goals.length gc,.slice ca m.choices.length cc,.slice oa m.out.length oc⟩ b from fun b hb hm=>hb.elim (fun h=>h hm) (fun h=>by have h1:=tF.o b hm;unfold New at h;omega));have Vd:=zh (BM.mono (fun b _ hb=>Pz.o b hb));have I6:=zh (aj.mono aQ (by omega) wT (fun b _ hb=>Pz.o b hb));have KL:=zh (aj.mono aQ (by omega) Ve (fun b _ hb=>Pz.o b hb));have HK6:=zh (aj.mono aQ (by omega) hm6 (fun b _ hb=>Pz.o b hb));have PD:=zh (Wx.o.trans (hb6.mono apK));have apO:=PD.o.size;clear BM wT Ve hm6 hb6 b0 b1 b2 b3 b4 b5 b6 b7 b8 b9 bf;by_cases hce:C.err=0
        ·rw[hce];have Wy:=zh (HU.o.below PD.o);obtain⟨b0,b1,b2,b3,b4,b5,b6,b7,b8,b9,bf⟩:=bP Wy.o.box;have aug:=Wy.o.lt.1;have hcs:=dz;go_upto_if 130 with fail;obtain⟨hc8,Vl,o8,BN,BO,Ea⟩:=Wy.o.setH Vd.o;have wV:=zh (BN.below ((zB _ _).alloc (zL _) (.cells #[.slice lS C.heap.cells.length hcc,.slice nM C.heap.trail.length htc] 59)));have Eb:=zh (BO.alloc (.cells #[.slice lS C.heap.cells.length hcc,.slice nM C.heap.trail.length htc] 59));have Gv:=zh Ea;obtain⟨W8,wU⟩:∃W,W=(((w6.setCell ⟨g,1,none⟩ (.slice lS C.heap.cells.length hcc)).setCell ⟨g,2,none⟩ (.slice nM C.heap.trail.length htc)).alloc (.cells #[.slice lS C.heap.cells.length hcc,.slice nM C.heap.trail.length htc] 59)):=⟨_,rfl⟩;rw[<-wU]at wV Eb;rw[<-wU];clear BN BO Ea wU b0 b1 b2 b3 b4 b5 b6 b7 b8 b9 bf;have Gp:=zh (wZ I6.o Eb.o Gv.o);have iB:=zh (wZ KL.o Eb.o Gv.o);have HK8:=zh (wZ HK6.o Eb.o Gv.o);obtain⟨qr,xW⟩:∃qr,qr=if j>0 then(C.roots[0]?).getD 0 else m.query:=⟨_,rfl⟩;have KH:=zh xW;have gX:=zh (HCP.o hce);obtain⟨ra6,rc6,rfl, -⟩:=KV Gp.o;obtain⟨ta6,tc6,rfl, -⟩:=KV iB.o;obtain⟨ka6,kc6,rfl, -⟩:=KV HK8.o;have Wz:=zh (show C.roots.length=j+(mV m.goals ns).length by rw[gX.o.1,hrlen]);clear xW hrlen;go_cut[](fun wx=>∃GJ GK o9,bT base P j g (.slice pa P.length pc) GJ GK o9 ⟨C.heap,m.goals,m.choices,m.now,qr,m.fuel,m.out⟩ wx/\Ch (MM g o8) W8 wx/\bU W8 o8 o9);case first=>
          obtain⟨b0,b1,b2,b3,b4,b5,b6,b7,b8,b9,bf⟩:=bP wV.o.box;by_cases hj0:0<j
          ·obtain⟨rb,ro,rfl,PE,apP,hr0,K6⟩:=Pk Gp.o (k:=0) (by rw[Wz.o];omega);simp only[qz]at hr0;have hl0:0<C.roots.length:=by rw[Wz.o];omega
           have hq2:=zh (show qr=C.roots[0]by rw[KH.o,ah hj0,aS hl0];rfl);have HQI:=zh K6;have hne:rb≠g:=fun e=>PE (.inl e);generalize C.roots[0]=r0 at*;clear K6 PE;go_wp2_with fail;go_meet;case rel=>have hst:=wV.o.F3 (m':=⟨C.heap,m.goals,m.choices,m.now,qr,m.fuel,m.out⟩) 7 (.int .i64 qr) ⟨rfl,rfl,rfl,rfl⟩ ((bI wV.o.box 7 _).trans rfl) wV.o.sM (by rw[hq2.out];exact HQI.o) wV.o.fu;rw[hq2.out]at hst ⊢;obtain⟨c,t,o',h1,h2,h3⟩:=hst;exact⟨c,t,o',h1,h2,h3⟩
          ·have hq2:=zh (show qr=m.query by rw[KH.o,ae hj0]);go_wp2_with fail;go_meet;case rel=>rw[hq2.out];exact⟨hc8,Vl,o8,wV.o,Ch.refl _ _,bU.refl _ _⟩
         case rest=>
          obtain⟨GJ,GK,o9,qm,nT,tN⟩:=hcut;generalize wc=W9 at*;have iW:=zh qm;have apR:=zh nT;have apS:=zh tN;have Fq:=zh (wZ Gp.o nT tN);have eF:=zh (wZ iB.o nT tN);have HK9:=zh (wZ HK8.o nT tN);have HG9:=zh (show ∀b,ownB o9.gv=some b->b<W9.heap.size from fun b hb=>(qm.goals.lt b hb).2);clear qm nT tN;obtain⟨gv9,cv9,ov9⟩:=o9;obtain⟨-, -,Cg,tO,Ef,xh,GL,GM,ha9,aeU,Eg,aeV, -,e1,e2,e3,rfl,rfl, -, -,g91,g92,c91,c92, -⟩:=iW.o.vals;simp only at e1 e2 e3 g91 c91;subst e1 e2 e3;unfold maxLen at g92 c92;obtain⟨b0,b1,b2,b3,b4,b5,b6,b7,b8,b9,bf⟩:=bP iW.o.box;simp only at b3 b4;have qM:∀W:World,(Instr.makeSlice 121 (.int .i64 (m.goals.length:Int)) (.int .i64 (m.goals.length:Int))).run Tryz.prog W= .ok (.slice (some ⟨W.heap.size,0,none⟩) m.goals.length m.goals.length) (W.alloc (.cells (Array.replicate m.goals.length (.bool false)) 4)):=fun W=>JQ (bytes:=1) W Tryz.underlying121 (by kernel_rfl) rfl _ (by omega) (by omega);go_wp2_with fail;obtain⟨Am,WA⟩:∃b,b=W9.heap.size:=⟨_,rfl⟩;obtain⟨jl,BI⟩:∃W,W=W9.alloc (.cells (Array.replicate m.goals.length (.bool false)) 4):=⟨_,rfl⟩;have aeW:=zh (show fK jl W9.heap.size (rD m.goals.length []) (.slice (some ⟨Am,0,none⟩) m.goals.length m.goals.length)by rw[ad9,BI,WA];exact fK.fresh W9 m.goals.length (by unfold maxLen;omega));have D5:=zh (show Below W9.heap.size W9 jl by rw[BI];exact(zB _ _).alloc (zL _) _);have K7:=zh (iW.o.below D5.o);have OI:=D5.o.size;rw[<-WA,<-BI];clear WA BI qM b0 b1 b2 b3 b4 b5 b6 b7 b8 b9 bf;go_upto_region 27 with fail;go_cut[154,155,156](fun v48 v49 v50 wx=>aev m jl v48 v49 wx/\v50= .int .i64 0);case first=>
           as_aux_lemma=>
            have VU:=zh (fun(W:World)(hbw:Below jl.heap.size jl W)=>(show W.cell? ⟨g,5,none⟩=some (.int .i64 m.now)from(bP (K7.o.below hbw).box).2.2.2.2.2.1));have KX:=zh (fun(W:World)(hbw:Below jl.heap.size jl W)=>acm (K7.o.below hbw));have HF:∀{k:Nat},Below jl.heap.size jl jl.drew:=fun{k}=>(zB _ _).drew;have hI:=zh (show au m.now from K7.o.sM);have hlm:=zh (show(m.choices.reverse.map fun c=>(c.goal:Int)).length+1<=4194304 by have :=K7.o.cl;(try simp only at this);simp;omega);have hsl:=zh (show(iE m)=(m.choices.reverse.map fun c=>(c.goal:Int))++[m.now]from rfl);refine iY (F:=fun k w'=>Below jl.heap.size jl w') (by kernel_rfl) ?_;refine aC (i:=0) (v:=?_) rfl (Or.inl ⟨by rfl,?_⟩) (HF (k:=0)) ?_;rotate_left;·(intro w' hw;clear hw;go_simp<;>with_reducible rfl)
            try simp only[zP]
            refine aC (i:=2) (v:=?_) rfl (Or.inl ⟨by rfl,?_⟩) (HF (k:=0)) ?_;rotate_left;·(intro w' hw;clear hw;go_simp<;>with_reducible rfl)
            try simp only[zP]
            refine aC (i:=3) (v:=?_) rfl (Or.inl ⟨by rfl,?_⟩) (HF (k:=0)) ?_;rotate_left;·(intro w' hw;clear hw;go_simp<;>with_reducible rfl)
            try simp only[zP]
            refine aC (i:=4) (v:=?_) rfl (Or.inl ⟨by rfl,?_⟩) (HF (k:=0)) ?_;rotate_left;·(intro w' hw;clear hw;go_simp<;>with_reducible rfl)
            try simp only[zP]
            refine aC (i:=5) (v:=?_) rfl (Or.inl ⟨by rfl,?_⟩) (HF (k:=0)) ?_;rotate_left;·(intro w' hw;have q0:=VU.o w' hw;clear hw;go_simp<;>with_reducible rfl)
            try simp only[zP]
            refine aC (i:=9) (v:=?_) rfl (Or.inl ⟨by rfl,?_⟩) (HF (k:=0)) ?_;rotate_left;·(intro w' hw;clear hw;go_simp<;>with_reducible rfl)
            try simp only[zP]
            clear HF;have jS:=zh (show Below jl.heap.size jl jl.drew from(zB _ _).drew);generalize jl.drew=Wa at*;refine CY (i:=1) (j:=6) (by kernel_rfl) (aF rfl (by rfl) ?_) (aF rfl (by rfl) ?_)
            ·go_simp;refine(KX.o Wa jS.o).mono ?_;rintro e Wc⟨sv,rfl,hb5,hown5⟩;have tJ:=zh (jS.o.trans (hb5.mono jS.o.size));have Ah:=zh (af.pK hown5 (base':=jl.heap.size) (fun k hk=>by have h1:=(hown5.lt k hk).1;have h2:=jS.o.size;omega));clear hb5 hown5;refine⟨fun _ _ _=>tJ.o,?_⟩;try simp only[zP]
             refine aM (i:=6) (by kernel_rfl) (aF rfl (by rfl) ?_);go_simp;have gu:=zh (tJ.o.alloc tJ.o.size (.cells #[.int .i64 m.now] 3));obtain⟨bz,hbz⟩:∃bz,bz=Wc.heap.size:=⟨_,rfl⟩;have hzs:(Wc.alloc (.cells #[.int .i64 m.now] 3)).heap.size=bz+1:=by rw[hbz];simp
             have tK:=zh (show fI (fun b=>b=bz) (Wc.alloc (.cells #[.int .i64 m.now] 3)) [m.now] (.slice (some ⟨bz,0,none⟩) 1 1)from by rw[hbz];exact Pj hI.out);have xe:=zh (Ah.o.below ((gJ _ Wc).alloc (zL _) (.cells #[.int .i64 m.now] 3)));have hne:∀b,b=bz->ownB sv≠some b:=fun b hb e=>by have :=(Ah.o.lt b e).2;omega
             rw[<-hbz];clear hbz;refine⟨fun _ _ _=>gu.o,?_⟩;generalize Wc.alloc (.cells #[.int .i64 m.now] 3)=Wb at*;try simp only[zP]
             refine aM (i:=7) (by kernel_rfl) (aF rfl (by rfl) ?_);have Ee:=zh (show aI _ jl.heap.size 3 1 nu (fun _=>True) (m.choices.reverse.map fun c=>(c.goal:Int)) sv from xe.o.eZ dO _);refine xG (.tmp 148) (.tmp 153) 57 rfl jl.heap.size 3 1 8 je aQ (A:=fun _=>True) sv (m.choices.reverse.map fun c=>(c.goal:Int)) rfl Ee.o (.slice (some ⟨bz,0,none⟩) 1 1) rfl [m.now] (aj.mono aQ (by omega) tK.o (fun b _ hb=>⟨trivial,hne b hb⟩)) hlm.out gu.o.size ?_;intro v2 w2 hown2 az;have bE:=zh (af.eB hown2);have HB2:=zh (az.below gu.o gu.o.size (fun k hk=>(xe.o.lt k hk).1));obtain⟨bN,bO,hv2,qK,qL⟩:=af.val bE.o;rw[<-hsl.out]at hv2 bE;subst hv2;clear hown2 az;refine⟨fun _ _ _=>HB2.o,?_⟩;try simp only[zP]
             refine aM (i:=8) (by kernel_rfl) (aF rfl (by rfl) ?_);go_simp;refine⟨fun _ _ h=>h,fU (by kernel_rfl) ?_ _⟩;try simp only[zP]
             go_wp2_with fail;go_meet;case rel=>exact⟨⟨bN,bO,rfl,rfl,HB2.o,bE.o⟩,rfl⟩
            ·go_simp;have gu:=zh (jS.o.alloc jS.o.size (.cells #[.int .i64 m.now] 3));obtain⟨bz,hbz⟩:∃bz,bz=Wa.heap.size:=⟨_,rfl⟩;have hzs:(Wa.alloc (.cells #[.int .i64 m.now] 3)).heap.size=bz+1:=by rw[hbz];simp
             have tK:=zh (show fI (fun b=>b=bz) (Wa.alloc (.cells #[.int .i64 m.now] 3)) [m.now] (.slice (some ⟨bz,0,none⟩) 1 1)from by rw[hbz];exact Pj hI.out);rw[<-hbz];clear hbz;refine⟨fun _ _ _=>gu.o,?_⟩;generalize Wa.alloc (.cells #[.int .i64 m.now] 3)=Wb at*;try simp only[zP]
             refine aM (i:=1) (by kernel_rfl) (aF rfl (by rfl) ?_);go_simp;refine(KX.o Wb gu.o).mono ?_;rintro e Wc⟨sv,rfl,hb5,hown5⟩;have tJ:=zh (gu.o.trans (hb5.mono gu.o.size));have Ah:=zh (af.pK hown5 (base':=jl.heap.size) (fun k hk=>by have h1:=(hown5.lt k hk).1;have h2:=gu.o.size;omega));have VV:=zh (aj.keeps aQ tK.o (ag.ob hb5));have VW:=zh (fun k(hk:ownB sv=some k)=>(hown5.lt k hk).1);clear hb5 hown5;refine⟨fun _ _ _=>tJ.o,?_⟩;try simp only[zP]
             have hne:∀b,b=bz->ownB sv≠some b:=fun b hb e=>by have :=VW.o b e;omega
             clear gu tK;have gu:=zh tJ.o;have xe:=zh Ah.o;have tK:=zh VV.o;refine aM (i:=7) (by kernel_rfl) (aF rfl (by rfl) ?_);have Ee:=zh (show aI _ jl.heap.size 3 1 nu (fun _=>True) (m.choices.reverse.map fun c=>(c.goal:Int)) sv from xe.o.eZ dO _);refine xG (.tmp 148) (.tmp 153) 57 rfl jl.heap.size 3 1 8 je aQ (A:=fun _=>True) sv (m.choices.reverse.map fun c=>(c.goal:Int)) rfl Ee.o (.slice (some ⟨bz,0,none⟩) 1 1) rfl [m.now] (aj.mono aQ (by omega) tK.o (fun b _ hb=>⟨trivial,hne b hb⟩)) hlm.out gu.o.size ?_;intro v2 w2 hown2 az;have bE:=zh (af.eB hown2);have HB2:=zh (az.below gu.o gu.o.size (fun k hk=>(xe.o.lt k hk).1));obtain⟨bN,bO,hv2,qK,qL⟩:=af.val bE.o;rw[<-hsl.out]at hv2 bE;subst hv2;clear hown2 az;refine⟨fun _ _ _=>HB2.o,?_⟩;try simp only[zP]
             refine aM (i:=8) (by kernel_rfl) (aF rfl (by rfl) ?_);go_simp;refine⟨fun _ _ h=>h,fU (by kernel_rfl) ?_ _⟩;try simp only[zP]
             go_wp2_with fail;go_meet;case rel=>exact⟨⟨bN,bO,rfl,rfl,HB2.o,bE.o⟩,rfl⟩
          case rest=>
           obtain⟨⟨sa2,N8,rfl,rfl,Ai,xg⟩,rfl⟩:=hcut;rw[<-KY.o]at xg;rw[<-KY.o];have HS0:=zh (show uY base ⟨.slice Cg m.goals.length tO,.slice Ef m.choices.length xh,.slice GL m.out.length GM⟩ W9 m.goals j C.roots ns Am (.slice sa2 ns.length N8) (gI m.goals ns 0) (gI m.goals ns 0) wc from⟨by rw[aee,aot];exact(K7.o.below Ai).goals,Ch.of_below (D5.o.trans (Ai.mono OI)),aeW.o.below Ai,af.pK xg (fun k hk=>by have :=(xg.lt k hk).1;omega),HG9.o⟩);clear Ai xg aeW;go_wp2_with fail;go_loopw[156,13](fun i kv wr=>∃(i1:Nat),i1<=ns.length/\i= .int .i64 (i1:Int)/\kv= .int .i64 ((j+(gI m.goals ns i1).length:Nat):Int)/\uY base ⟨.slice Cg m.goals.length tO,.slice Ef m.choices.length xh,.slice GL m.out.length GM⟩ W9 m.goals j C.roots ns Am (.slice sa2 ns.length N8) (gI m.goals ns i1) (gI m.goals ns i1) wr)(fun i _ _=>ns.length - (intOf i).toNat);case atStart=>exact⟨0,dD _,rfl,rfl,HS0.o⟩
           case round=>
            obtain⟨i1,hi1,rfl,rfl,hf1⟩:=hrel;have tL:=zh hf1;have hi0:(0:Int)<=(i1:Int):=zN _;clear hf1 HS0;by_cases pQ:i1<ns.length
            ·have auq:(i1:Int)<(ns.length:Int):=by omega
             obtain⟨sg,scp,hse, -, -, -, -, -,hsl, -,hsc⟩:=af.at dO tL.o.st (by omega);simp only[eX,fH]at hse;obtain⟨rfl,rfl⟩:=hse;have hs0:=hsc i1 pQ 0 _ rfl;simp only[yF,qz]at hs0;have HI1:=zh (HNI.o _ (bZ pQ));have nE:=zh (show Under m.goals m.h.cells (gI m.goals ns (i1+1)) ns[i1] (gI m.goals ns i1)by rw[Pd pQ];exact Under.start (KQ KZ.o i1) (Gy ns i1) (KZ.o _ (bZ pQ)));generalize ns[i1]=n0 at*;clear hsc VX;go_wp2_with fail;clear hs0 hsl;go_loopw[16,13](fun nv kv wr=>∃(n:Int)(ay:List Nat),nv= .int .i64 n/\kv= .int .i64 ((j+ay.length:Nat):Int)/\Under m.goals m.h.cells (gI m.goals ns (i1+1)) n ay/\au n/\uY base ⟨.slice Cg m.goals.length tO,.slice Ef m.choices.length xh,.slice GL m.out.length GM⟩ W9 m.goals j C.roots ns Am (.slice (some ⟨sg,0,none⟩) ns.length N8) ay ay wr)(fun nv _ _=>(intOf nv+1).toNat);case atStart=>exact⟨n0,_,rfl,rfl,nE.o,HI1.o,tL.o⟩
             case round=>
              obtain⟨n,ay,rfl,rfl,hun,hni,hf2⟩:=hrel;have gZ:=zh hun;have lU:=zh hf2;clear hun hf2 nE tL HI1;by_cases hn0:n<0
              ·have hT:=zh (gZ.o.neg hn0);have hnn:¬(0<=n):=by omega
               go_wp2_with fail;go_roundw;case rel=>exact⟨i1+1,by omega,by go_num,by rw[hT.out],by rw[hT.out];exact lU.o⟩
               case measure=>simp[intOf];omega
              ·obtain⟨k,rfl⟩:=eu (show 0<=n by omega);obtain⟨hkl,hdn⟩:=gZ.o.down (by omega);rw[dB]at hkl hdn;have hk0:(0:Int)<=(k:Int):=zN _;have hk1:(k:Int)<(m.goals.length:Int):=by omega
               have Cc:=fK.cells lU.o.marks k (by rw[Gx];exact hkl);rw[KP]at Cc;obtain⟨aps,apt⟩:=lU.o.marks.lt Am (by simp[ownB];intro h;simp[h]at hkl);by_cases hmem:k∈ay
               ·have hT:=zh (gZ.o.seen (by omega) (by rw[dB];exact hmem));rw[kJ hmem]at Cc;clear hmem hdn hn0;go_wp2_with fail;go_roundw;case rel=>exact⟨i1+1,by omega,by go_num,by rw[hT.out],by rw[hT.out];exact lU.o⟩
                case measure=>simp[intOf];omega
               ·have Aj:=zh (gZ.o.next (by omega) (by rw[dB];exact hmem));rw[dB]at Aj;rw[decide_eq_false hmem]at Cc;have Ak:=zh (lU.o.mark hkl);obtain⟨-,hfv, -⟩:=fK.mark lU.o.marks (k:=k) (by rw[Gx];exact hkl);have WB:j+ay.length<C.roots.length:=by have h1:=Aj.o.pre;have h2:=(h1.trans (aor m.goals ns (i1+1))).length_le;rw[bA,dW]at h2;rw[Wz.o];omega
                have rO:=zh hmem;clear hmem hn0;go_wp2_with fail;clear Cc hfv;obtain⟨aeZ,WC⟩:=iW.o.VT Ak.o.ch Ak.o.gl (by rw[tH];omega);have lG:=zh WC;have yn:=zh aeZ;have HR3:=zh (wZ Fq.o WC (bU.refl _ _));have ae0:=zh Ak.o;clear aeZ WC;generalize wr.setCell ⟨Am,k,none⟩ (.bool true)=W3 at*;obtain⟨b0,b1,b2,b3,b4,b5,b6,b7,b8,b9,bf⟩:=bP yn.o.box;simp only at b3;have apY:k<(jL C.roots j ay m.goals).length:=by rw[tH];exact hkl
                obtain⟨gb,hgb,Pm,lK, -,hgf,e0,e1,e2,GD⟩:=oV.cells (ca:=Cg) (cc:=tO) (show oV W3 base (jL C.roots j ay m.goals) (.slice Cg (jL C.roots j ay m.goals).length tO)by rw[tH];exact ae0.o.gl) apY;subst hgb;rw[tH]at Pm;obtain⟨rb,ro,apZ,PE,apP,hr0,K6⟩:=Pk HR3.o WB;subst apZ;have hj9:(0:Int)<=((j+ay.length:Nat):Int):=zN _;have ap1:((j+ay.length:Nat):Int)<(C.roots.length:Int):=by omega
                have hf9:=gZ.o.few;have ap2:((j+ay.length:Nat):Int)<=7000:=by omega
                have HRV:=zh (show C.roots[j+ay.length]=(C.roots[j+ay.length]?).getD 0 by rw[aS WB];rfl);have Cf:=zh ((ae0.o.turn hkl rO.o Pm (by rw[<-HRV.o];exact K6)).drew);rw[<-HRV.o]at Cf;clear K6 PE GD;generalize C.roots[j+ay.length]=rv at*;obtain⟨jk,hjk⟩:∃jk,jk=j+ay.length:=⟨_,rfl⟩;have HJK:=zh hjk;rw[<-hjk]at hr0 hj9 ap1 ap2 WB;rw[<-hjk];have WG:∃u,W3.drew.cell? ⟨gb,k*3,none⟩=some u:=⟨_,e0⟩;obtain⟨u0,WG⟩:=WG;clear hjk e0 e1 e2;have ae2:W3.drew.cell? ⟨g,3,none⟩=some (.slice (some ⟨gb,0,none⟩) m.goals.length tO):=b3;have ae3:W3.drew.cell? ⟨rb,ro+jk,none⟩=some (.int .i64 rv):=hr0;have ap4:∀o,W3.drew.frozen? ⟨gb,o,none⟩=false:=hgf;clear b0 b1 b2 b3 b4 b5 b6 b7 b8 b9 bf hr0 hgf;have HF:∀{k':Nat},((k'=3->W3.drew.cell? ⟨g,3,none⟩=some (.slice (some ⟨gb,0,none⟩) m.goals.length tO))/\(k'=8->W3.drew.cell? ⟨rb,ro+jk,none⟩=some (.int .i64 rv))):=fun{k'}=>⟨fun _=>ae2,fun _=>ae3⟩;refine iY (F:=fun k' w'=>(k'=3->w'.cell? ⟨g,3,none⟩=some (.slice (some ⟨gb,0,none⟩) m.goals.length tO))/\(k'=8->w'.cell? ⟨rb,ro+jk,none⟩=some (.int .i64 rv))) (by kernel_rfl) ?_;refine zT 0 HF ?_;try simp only[zP]
                refine zT 1 HF ?_;try simp only[zP]
                refine zT 2 HF ?_;try simp only[zP]
                refine aC (i:=3) (v:=?_) rfl (Or.inl ⟨by rfl,?_⟩) HF ?_;rotate_left;·(intro w' hw;have q0:=hw.1 rfl;clear hw;go_simp<;>with_reducible rfl)
                try simp only[zP]
                refine zT 4 HF ?_;try simp only[zP]
                refine zT 5 HF ?_;try simp only[zP]
                refine zT 6 HF ?_;try simp only[zP]
                refine zT 7 HF ?_;try simp only[zP]
                refine aC (i:=8) (v:=?_) rfl (Or.inl ⟨by rfl,?_⟩) HF ?_;rotate_left;·(intro w' hw;have q0:=hw.2 rfl;clear hw;go_simp<;>with_reducible rfl)
                try simp only[zP]
                refine zT 9 HF ?_;try simp only[zP]
                refine zT 10 HF ?_;try simp only[zP]
                refine aM (i:=11) (by kernel_rfl) (aF rfl (by rfl) ?_);go_simp;refine⟨fun k' hk' _=>⟨fun h=>?_,fun h=>?_⟩,fU (by kernel_rfl) ?_ _⟩;·subst h;exact absurd (hk'.symm.trans (by kernel_rfl):false=true) jV
                ·subst h;exact absurd (hk'.symm.trans (by kernel_rfl):false=true) jV
                clear HF ae2 ae3 ap4 WG;obtain⟨ae4,ap5⟩:=iW.o.VT Cf.o.ch Cf.o.gl (by rw[tH];omega);have yh:=zh ae4;clear ae4 ap5;try simp only[zP]
                generalize(W3.setCell ⟨gb,k*3,none⟩ (.int .i64 rv)).drew=W4 at*;obtain⟨b0,b1,b2,b3,b4,b5,b6,b7,b8,b9,bf⟩:=bP yh.o.box;simp only at b3;have aeo:=yh.o.lt.1;have ap6:k<(jL C.roots j (ay++[k]) m.goals).length:=by rw[tH];exact hkl
                obtain⟨gb4,Dt, -,apw, -, -,e0,e1,e2, -⟩:=oV.cells (ca:=some ⟨gb,0,none⟩) (cc:=tO) (show oV W4 base (jL C.roots j (ay++[k]) m.goals) (.slice (some ⟨gb,0,none⟩) (jL C.roots j (ay++[k]) m.goals).length tO)by rw[tH];exact Cf.o.gl) ap6;simp only[cZ,Ey,ug]at Dt;subst Dt;rw[aou hkl]at e2;have Pn:=zh hdn;have hwj:IntKind.i64.wrap ((jk:Int)+1)=(jk:Int)+1:=Cw _ (by omega);have HIX:=zh (show au ((m.goals[k]?).getD default).next by have h1:=iW.o.goals.2 _ (bZ hkl);rw[aS hkl];exact h1.2.1);generalize((m.goals[k]?).getD default).next=nx at*;clear hdn e0 e1;go_wp2_with fail;go_roundw;case rel=>exact⟨nx,ay++[k],rfl,by have :=HJK.o;rw[bA,dW];go_num,Aj.o,HIX.o,Cf.o⟩
                case measure=>have :=Pn.o;simp[intOf];omega
            ·have hT:=zh (Pe (gs:=m.goals) (ns:=ns) (j:=i1) (by omega));have aus:(ns.length:Int)<=(i1:Int):=by omega
             have Al:=tL.o;rw[hT.out]at Al;obtain⟨ae5,PG⟩:=iW.o.VT Al.ch Al.gl (by rw[tH];omega);have Dc:=zh (show m.choices=cs.reverse by rw[BG.o,Lm]);have WH:=zh (show bT base P j g (.slice pa P.length pc) (.slice ha9 C.heap.cells.length aeU) (.slice Eg C.heap.trail.length aeV) ⟨.slice Cg m.goals.length tO,.slice Ef m.choices.length xh,.slice GL m.out.length GM⟩ ⟨C.heap,jL C.roots j (mV m.goals ns) m.goals,(kW C.dP C.dQ 0 cs).reverse,m.now,qr,m.fuel,m.out⟩ wr by rw[aow,<-Dc.o];exact ae5);have I7:=zh PG;have De:=zh (wZ eF.o PG (bU.refl _ _));have ae6:=zh (wZ HK9.o PG (bU.refl _ _));obtain⟨W11,WI⟩:∃W:World,W=wr:=⟨_,rfl⟩;rw[<-WI]at WH I7 De ae6;obtain⟨b0,b1,b2,b3,b4,b5,b6,b7,b8,b9,bf⟩:=bP WH.o.box;simp only at b4;rw[<-WI];clear Al ae5 PG hT pQ VX WI;go_wp2_with fail;clear b0 b1 b2 b3 b4 b5 b6 b7 b8 b9 bf;go_loopw[199](fun i wr=>∃(j7:Nat),j7<=cs.length/\i= .int .i64 (j7:Int)/\bT base P j g (.slice pa P.length pc) (.slice ha9 C.heap.cells.length aeU) (.slice Eg C.heap.trail.length aeV) ⟨.slice Cg m.goals.length tO,.slice Ef m.choices.length xh,.slice GL m.out.length GM⟩ ⟨C.heap,jL C.roots j (mV m.goals ns) m.goals,(kW C.dP C.dQ j7 cs).reverse,m.now,qr,m.fuel,m.out⟩ wr/\Ch (MM g ⟨.slice Cg m.goals.length tO,.slice Ef m.choices.length xh,.slice GL m.out.length GM⟩) W11 wr)(fun i _=>cs.length - (intOf i).toNat);case atStart=>exact⟨0,dD _,rfl,WH.o,Ch.refl _ _⟩
             case round=>
              obtain⟨j7,hj7,rfl,hmv,hch⟩:=hrel;have HV:=zh hmv;have bD:=zh hch;have auu:(0:Int)<=(j7:Int):=zN _;clear hmv hch;by_cases PH:j7<cs.length
              ·have PI:j7<m.choices.length:=by rw[nK.o];exact PH
               have ap9:(j7:Int)<(m.choices.length:Int):=by omega
               have aqa:oW wr base (kW C.dP C.dQ j7 cs) (.slice Ef (kW C.dP C.dQ j7 cs).length xh):=by have :=HV.o.cu;simp only[Lm]at this;rw[Pf,<-nK.o];exact this
               have ae7:j7<(kW C.dP C.dQ j7 cs).length:=by rw[Pf];exact PH
               obtain⟨cb,rfl,K4,DN, -,hcf, -, -,d2,d3, -⟩:=oW.cells aqa ae7;rw[Pf,<-nK.o]at K4;obtain⟨tb,PK,rfl, -, -,ht0,htI⟩:=Pk (wZ De.o bD.o (bU.refl _ _)) (k:=j7) (by rw[gX.o.2.1];exact PI);obtain⟨kb,PL,rfl, -, -,hk0,hkI⟩:=Pk (wZ ae6.o bD.o (bU.refl _ _)) (k:=j7) (by rw[gX.o.2.2.1];exact PI);have htl:j7<C.dP.length:=by rw[gX.o.2.1];exact PI
               have hkl:j7<C.dQ.length:=by rw[gX.o.2.2.1];exact PI
               have aa4:(j7:Int)<(C.dP.length:Int):=by omega
               have hkl':(j7:Int)<(C.dQ.length:Int):=by omega
               have Mk:=zh (gX.o.2.2.2.1 _ (bZ htl));have HKB:=zh (gX.o.2.2.2.2 _ (bZ hkl));have PM:=zh (aoz (dP:=C.dP) (dQ:=C.dQ) PH);rw[aS htl,aS hkl]at PM;simp only[qw]at PM;obtain⟨WJ,ae9⟩:=HV.o.apo (n:=j7) (x:=cs[j7]) (tv:=C.dP[j7]) (kv:=C.dQ[j7]) ae7 K4 (aoy PH) Mk.o HKB.o;rw[PM.o]at WJ;have yg:=zh (WJ.below ((zB _ _).drew));have xE:=zh ((bD.o.trans ae9 (fun b h=> .inl h)).drew);clear WJ ae9 Mk HKB PM;generalize C.dP[j7]=tv at*;generalize C.dQ[j7]=kv at*;clear htl hkl htI hkI;obtain⟨b0,b1,b2,b3,b4,b5,b6,b7,b8,b9,bf⟩:=bP HV.o.box;simp only at b4;have hcs:=dz;have auv:(j7:Int)<=1000:=by omega
               clear K4 b0 b1 b2 b3 b5 b6 b7 b8 b9 bf;go_wp2_with fail;have afa:wr.drew.cell? ⟨g,4,none⟩=some (.slice (some ⟨cb,0,none⟩) m.choices.length xh):=b4;have afb:wr.drew.cell? ⟨tb,PK+j7,none⟩=some (.int .i64 tv):=ht0;have afc:wr.drew.cell? ⟨kb,PL+j7,none⟩=some (.int .i64 kv):=hk0;have afd:∀o,wr.drew.frozen? ⟨cb,o,none⟩=false:=hcf;obtain⟨u2,hd2⟩:∃u,wr.drew.cell? ⟨cb,j7*4+2,none⟩=some u:=⟨_,d2⟩;obtain⟨u3',hd3⟩:∃u,wr.drew.cell? ⟨cb,j7*4+3,none⟩=some u:=⟨_,d3⟩;have HF:∀{k':Nat},((k'=3\/k'=8->wr.drew.cell? ⟨g,4,none⟩=some (.slice (some ⟨cb,0,none⟩) m.choices.length xh))/\(k'=13->wr.drew.cell? ⟨tb,PK+j7,none⟩=some (.int .i64 tv))/\(k'=17->wr.drew.cell? ⟨kb,PL+j7,none⟩=some (.int .i64 kv))):=fun{k'}=>⟨fun _=>afa,fun _=>afb,fun _=>afc⟩;refine iY (F:=fun k' w'=>(k'=3\/k'=8->w'.cell? ⟨g,4,none⟩=some (.slice (some ⟨cb,0,none⟩) m.choices.length xh))/\(k'=13->w'.cell? ⟨tb,PK+j7,none⟩=some (.int .i64 tv))/\(k'=17->w'.cell? ⟨kb,PL+j7,none⟩=some (.int .i64 kv))) (by kernel_rfl) ?_;clear b4 ht0 hk0 hcf d2 d3;refine zT 0 HF ?_;try simp only[zP]
               refine zT 1 HF ?_;try simp only[zP]
               refine zT 2 HF ?_;try simp only[zP]
               refine aC (i:=3) (v:=?_) rfl (Or.inl ⟨by rfl,?_⟩) HF ?_;rotate_left;·(intro w' hw;have q0:=hw.1 (.inl rfl);clear hw;go_simp<;>with_reducible rfl)
               try simp only[zP]
               refine zT 4 HF ?_;try simp only[zP]
               refine zT 5 HF ?_;try simp only[zP]
               refine zT 6 HF ?_;try simp only[zP]
               refine zT 7 HF ?_;try simp only[zP]
               refine aC (i:=8) (v:=?_) rfl (Or.inl ⟨by rfl,?_⟩) HF ?_;rotate_left;·(intro w' hw;have q0:=hw.1 (.inr rfl);clear hw;go_simp<;>with_reducible rfl)
               try simp only[zP]
               refine zT 9 HF ?_;try simp only[zP]
               refine zT 10 HF ?_;try simp only[zP]
               refine zT 11 HF ?_;try simp only[zP]
               refine zT 12 HF ?_;try simp only[zP]
               refine aC (i:=13) (v:=?_) rfl (Or.inl ⟨by rfl,?_⟩) HF ?_;rotate_left;·(intro w' hw;have q0:=hw.2.1 rfl;clear hw;go_simp<;>with_reducible rfl)
               try simp only[zP]
               refine zT 14 HF ?_;try simp only[zP]
               refine zT 15 HF ?_;try simp only[zP]
               refine zT 16 HF ?_;try simp only[zP]
               refine aC (i:=17) (v:=?_) rfl (Or.inl ⟨by rfl,?_⟩) HF ?_;rotate_left;·(intro w' hw;have q0:=hw.2.2 rfl;clear hw;go_simp<;>with_reducible rfl)
               try simp only[zP]
               refine zT 18 HF ?_;try simp only[zP]
               refine zT 19 HF ?_;try simp only[zP]
               refine aM (i:=20) (by kernel_rfl) (aF rfl (by rfl) ?_);go_simp;refine⟨fun k' hk' _=>⟨fun h=>?_,fun h=>?_,fun h=>?_⟩,?_⟩;·rcases h with h|h<;>subst h<;>exact absurd (hk'.symm.trans (by kernel_rfl):false=true) jV
               ·subst h;exact absurd (hk'.symm.trans (by kernel_rfl):false=true) jV
               ·subst h;exact absurd (hk'.symm.trans (by kernel_rfl):false=true) jV
               try simp only[zP]
               have lU:∀{k':Nat}{w':World},17<k'->((k'=3\/k'=8->w'.cell? ⟨g,4,none⟩=some (.slice (some ⟨cb,0,none⟩) m.choices.length xh))/\(k'=13->w'.cell? ⟨tb,PK+j7,none⟩=some (.int .i64 tv))/\(k'=17->w'.cell? ⟨kb,PL+j7,none⟩=some (.int .i64 kv))):=fun{k' w'}h17=>⟨fun h=>by omega,fun h=>by omega,fun h=>by omega⟩;refine aC (i:=21) (v:=?_) rfl (Or.inl ⟨by rfl,?_⟩) (lU (by omega)) ?_;rotate_left;·(intro w' hw;clear hw;go_simp<;>with_reducible rfl)
               try simp only[zP]
               refine aC (i:=22) (v:=?_) rfl (Or.inl ⟨by rfl,?_⟩) (lU (by omega)) ?_;rotate_left;·(intro w' hw;clear hw;go_simp<;>with_reducible rfl)
               try simp only[zP]
               have aqe:wr.cell? ⟨cb,j7*4+3,none⟩=some u3':=hd3;have aqf:∀o,wr.frozen? ⟨cb,o,none⟩=false:=afd;refine aM (i:=23) (by kernel_rfl) (aF rfl (by rfl) ?_);go_simp;refine⟨fun k' hk' _=>⟨fun h=>?_,fun h=>?_,fun h=>?_⟩,fU (by kernel_rfl) ?_ _⟩;·rcases h with h|h<;>subst h<;>exact absurd (hk'.symm.trans (by kernel_rfl):false=true) jV
               ·subst h;exact absurd (hk'.symm.trans (by kernel_rfl):false=true) jV
               ·subst h;exact absurd (hk'.symm.trans (by kernel_rfl):false=true) jV
               clear HF afa afb afc afd hd2 hd3 hcs aqe aqf;try simp only[zP]
               go_wp2_with fail;go_roundw;case rel=>exact⟨j7+1,by omega,by go_num,yg.o,xE.o⟩
               case measure=>simp[intOf];omega
              ·have dm:j7=cs.length:=by omega
               have ap9:(m.choices.length:Int)<=(j7:Int):=by rw[nK.o];omega
               have hres:=zh (HCM.o.trans (ae (dL hce)));have WK:=HV.o;rw[dm]at WK;have aqg:=zh WK;clear WK dm;go_wp2_with fail;refine Cx (v:= .tuple #[]) (by simp[results,Tryz.results36,go_sem]) rfl ?_;rw[hres.o,<-KH.o];exact⟨⟨_,rfl⟩,bJ.trans (Ch.of_below PD.o) (bU.refl w _) (bJ.trans Eb.o Gv.o (bJ.trans apR.o apS.o ⟨_,_,_,aqg.o,I7.o.trans bD.o (fun b h=> .inl h),bU.refl _ _⟩))⟩
        ·have hres:=zh (HCM.o.trans (ah hce));have auy:(C.err==0)=false:=by simpa using hce
         go_wp2_with fail;refine cK (v:= .tuple #[]) (by simp[results,Tryz.results36,go_sem]) rfl ?_;rw[hres.o];exact⟨⟨_,rfl⟩,(bJ.refl HU.o).below (PD.o.alloc apO _)⟩
end
section
variable {P : List Cl} {q : Nat} {m : Mv} {s : Sv}
theorem WL:∀(cs:List Cm)(m m':Mv),m.h=m'.h->m.goals=m'.goals->rz P cs m->rz P cs m'
 |[],m,m',_,_,h=>trivial
 |c::cs,m,m',e1,e2,h=>by
  obtain⟨h1,h2,h3,h4,h5⟩:=h;refine⟨by rw[<-e2];exact h1,h2,by rw[<-e1];exact h3,?_,WL cs _ _ ?_ ?_ h5⟩;·unfold bY at h4 ⊢;rw[<-e1,<-e2];exact h4
  ·simp only[e1]
  ·exact e2
theorem PN:∀(cs:List Cm)(ds:List jf)(m:Mv)(s:Sv),iR P {s with choices:=ds}->m.h.Good->jK m.h s.env s.vars q m.query m.goals cs ds->rz P cs m
 |[],ds,m,s,_,_,_=>trivial
 |_::_,[],m,s,_,_,h=>h.elim
 |c::cs,d::ds,m,s,hok,hg,hch=>by
  obtain⟨k,hle,hrest⟩:=hch;have hdo:=hok.cu d (by simp);have DF:=hok.pop;have hpw:=(Qg.1 hok.Ze).1;simp only at hdo DF hpw;have hu:=abp hg k.top k.tr k.good;have hlen:=zo (h:=m.h) c.top c.trail k.top;have JF:=k.snap;cases hg':d.g with
   |nil=>exact absurd hg' hdo.ne
   |cons g rest=>
    rw[hg']at JF;obtain⟨φ, -, -,kk,e1,hlt, -,hga, -⟩:=JF;have e2:kk=c.goal:=by omega
    subst e2;refine⟨hlt,by rw[k.from_];have :=hdo.lt;omega,by rw[hu];exact k.good,by rw[hu];exact hga.iU,?_⟩;rw[hu];refine PN cs ds {m with choices:=cs,h:=dR m.h c.top c.trail} {s with choices:=ds,env:=s.env.take d.trail} DF k.good ?_;exact hrest.imp fun x y hx hy r=>by
     obtain⟨h1,h2⟩:=hle x hx;refine r.move (aa5 h1 h2) (by rw[hlen];exact h1) ?_ ?_ ?_ (qA _) (fun _ _=>rfl) (zL _);·show x.trail<=(m.h.trail.take c.trail).length;rw[dS];have :=k.tr;omega
     ·rw[XN,Lv (hpw y hy)]
     ·rw[dS];have :=hpw y hy;have :=r.xV;omega
theorem afe{gl:List Gl}(S:qW P q m s gl):m.choices.length<=150/\m.goals.length<=5000:=by have h1:=S.mi.cu.len;have h2:=S.ok.few;have h3:=S.mi.kD;omega
theorem aqh{gl:List Gl}(S:qW P q m s gl):rz P m.choices m:=PN m.choices s.choices m s S.ok S.mi.good S.mi.cu
theorem aff{gl:List Gl}(S:qW P q m s gl):∀v:Nat,v<q->au (m.query+(v:Nat)):=fun v hv=>by obtain⟨φ, -,hq, -⟩:=S.mi.cur;obtain⟨h0,h1⟩:=(hq v hv).1;have :=S.mi.good.2.2.1;unfold au;omega
theorem afg{N:Int}{l:List Ce}{φ:Int->Int}{E:Env}{K:Int->Prop}{a:Int}{t:Tm}(h:Hr l φ E K a t):0<=look l a:=by obtain⟨x,hx⟩:=h.looks;rw[il hx];exact hx.lW
theorem afh{N:Int}{t:Tm}(h:t.In N)(hk:t.kind=2): -1099511627776<=t.n/\t.n<=1099511627776:=by cases h with|var=>cases hk|atom=>cases hk|int n h0 h1=>exact⟨h0,h1⟩|comp=>cases hk
theorem aqi{N:Int}{t:Tm}(h:t.In N):t.args.length<=4:=by cases h with|var=>simp[Tm.args]|atom=>simp[Tm.args]|int=>simp[Tm.args]|comp _ _ _ _ _ h3=>exact h3
theorem aqj{g:Gl}{rest:List Gl}(hP:fJ P)(S:qW P q m s (g::rest))(fT:(q:Int)<=s.vars)(hout:s.out.length<=11)(hf:m.fuel≠0):Vm P m:=by
 obtain⟨hok,zH,S⟩:=S;obtain⟨φ,hM,hq,kk,e1,hlt,qX,hga,hnx,hch⟩:=S.cur;obtain rfl:kk=m.now.toNat:=by omega
 have hf':s.fuel≠0:=by rw[<-S.fuel];exact hf
 have hp:=Mq s.fuel s.choices hf';have hs1:iR P {s with fuel:=s.fuel - 1}:=by obtain⟨h1,h2,h3,h4,h5,h6,h7,h8⟩:=hok;rw[hp]at h6 h7;exact⟨h1,h2,h3,h4,h5,by simp only;omega,by simp only;omega,by simp only;omega⟩
 have hpV:=hok.Q9;have zJ:=hok.Zf;rw[hp]at zJ;have hsl:∀c:Nat,c+lN m.fuel m.out<=60000->c+300+lN (m.fuel - 1) m.out<=60000:=fun c h=>by unfold lN at h ⊢;omega
 have hsl2:∀c:Nat,c+300+lN m.fuel m.out<=60000->c+300+lN (m.fuel - 1) m.out<=60000:=fun c h=>by unfold lN at h ⊢;omega
 have Tn:m.goals.length+5+zD (m.fuel - 1) m.out<=5000:=by have h:=S.kD;unfold zD at h ⊢;omega
 have C:DC q {m with fuel:=m.fuel - 1} {s with fuel:=s.fuel - 1} m.now.toNat g rest:={good:=S.good,env:=hok.env,v0:=hok.Ml,v1:=by simp only;omega,qv:=fT,gt:=(zH g (by simp)).1,fuel:=by show m.fuel - 1=s.fuel - 1;rw[S.fuel],out:=S.out,tr:=S.tr,cur:=⟨φ,hM,hq,m.now.toNat,rfl,hlt,qX,hga,by rw[<-e1];exact hnx,hch⟩,cu:=S.cu,iN:=hsl _ S.iN,lQ:=fun c hc=>hsl2 _ (S.lQ c hc),kD:=Tn};have wH:jQ s.vars m.h.cells φ s.env (bY m m.now.toNat).at_ g.t:=hga;have hkc:=aby wH;have WM:=wH.xU;have hcl:=S.cu.len;have oZ:=hok.few;refine⟨by omega,hlt,S.good,wH.iU,?_,?_,?_,?_,?_⟩;·rw[wH.cell];exact zN _
 ·rw[wH.cell];have :=aqi WM;simp only;omega
 ·intro hk n1 n2 n3 n4;have hk':=hkc.1 hk;rw[wH.cell]at n1 n2 n3 n4;simp only at n1 n2 n3 n4;have h2:2<=g.t.args.length:=by
   rcases hk' with⟨_,h|h|h⟩|⟨h,_⟩|⟨h,_⟩;·exact absurd h n1
   ·exact absurd h n2
   ·exact absurd h n3
   ·omega
   ·omega
  have hne:g.t.args≠[]:=fun e=>by rw[e]at h2;simp at h2
  have ha:=DI wH hne 0 (by omega);have hb:=DI wH hne 1 (by omega);simp only[Qn,XU]at ha;rw[show(bY m m.now.toNat).at_+1+((1:Nat):Int)=(bY m m.now.toNat).at_+2 by omega]at hb;refine⟨afg (N:=s.vars) ha,afg (N:=s.vars) hb,fun ka kb=>?_⟩;obtain⟨a1,a2⟩:=Nv ha;obtain⟨c1,c2⟩:=Nv hb;have g1:=afh (vL hok.env (WM.arg (bZ (show 0<g.t.args.length by omega)))) (a1.1 ka);have g2:=afh (vL hok.env (WM.arg (bZ (show 1<g.t.args.length by omega)))) (c1.1 kb);rw[a2 (a1.1 ka),c2 (c1.1 kb)];unfold au;omega
 ·intro m' hk e;have hk':=hkc.1 hk;have hks:=abv (P:=P) C hk';have NR:bY {m with fuel:=m.fuel - 1} m.now.toNat=bY m m.now.toNat:=rfl;rw[NR,e]at hks;have zG:=fun(r:Option Bool)(s':Sv)(e:rU g {s with fuel:=s.fuel - 1}=(r,s'))(hr:r≠none)=>IC hs1 (zH g (by simp)).1 hk' (by simp only;omega) e hr;generalize rU g {s with fuel:=s.fuel - 1}=rs at*;obtain⟨rb,s'⟩:=rs;match rb,hks,zG with|none,hks,_=>exact hks.elim|some true,hks,_=>exact hks.elim|some false,hks,zG=>obtain⟨a1,a2,a3,a4⟩:=zG (some false) s' rfl (by simp);have B:=hks a1;have b1:=B.cu.len;have b2:=a1.few;have b3:=B.kD;have b4:=B.out;refine⟨PN m'.choices s'.choices m' s' a1 B.good B.cu,by omega,by omega,by rw[b4,a3];show s.out.length+1<=20;omega⟩
 ·intro m' hk e;obtain rfl:=FW P.length 0 _ _ e;exact WL _ m _ rfl rfl (PN m.choices s.choices m s hok S.good S.cu)
theorem aqk{gl:List Gl}(S:qW P q m s gl):VS q m:=by
 have aql:=aff S;obtain⟨hok,zH,S⟩:=S;obtain⟨φ,hM,hq,hch⟩:=S.cur;have hst:∀n∈iE m,0<=n->nN m.goals m.h.cells n.toNat:=by
  intro n hn h0;unfold iE at hn;rcases gy.1 hn with hn|hn;·obtain⟨c,hc,rfl⟩:=gQ.1 hn;obtain⟨d,hd,k⟩:=S.cu.mem c (Qm.1 hc);obtain⟨φ', -, -,k3⟩:=k.snap;refine JG (fun a ha=>?_) _ _ k3 h0;have :=zo (h:=m.h) c.top c.trail k.top;have :=k.top;unfold Inb at ha ⊢;omega
  ·simp only[iF]at hn;subst hn;exact JG (fun _ h=>h) _ _ hch h0
 have hgc:=S.kD;have hlow:∀n∈iE m, -1<=n:=by
  intro n hn;unfold iE at hn;rcases gy.1 hn with hn|hn;·obtain⟨c,hc,rfl⟩:=gQ.1 hn;omega
  ·simp only[iF]at hn;subst hn;exact hch.ge.1
 have hgood:=S.good;have RG:=hgood.2.2.1;have htl:=hgood.2.2.2;obtain⟨-, -, -,hvv⟩:=Tp (l:=m.h.cells) (iE m) [] hst (by simp) (by intro i hi;cases hi);have Nz:∀r∈iV q m,Inb m.h.cells r:=by
  intro r hr;unfold iV at hr;rcases gy.1 hr with hr|hr;·obtain⟨v,hv,rfl⟩:=gQ.1 hr;exact(hq v (kK.1 hv)).1
  ·obtain⟨i,hi,rfl⟩:=gQ.1 hr;cases hvv i hi with|mk _ h1 h2=>exact h2
 refine⟨hst,fun n hn=>?_,aql,fun _=>?_⟩
 ·by_cases h0:0<=n;·have :=(hst n hn h0).lt;unfold au;omega
  ·have :=hlow n hn;unfold au;omega
 ·rw[abF hgood Nz];simp only[jq,Ct];refine⟨trivial,trivial,trivial,fun x hx=>?_,fun x hx=>?_⟩;·obtain⟨y,hy,rfl⟩:=gQ.1 hx;obtain⟨c,hc,rfl⟩:=gQ.1 hy;obtain⟨d,hd,k⟩:=S.cu.mem c (Qm.1 hc);have h1:=k.top;have h2:=abE (m:=marks m.h.cells (iV q m)) ((c.top:Int).toNat);unfold ahead;rw[dB]at h2 ⊢;omega
  ·obtain⟨y,hy,rfl⟩:=gQ.1 hx;obtain⟨c,hc,rfl⟩:=gQ.1 hy;obtain⟨d,hd,k⟩:=S.cu.mem c (Qm.1 hc);have h1:=k.tr;have h2:=abE (m:=aT (marks m.h.cells (iV q m)) m.h.trail) ((c.trail:Int).toNat);unfold ahead;rw[dB]at h2 ⊢;omega
end
def yu(P:List Cl)(q:Nat)(fuel every:Int)(R:Mv)(m:Mv):Prop:=∃(k:Nat)(s:Sv)(gl:List Gl),qW P q m s gl/\(q:Int)<=s.vars/\s.out.length<=11/\s.fuel+13<=k+s.out.length/\runM P q fuel every k m=R
def uZ(m:Mv):Nat:=m.fuel+13 - m.out.length
section
variable {P : List Cl} {q : Nat} {fuel every : Int} {R m : Mv}
theorem aqm{s s':Sv}(e:nD q s=(true,s')):s'.fuel=s.fuel:=by
 unfold nD at e;split at e;·simp at e
 ·simp only at e;split at e;·simp at e
  ·simp only[fG,fH]at e;subst e;rfl
theorem yu.few(h:yu P q fuel every R m):m.choices.length<900/\m.goals.length<=5900/\m.out.length+2<=20/\VS q m/\(∀e:Ev,rz P m.choices {m with out:=m.out++[e]})/\∀v:Nat,v<q->au (m.query+(v:Nat)):=by obtain⟨k,s,gl,S,fT,hout,hk,hr⟩:=h;obtain⟨h1,h2⟩:=afe S;refine⟨by omega,by omega,by rw[S.mi.out];omega,aqk S,fun e=>WL _ m _ rfl rfl (aqh S),aff S⟩
theorem yu.answer(hP:fJ P)(h:yu P q fuel every R m)(hn:m.now<0):(∀m',qV P q m=(.next,m')->yu P q fuel every R m'/\uZ m'<uZ m)/\(∀r m',qV P q m=(r,m')->r≠ .next->m'=R):=by
 obtain⟨k,s,gl,S,fT,hout,hk,hr⟩:=h;obtain⟨n,rfl⟩:∃n,k=n+1:=⟨k - 1,by omega⟩;cases gl with
  |cons g rest=>obtain⟨φ, -, -,kk,h, -⟩:=S.mi.cur;omega
  |nil=>
   have hA:=abB hP S fT hout;have hok2:=fun s'(e:nD q s=(true,s'))=>abN S.ok e;have hat:=fun s'(e:nD q s=(true,s'))=>aqm e;rw[runM,ah hn]at hr;have WN:=S.mi.fuel;have hmo:=S.mi.out;refine⟨fun m' e=>?_,fun r m' e hne=>?_⟩;·rw[e]at hA hr;simp only at hr;cases ha:nD q s with|mk b s'=>rw[ha]at hA hok2 hat;cases b with|false=>exact hA.elim|true=>simp only at hA;obtain⟨a1,a2,a3,a4⟩:=hok2 s' rfl;have a5:=hat s' rfl;have hbn:=fun s'' gl(e:jN P s'.choices s'=(.next gl,s''))=>EZ s'.choices s' s'' gl a1 e;generalize jN P s'.choices s'=rs at*;obtain⟨rb,s''⟩:=rs;cases rb with|next gl=>obtain⟨b1,b2,b3,b4,b5⟩:=hbn s'' gl rfl;have hA':zF q m' s'' gl:=hA;have hf2:=hA'.fuel;have ho2:=hA'.out;refine⟨⟨n,s'',gl,⟨b1,b2,hA'⟩,by omega,by rw[b4];exact a3,by rw[b4];omega,hr⟩,?_⟩;unfold uZ;rw[hf2,ho2,WN,hmo,b4];omega|no=>exact hA.elim|off=>exact hA.elim
   ·rw[e]at hr;cases r with|next=>exact absurd rfl hne|no=>exact hr|off=>exact hr
noncomputable def u6(q:Nat)(fuel every:Int)(m:Mv):Mv:=if every>0/\(fuel - m.fuel)%every=0 then wE q m else m
theorem yu.step(hP:fJ P)(h:yu P q fuel every R m)(hn:¬m.now<0):((u6 q fuel every m).fuel≠0->Vm P (u6 q fuel every m))/\(u6 q fuel every m).choices.length<900/\(u6 q fuel every m).goals.length<=5900/\(u6 q fuel every m).out.length+1<=20/\(∀m',jP P (u6 q fuel every m)=(.next,m')->yu P q fuel every R m'/\uZ m'<uZ m)/\(∀r m',jP P (u6 q fuel every m)=(r,m')->r≠ .next->m'=R):=by
 obtain⟨k,s,gl,S,fT,hout,hk,hr⟩:=h;obtain⟨n,rfl⟩:∃n,k=n+1:=⟨k - 1,by omega⟩;cases gl with
  |nil=>obtain⟨φ, -, -,h⟩:=S.mi.cur;have :m.now= -1:=h;omega
  |cons g rest=>
   have S2:qW P q (u6 q fuel every m) s (g::rest):=by
    unfold u6;split;·exact abG S
    ·exact S
   rw[runM,ae hn]at hr;have WN:=S.mi.fuel;have hmo:=S.mi.out;have hA:=abz hP S2 fT;have hsn:=fun s' gl(e:qI P g rest s=(.next gl,s'))=>Re S.ok S.yV e;obtain⟨f1,f2⟩:=afe S2;refine⟨fun hf=>aqj hP S2 fT hout hf,by omega,by omega,by rw[S2.mi.out];omega,fun m' e=>?_,fun r m' e hne=>?_⟩;·have e':=e;unfold u6 at e';rw[e']at hr;rw[e]at hA;simp only at hr;generalize qI P g rest s=rs at*;obtain⟨rb,s'⟩:=rs;cases rb with|next gl=>obtain⟨b1,b2,b3,b4,b5⟩:=hsn s' gl rfl;have hA':zF q m' s' gl:=hA;have hf2:=hA'.fuel;have ho2:=hA'.out;refine⟨⟨n,s',gl,⟨b1,b2,hA'⟩,by omega,by rw[b4];exact hout,by rw[b4];omega,hr⟩,?_⟩;unfold uZ;rw[hf2,ho2,WN,hmo,b4];omega|no=>exact hA.elim|off=>exact hA.elim
   ·unfold u6 at e;rw[e]at hr;cases r with|next=>exact absurd rfl hne|no=>exact hr|off=>exact hr
end
def WO(w:World)(r:List Ev×Int)(e:Ending)(w':World):Prop:=∃ev,e= .returned (.tuple #[ev,.int .i64 r.2])/\Below w.heap.size w w'/\aj 2 oJ (fun _=>True) w' r.1 ev
theorem WQ(P:List Cl)(Q:List Tm)(vars fuel every:Int):(¬(fJ P/\iw Q vars)/\jB P Q vars fuel every=([],1))\/((fJ P/\iw Q vars)/\(fuel<0\/fuel>150\/every<0)/\jB P Q vars fuel every=([],2))\/((fJ P/\iw Q vars)/\0<=fuel/\fuel<=150/\0<=every/\jB P Q vars fuel every=((runM P vars.toNat fuel every (fuel.toNat+14) (wG Q vars fuel.toNat)).out,0)):=by
 unfold jB;by_cases h:fJ P/\iw Q vars
 ·rw[ae (dL h)];by_cases h2:fuel<0\/fuel>150\/every<0;·rw[ah h2];exact .inr (.inl ⟨h,h2,rfl⟩)
  ·rw[ae h2];exact .inr (.inr ⟨h,by omega,by omega,by omega,rfl⟩)
 ·rw[ah h];exact .inl ⟨h,rfl⟩
section
variable {P : List Cl} {Q : List Tm} {vars fuel every : Int}
theorem afi(h0:¬(fJ P/\iw Q vars)\/(fuel<0\/fuel>150\/every<0))(Ab:lX P<=1099511627776)(hnq:Tm.aH Q<=1099511627776)(hv:au vars)(hf:au fuel)(w:World)(pv qv:Value)(hpv:EP (fun b=>b<w.heap.size) w P pv)(fT:iP (fun b=>b<w.heap.size) w Q qv):Calls Tryz.prog 8 #[pv,qv,.int .i64 vars,.int .i64 fuel,.int .i64 every] w (WO w (jB P Q vars fuel every)):=by
 have WR:=zh (Yz P Ab _ w pv hpv);have zl:=zh (fun(w':World)(hb:Below w.heap.size w w')=>LY Q vars hnq hv _ w' qv (aj.keeps Tm.aA fT (ag.ob hb)));have HV:=zh hv;have HS:=zh (WQ P Q vars fuel every);have H0:=zh h0;obtain⟨pa,pc, -, -,rfl, -⟩:=aj.at hpv;obtain⟨qa,qc, -, -,rfl, -⟩:=aj.at fT;clear hpv fT h0 hv;go_enter Tryz.func8,Tryz.ntmps8;go_wp2_with fail;refine(WR.o).mono ?_;rintro e w1⟨v,rfl,hb1,b1,rfl,K8⟩;have HB1:=zh hb1;have lZ:=zh K8;clear hb1 K8;cases b1 with
  |false=>
   have HR:=zh (show jB P Q vars fuel every=([],1)by
    rcases HS.o with⟨_,h⟩|⟨h,_⟩|⟨h,_⟩;·exact h
    ·have :=lZ.o.2 h.1;cases this
    ·have :=lZ.o.2 h.1;cases this);go_wp2_with fail;go_ret2;rw[HR.o];exact⟨_,rfl,HB1.o,aj.nil ..⟩
  |true=>
   go_wp2_with fail;refine(zl.o w1 HB1.o).mono ?_;rintro e w2⟨v,rfl,hb2,b2,rfl,Gi⟩;have HB2:=zh (HB1.o.trans (hb2.mono HB1.o.size));have HG2:=zh Gi;clear hb2 Gi;cases b2 with
    |false=>
     have HR:=zh (show jB P Q vars fuel every=([],1)by
      rcases HS.o with⟨_,h⟩|⟨h,_⟩|⟨h,_⟩;·exact h
      ·have :=HG2.o.2 h.2;cases this
      ·have :=HG2.o.2 h.2;cases this);go_wp2_with fail;go_ret2;rw[HR.o];exact⟨_,rfl,HB2.o,aj.nil ..⟩
    |true=>
     have hfb:fuel<0\/fuel>150\/every<0:=by
      rcases H0.o with h|h;·exact absurd ⟨lZ.o.1 (by simp),HG2.o.1 (by simp)⟩ h
      ·exact h
     have HR:=zh (show jB P Q vars fuel every=([],2)by
      rcases HS.o with⟨h,_⟩|⟨_,_,h⟩|⟨_,h1,h2,h3,_⟩;·exact absurd ⟨lZ.o.1 (by simp),HG2.o.1 (by simp)⟩ h
      ·exact h
      ·omega);by_cases h1:fuel<0
     ·have hd:decide (fuel<0)=true:=by simpa using h1
      go_wp2_with fail;go_ret2;rw[HR.o];exact⟨_,rfl,HB2.o,aj.nil ..⟩
     ·have hd:decide (fuel<0)=false:=by simpa using h1
      by_cases h2:(150:Int)<fuel
      ·have hd3:decide (150<fuel)=true:=by simpa using h2
       go_wp2_with fail;go_ret2;rw[HR.o];exact⟨_,rfl,HB2.o,aj.nil ..⟩
      ·have hd3:decide (150<fuel)=false:=by simpa using h2
       have h3:every<0:=by omega
       have hd4:decide (every<0)=true:=by simpa using h3
       go_wp2_with fail;go_ret2;rw[HR.o];exact⟨_,rfl,HB2.o,aj.nil ..⟩
theorem aqn{Q:List Tm}{n:Nat}(hQ:iw Q (n:Int)):(fZ ⟨[],[]⟩ (bL Q (n:Int)).cells).2.1=0/\(bL Q (n:Int)).goals.length<=5/\∀a∈(bL Q (n:Int)).goals,0<=a/\a<=1000000:=by
 obtain⟨F,hF⟩:∃F,F=(aO (aK n) Q).1:=⟨_,rfl⟩;obtain⟨b1,b2,b3,b4,b5,b6⟩:=abO hQ F hF;have hcells:(bL Q (n:Int)).cells=F:=by rw[hF];simp[bL]
 have DD:(bL Q (n:Int)).goals=(aO (aK n) Q).2:=by simp[bL]
 have ND:Hp.Good ⟨[],[]⟩:=⟨fun i hi=>by simp at hi,fun j hj=>by simp at hj,by simp,by simp⟩;have hld:=Nr (h:=⟨[],[]⟩) (F:=F) ND b3 (by simp only[fC];omega);have sI:=vY Q (aK n);have h5:Q.length<=5:=hQ.2.2.1;rw[hcells,DD,hld];refine⟨by simp,by omega,fun a ha=>?_⟩;obtain⟨j,hj,rfl⟩:=tX.1 ha;obtain⟨a,e1,e2,e3⟩:=b6 j (by omega);rw[aS hj]at e1;simp only[cZ]at e1;rw[e1];have :=(iO.1 e3).1;omega
def Eh(g:Nat)(w:World):Nat:=match w.cell? ⟨g,8,none⟩,w.cell? ⟨g,9,none⟩with|some (.int _ k),some (.slice _ n _)=>k.toNat+13 - n|_,_=>0
def tQ(on:Value)(g:Nat)(w:World):Nat:=match on with| .bool true=>Eh g w+1|_=>0
theorem K9{base:Nat}{q g:Nat}{pv hc ht:Value}{o:Mo}{m:Mv}{w:World}(h:bT base P q g pv hc ht o m w):Eh g w=uZ m:=by obtain⟨_,_,_,_,_,_,oa,oc,_,_,_,_,_,_,_,e,_⟩:=h.vals;obtain⟨-, -, -, -, -, -, -, -,b8,b9, -⟩:=bP h.box;unfold Eh uZ;rw[b8,b9,e];simp
theorem GN{base:Nat}{q g:Nat}{pv hc ht:Value}{o:Mo}{m:Mv}{w wr w':World}(h:bT base P q g pv hc ht o m wr)(hb:Below w.heap.size w wr)(hch:Ch (MM g o) wr w')(hg:w.heap.size<=g)(hbs:w.heap.size<=base):Below w.heap.size w w':=by have h1:Ch (MM g o) w w':=(Ch.of_below hb).trans hch (fun x h=> .inl h);refine h1.below fun k hk e=>?_;have :=(h.qY k e).1;omega
theorem aqo:mH Tryz.prog 55 71 6 88:= .mk' (z:= .agg #[.string .empty,.int .i64 0,.slice none 0 0,.int .i64 0,.int .i64 0,.slice none 0 0]) Tryz.underlying55 (by kernel_rfl) rfl (by omega) (by omega)
theorem aqp (Fw:fJ P) (uI:iw Q vars) (hf0:0<=fuel) (hf1:fuel<=150) (he0:0<=every) (hei:au every) (Ab:lX P<=1099511627776) (hnq:Tm.aH Q<=1099511627776) (w:World) (pv qv:Value) (hpv:EP (fun b=>b<w.heap.size) w P pv) (fT:iP (fun b=>b<w.heap.size) w Q qv):Calls Tryz.prog 8 #[pv,qv,.int .i64 vars,.int .i64 fuel,.int .i64 every] w (WO w (jB P Q vars fuel every)):=by
 have hv0:=uI.1;have FE:=uI.2.1;have WR:=zh (Yz P Ab _ w pv hpv);have zl:=zh (fun (w':World) (hb:Below w.heap.size w w')=>LY Q vars hnq (by unfold au;omega) _ w' qv (aj.keeps Tm.aA fT (ag.ob hb)));have HQY:=zh (fun (w':World) (hb:Below w.heap.size w w')=>aki Q vars (by unfold au;omega) hnq w' qv (aj.mono Tm.aA (by omega) (aj.keeps Tm.aA fT (ag.ob hb)) (fun b hb' _=>hb')));obtain ⟨vn,rfl⟩:=eu hv0;obtain ⟨fn,rfl⟩:=eu hf0;have HS:=zh (show jB P Q (vn:Int) (fn:Int) every=((runM P vn (fn:Int) every (fn+14) (wG Q (vn:Int) fn)).out,0) by
  rcases WQ P Q (vn:Int) (fn:Int) every with ⟨h,_⟩|⟨_,h,_⟩|⟨_,_,_,_,h⟩;·exact absurd ⟨Fw,uI⟩ h
  ·omega
  ·exact h);have Oh:=zh (abP (f:=fn) Fw uI (by omega));have Ci:=zh Fw;have KI:=zh uI;have auA:=Fw.1;obtain ⟨pa,pc,pb,NP,rfl,abV,NQ,abW,hpa,hpe⟩:=aj.at hpv;obtain ⟨qa,qc,qb,auB,rfl,auC,aqs,auD, -⟩:=aj.at fT;have TG:=zh hpa;have TH:=zh hpe;unfold maxLen at NQ aqs;clear hpv fT Fw uI hpa hpe;go_enter Tryz.func8,Tryz.ntmps8;go_wp2_with fail;refine (WR.o).mono ?_;rintro e w1 ⟨v,rfl,hb1,b1,rfl,K8⟩;obtain rfl:b1=true:=K8.2 Ci.o;have HB1:=zh hb1;clear hb1 K8;go_wp2_with fail;refine (zl.o w1 HB1.o).mono ?_;rintro e w2 ⟨v,rfl,hb2,b2,rfl,Gi⟩;obtain rfl:b2=true:=Gi.2 KI.o;have HB2:=zh (HB1.o.trans (hb2.mono HB1.o.size));clear hb2 Gi;have hd:decide ((fn:Int)<0)=false:=by simp
 have hd3:decide (150<(fn:Int))=false:=by simp;omega
 have hd4:decide (every<0)=false:=by simp;omega
 have hz2:=HB2.o.size;go_wp2_with fail;obtain ⟨W5,jR⟩:∃W5,W5=w2.alloc (.cells #[.slice none 0 0,.slice none 0 0,.slice none 0 0,.slice none 0 0,.slice none 0 0,.int .i64 0,.int .i64 (vn:Int),.int .i64 0,.int .i64 (fn:Int),.slice none 0 0] 63):=⟨_,rfl⟩;have dx:=zh (show Below w.heap.size w W5 by rw[jR];exact HB2.o.alloc hz2 _);have qi:=zh (show W5.heap[w2.heap.size]?=some (.cells #[.slice none 0 0,.slice none 0 0,.slice none 0 0,.slice none 0 0,.slice none 0 0,.int .i64 0,.int .i64 (vn:Int),.int .i64 0,.int .i64 (fn:Int),.slice none 0 0] 63 (0,0)) by rw[jR];exact bV _ _);have hs5:W5.heap.size=w2.heap.size+1:=by rw[jR];simp
 obtain ⟨g,hg⟩:∃g,g=w2.heap.size:=⟨_,rfl⟩;rw[<-jR,<-hg];rw[<-hg] at qi;have hgw:w.heap.size<=g:=by omega
 have hg5:g<W5.heap.size:=by omega
 clear jR;have auE:(0:Int)<=(P.length:Int):=zN _;rw[<-hg] at hs5;clear hg hd hd3 hd4;go_wp2_with fail;go_loopw[45] (fun i wr=>∃(j:Nat) (pv':Value),j<=P.length/\i= .int .i64 (j:Int)/\Below w.heap.size w wr/\W5.heap.size<=wr.heap.size/\wr.heap[g]?=some (.cells #[pv',.slice none 0 0,.slice none 0 0,.slice none 0 0,.slice none 0 0,.int .i64 0,.int .i64 (vn:Int),.int .i64 0,.int .i64 (fn:Int),.slice none 0 0] 63 (0,0))/\aI wr W5.heap.size 71 6 NH (fun b=>W5.heap.size<=b) (P.take j) pv') (fun i _=>P.length - (intOf i).toNat);case atStart=>exact ⟨0,.slice none 0 0,dD _,rfl,dx.o,zL _,qi.o,aI.nil ..⟩
 case round=>
  obtain ⟨j,pv',hj,rfl,hbw,uM,hbx,hown⟩:=hrel;have HB:=zh hbw;have HX:=zh hbx;have HO:=zh hown;have hj0:(0:Int)<=(j:Int):=zN _;have Cj:=hbw.size;obtain ⟨va,vc,hvv,hvl,mM⟩:=aI.j5 hown;rw[dS,Lv hj] at hvv hvl;subst hvv;unfold maxLen at mM;clear hbw hbx hown;by_cases hlt:j<P.length
  ·have hlt':(j:Int)<(P.length:Int):=by omega
   obtain ⟨aqt,DK⟩:=TG.o (by omega);have fB:=zh (show P.take (j+1)=P.take j++[P[j]] from fF hlt);have HCG:=zh (Ci.o.2 _ (bZ hlt));have oN:=zh (show (P[j]).nodes<=1099511627776 by have :=Yy (bZ hlt);omega);subst aqt;obtain ⟨a,ac,bd,bc,c0,c1,c2,c3,c4,c5,hcr⟩:=Yx TH.o DK (ag.ob HB.o:ag (fun b=>b<w.heap.size) w wr) hlt;generalize P[j]=c at*;have Su:=mX wr _ c0;simp only at Su;obtain ⟨W6,yt⟩:∃W6,W6=wr.alloc (.cells #[.int .i64 c.head.kind,.int .i64 c.head.n,.string c.head.s,.slice a c.head.args.length ac,.slice bd c.body.length bc,.int .i64 c.vars] 65):=⟨_,rfl⟩;obtain ⟨x1,hx1⟩:∃x,x=wr.heap.size:=⟨_,rfl⟩;have zW:Below wr.heap.size wr W6:=by rw[yt];exact (zB _ _).alloc (zL _) _
   have ru:=zh (aL HX.o zW);have RQ:=zh (show W6.heap[x1]?=some (.cells #[.int .i64 c.head.kind,.int .i64 c.head.n,.string c.head.s,.slice a c.head.args.length ac,.slice bd c.body.length bc,.int .i64 c.vars] 65 (0,0)) by rw[yt,hx1];exact bV _ _);have jT:=zh (HB.o.trans (zW.mono Cj));have KW:=zh (HO.o.below qd zW);have hz6:=zW.size;have qg:=zh (akp c oN.o W6 _ (Cl.aA.2.1 _ _ _ _ _ (Cl.aA.1 _ _ W6 _ _ hcr (ag.ob (zW.mono (by omega)))) (fun b hb _=>hb)));rw[show Dn c=(aG c,0) by rw[Dn,ah HCG.o]] at qg;have HW6:=zh yt;have jH:=zh hx1;clear yt hx1 zW hcr;go_wp2_with fail;rw[<-jH.o,<-HW6.o];refine (qg.o).mono ?_;rintro e w7 ⟨r,rfl,kV,cv,gv,rfl,hcv,hgv⟩;simp only at hcv hgv;obtain ⟨kE,kF, -, -,rfl, -⟩:=aj.at hcv;obtain ⟨kG,kH,rfl, -⟩:=KV hgv;have zX:=zh (aL ru.o kV);have HY7:=zh (aL RQ.o kV);have oQ:=zh (jT.o.trans (kV.mono (by omega)));have HO7:=zh (KW.o.below qd kV);have SH:=kV.size;have HC7:=zh hcv;have PO:=zh hgv;clear kV hcv hgv c0 c1 c2 c3 c4 c5;go_wp2_with fail;obtain ⟨x2,hx2⟩:∃x,x=w7.heap.size:=⟨_,rfl⟩;have kP:=zh (show Below w7.heap.size w7 (w7.alloc (.cells #[.slice kE (aG c).cells.length kF,.int .i64 (aG c).vars,.int .i64 (aG c).head,.slice kG (aG c).goals.length kH] 67)) from (zB _ _).alloc (zL _) _);have PQ:=zh (bV w7 (.cells #[.slice kE (aG c).cells.length kF,.int .i64 (aG c).vars,.int .i64 (aG c).head,.slice kG (aG c).goals.length kH] 67));rw[<-hx2] at PQ;have sQ:=zh (aL zX.o kP.o);have WT:=zh (aL HY7.o kP.o);have qj:=zh (oQ.o.trans (kP.o.mono (by omega)));have VL:=zh (HO7.o.below qd kP.o);have HC8:=zh (aj.keeps Ce.aA HC7.o (ag.ob kP.o));have HG8:=zh (aj.keeps aQ PO.o (ag.ob kP.o));have hz8:=kP.o.size;rw[<-hx2];generalize w7.alloc (.cells #[.slice kE (aG c).cells.length kF,.int .i64 (aG c).vars,.int .i64 (aG c).head,.slice kG (aG c).goals.length kH] 67)=W8 at*;have auF:x1≠g:=by have :=jH.o;omega
   have auG:x2≠g:=by omega
   have auH:wr.heap.size<=x2:=by omega
   have auI:x1<W8.heap.size:=aD WT.o;have aaB:x2<W8.heap.size:=aD PQ.o;have auJ:wr.heap.size<=x1:=by rw[jH.o];exact zL _
   clear hx2;have HOWN:=zh (show ∀b,ownB (.slice va j vc)=some b->W5.heap.size<=b/\b<wr.heap.size from HO.o.lt);have aqB:ownB (.slice va j vc)≠some x1:=fun e=>by have :=(HOWN.o _ e).2;omega
   have aqC:ownB (.slice va j vc)≠some x2:=fun e=>by have :=(HOWN.o _ e).2;omega
   have aqD:ownB (.slice va j vc)≠some g:=fun e=>by have :=(HOWN.o _ e).1;omega
   have xk:W8.drew.heap[g]?=some (.cells #[.slice va j vc,.slice none 0 0,.slice none 0 0,.slice none 0 0,.slice none 0 0,.int .i64 0,.int .i64 (vn:Int),.int .i64 0,.int .i64 (fn:Int),.slice none 0 0] 63 (0,0)):=sQ.o;have hYd:W8.drew.heap[x1]?=some (.cells #[.int .i64 c.head.kind,.int .i64 c.head.n,.string c.head.s,.slice a c.head.args.length ac,.slice bd c.body.length bc,.int .i64 c.vars] 65 (0,0)):=WT.o;have ve:W8.drew.heap[x2]?=some (.cells #[.slice kE (aG c).cells.length kF,.int .i64 (aG c).vars,.int .i64 (aG c).head,.slice kG (aG c).goals.length kH] 67 (0,0)):=PQ.o;have GQ:=zh (show Below W8.heap.size W8 W8.drew from (zB _ _).drew);have HF:∀{k:Nat},(k=4->W8.drew.heap[g]?=some (.cells #[.slice va j vc,.slice none 0 0,.slice none 0 0,.slice none 0 0,.slice none 0 0,.int .i64 0,.int .i64 (vn:Int),.int .i64 0,.int .i64 (fn:Int),.slice none 0 0] 63 (0,0)))/\(k=7\/k=10->W8.drew.heap[x1]?=some (.cells #[.int .i64 c.head.kind,.int .i64 c.head.n,.string c.head.s,.slice a c.head.args.length ac,.slice bd c.body.length bc,.int .i64 c.vars] 65 (0,0)))/\(k=12->W8.drew.heap[x2]?=some (.cells #[.slice kE (aG c).cells.length kF,.int .i64 (aG c).vars,.int .i64 (aG c).head,.slice kG (aG c).goals.length kH] 67 (0,0))):=fun {k}=>⟨fun _=>xk,fun _=>hYd,fun _=>ve⟩;refine iY (F:=fun k w'=>(k=4->w'.heap[g]?=some (.cells #[.slice va j vc,.slice none 0 0,.slice none 0 0,.slice none 0 0,.slice none 0 0,.int .i64 0,.int .i64 (vn:Int),.int .i64 0,.int .i64 (fn:Int),.slice none 0 0] 63 (0,0)))/\(k=7\/k=10->w'.heap[x1]?=some (.cells #[.int .i64 c.head.kind,.int .i64 c.head.n,.string c.head.s,.slice a c.head.args.length ac,.slice bd c.body.length bc,.int .i64 c.vars] 65 (0,0)))/\(k=12->w'.heap[x2]?=some (.cells #[.slice kE (aG c).cells.length kF,.int .i64 (aG c).vars,.int .i64 (aG c).head,.slice kG (aG c).goals.length kH] 67 (0,0)))) (by kernel_rfl) ?_;refine zT 0 HF ?_;try simp only[zP]
   refine zT 1 HF ?_;try simp only[zP]
   refine zT 2 HF ?_;try simp only[zP]
   refine zT 3 HF ?_;try simp only[zP]
   refine aC (i:=4) (v:=?_) rfl (Or.inl ⟨by rfl,?_⟩) HF ?_;rotate_left;·(intro w' hw;obtain ⟨q0,q1,q2,q3,q4,q5,q6,q7,q8,q9,qf⟩:=bP (hw.1 rfl);clear hw;go_simp<;>with_reducible rfl)
   try simp only[zP]
   refine zT 5 HF ?_;try simp only[zP]
   refine zT 6 HF ?_;try simp only[zP]
   refine aC (i:=7) (v:=?_) rfl (Or.inl ⟨by rfl,?_⟩) HF ?_;rotate_left;·(intro w' hw;have q:=dw (hw.2.1 (.inl rfl)) 2;simp at q;clear hw;go_simp<;>with_reducible rfl)
   try simp only[zP]
   refine zT 8 HF ?_;try simp only[zP]
   refine zT 9 HF ?_;try simp only[zP]
   refine aC (i:=10) (v:=?_) rfl (Or.inl ⟨by rfl,?_⟩) HF ?_;rotate_left;·(intro w' hw;have q:=dw (hw.2.1 (.inr rfl)) 3;simp at q;clear hw;go_simp<;>with_reducible rfl)
   try simp only[zP]
   refine zT 11 HF ?_;try simp only[zP]
   refine aC (i:=12) (v:= .agg #[.slice kE (aG c).cells.length kF,.int .i64 (aG c).vars,.int .i64 (aG c).head,.slice kG (aG c).goals.length kH]) rfl (Or.inl ⟨by rfl,?_⟩) HF ?_;·(intro w' hw;obtain ⟨q0,q1,q2,q3,qf⟩:=aW (hw.2.2 rfl);clear hw;go_simp)
   try simp only[zP]
   refine aC (i:=13) (v:= .agg #[.string c.head.s,.int .i64 (c.head.args.length:Int),.slice kE (aG c).cells.length kF,.int .i64 (aG c).vars,.int .i64 (aG c).head,.slice kG (aG c).goals.length kH]) rfl (Or.inl ⟨by rfl,?_⟩) HF ?_;·(intro w' hw;clear hw;go_simp)
   try simp only[zP]
   refine aM (i:=14) (by kernel_rfl) (aF rfl (by rfl) ?_);go_simp;have HA1:=zh (show Below W8.drew.heap.size W8.drew (W8.drew.alloc (.cells #[.string c.head.s,.int .i64 (c.head.args.length:Int),.slice kE (aG c).cells.length kF,.int .i64 (aG c).vars,.int .i64 (aG c).head,.slice kG (aG c).goals.length kH] 71)) from (zB _ _).alloc (zL _) _);refine ⟨fun _ _ h=>⟨fun e=>aL xk HA1.o,fun e=>aL hYd HA1.o,fun e=>aL ve HA1.o⟩,?_⟩;try simp only[zP]
   refine aM (i:=15) (by kernel_rfl) (aF rfl (by rfl) ?_);refine rH (.tmp 58) (.tmp 68) 55 rfl W5.heap.size 71 6 88 aqo qd (A:=fun b=>W5.heap.size<=b) (.slice va j vc) (P.take j) rfl (VL.o.below qd GQ.o) c [.string c.head.s,.int .i64 (c.head.args.length:Int),.slice kE (aG c).cells.length kF,.int .i64 (aG c).vars,.int .i64 (aG c).head,.slice kG (aG c).goals.length kH] rfl rfl ⟨_,_,rfl,aj.mono Ce.aA (by omega) (aj.keeps Ce.aA HC8.o (ag.ob GQ.o)) (fun b _ hb=>⟨by unfold New at hb;omega,fun e=>by have :=(HOWN.o _ e).2;unfold New at hb;omega⟩),aj.mono aQ (by omega) (aj.keeps aQ HG8.o (ag.ob GQ.o)) (fun b _ hb=>⟨by unfold New at hb;omega,fun e=>by have :=(HOWN.o _ e).2;unfold New at hb;omega⟩)⟩ ⟨by rw[dS];omega,by show W5.heap.size<=W8.heap.size;omega⟩ ?_;intro v2 w9 hown2 az;obtain ⟨bN,bO,hv2,qK,qL⟩:=aI.j5 hown2;rw[show (P.take j++[c]).length=j+1 by rw[bA,dS,dW];omega] at hv2;subst hv2;have DZ:=zh ((az.grown.block g (by simp only[bF,ig];omega) (fun e=>aqD e.symm)).trans (aL xk HA1.o));have RS:=zh ((az.grown.block x1 (by simp only[bF,ig];omega) (fun e=>aqB e.symm)).trans (aL hYd HA1.o));have HZ9:=zh ((az.grown.block x2 (by simp only[bF,ig];omega) (fun e=>aqC e.symm)).trans (aL ve HA1.o));have iC:=zh (az.below ((qj.o.drew).alloc (by simp only[ig];omega) _) (by simp only[bF,ig];omega) (fun k hk=>by have :=(HOWN.o k hk).1;omega));have OG:=az.size;simp only[bF,ig] at OG;have HO9:=zh hown2;refine ⟨fun _ _ _=>⟨fun e=>DZ.o,fun e=>RS.o,fun e=>HZ9.o⟩,?_⟩;try simp only[zP]
   clear HF xk hYd ve HA1 sQ WT PQ hown2 az;obtain ⟨b0,b1,b2,b3,b4,b5,b6,b7,b8,b9,bf⟩:=bP DZ.o;have hg9:=aD DZ.o;refine aC (i:=16) (v:=?_) rfl (Or.inl ⟨by rfl,?_⟩) ⟨fun h=>by omega,fun h=>by omega,fun h=>by omega⟩ ?_;rotate_left;·(intro w' hw;clear hw;go_simp<;>with_reducible rfl)
   try simp only[zP]
   refine aC (i:=17) (v:=?_) rfl (Or.inl ⟨by rfl,?_⟩) ⟨fun h=>by omega,fun h=>by omega,fun h=>by omega⟩ ?_;rotate_left;·(intro w' hw;clear hw;go_simp<;>with_reducible rfl)
   try simp only[zP]
   refine aM (i:=18) (by kernel_rfl) (aF rfl (by rfl) ?_);go_simp;refine ⟨fun k' hk' _=>⟨fun h=>?_,fun h=>?_,fun h=>?_⟩,fU (by kernel_rfl) ?_ _⟩;·subst h;exact absurd (hk'.symm.trans (by kernel_rfl):false=true) jV
   ·rcases h with h|h<;>subst h<;>exact absurd (hk'.symm.trans (by kernel_rfl):false=true) jV
   ·subst h;exact absurd (hk'.symm.trans (by kernel_rfl):false=true) jV
   try simp only[zP]
   have UD:=zh (show (w9.setCell ⟨g,0,none⟩ (.slice bN (j+1) bO)).heap[g]?=some (.cells #[.slice bN (j+1) bO,.slice none 0 0,.slice none 0 0,.slice none 0 0,.slice none 0 0,.int .i64 0,.int .i64 (vn:Int),.int .i64 0,.int .i64 (fn:Int),.slice none 0 0] 63 (0,0)) from (bI DZ.o 0 _).trans rfl);have aqF:=zh (HO9.o.keeps (B:=fun b=>b≠g) qd (ag.setCell _ w9 ⟨g,0,none⟩ (.slice bN (j+1) bO) (fun h=>h rfl)) (fun b hb=>by omega) (fun b hb=>by have :=(HO9.o.lt b hb).1;omega));have D5:=zh (iC.o.setCell (p:=⟨g,0,none⟩) hgw (.slice bN (j+1) bO));have OI:W5.heap.size<=(w9.setCell ⟨g,0,none⟩ (.slice bN (j+1) bO)).heap.size:=by simp only[mZ];omega
   clear b0 b1 b2 b3 b4 b5 b6 b7 b8 b9 bf;generalize w9.setCell ⟨g,0,none⟩ (.slice bN (j+1) bO)=w10 at*;go_wp2_with fail;go_roundw;case rel=>exact ⟨j+1,_,by omega,by go_num,D5.o,OI,UD.o,by rw[fB.o];exact aqF.o⟩
   case measure=>simp[intOf];omega
  ·have dm:(P.length:Int)<=(j:Int):=by omega
   have hjj:j=P.length:=by omega
   have bX:=HO.o;rw[jU (by omega)] at bX;have HOP:=zh bX;have HXP:=zh HX.o;rw[hjj] at HXP HOP;clear bX hjj HX HO;have HQC:=zh (HQY.o wr HB.o);rw[show Dm Q (vn:Int)=(bL Q (vn:Int),0) by rw[Dm,ah KI.o]] at HQC;obtain ⟨f1,f2,f3⟩:=aqn KI.o;have tL:=zh f1;have lU:=zh f2;have Ak:=zh f3;clear f1 f2 f3;go_wp2_with fail;refine HQC.o.mono ?_;rintro e zn ⟨r,rfl,l7,cv,gv,rfl,hcv,hgv⟩;simp only at hcv hgv;obtain ⟨kE,kF, -, -,rfl, -⟩:=aj.at hcv;obtain ⟨kG,kH,rfl, -⟩:=KV hgv;obtain ⟨vk,PR⟩:∃W,W=zn.alloc (.cells #[.slice kE (bL Q (vn:Int)).cells.length kF,.int .i64 (bL Q (vn:Int)).vars,.int .i64 (bL Q (vn:Int)).head,.slice kG (bL Q (vn:Int)).goals.length kH] 67):=⟨_,rfl⟩;have hal:Below zn.heap.size zn vk:=by rw[PR];exact (zB _ _).alloc (zL _) _
   obtain ⟨x3,hx3⟩:∃x,x=zn.heap.size:=⟨_,rfl⟩;have La:=l7.trans (hal.mono l7.size);have afp:=zh (show vk.heap[x3]?=some (.cells #[.slice kE (bL Q (vn:Int)).cells.length kF,.int .i64 (bL Q (vn:Int)).vars,.int .i64 (bL Q (vn:Int)).head,.slice kG (bL Q (vn:Int)).goals.length kH] 67 (0,0)) by rw[PR,hx3];exact bV _ _);have nO:=zh (aL HXP.o La);have UN:=zh (HOP.o.below qd La);have BX:=zh (HB.o.trans (La.mono Cj));have aqG:=zh (aj.keeps Ce.aA (aj.mono (A':=fun b=>W5.heap.size<=b) Ce.aA (by omega) hcv (fun b _ hb=>by unfold New at hb;omega)) (ag.ob hal));have UO:=zh (aj.keeps aQ (aj.mono (A':=fun b=>W5.heap.size<=b) aQ (by omega) hgv (fun b _ hb=>by unfold New at hb;omega)) (ag.ob hal));have auL:W5.heap.size<=vk.heap.size:=by have :=La.size;omega
   have aqH:x3≠g:=by have :=l7.size;omega
   have auM:W5.heap.size<=x3:=by have :=l7.size;omega
   have aqI:=zh PR;have aqJ:=zh hx3;clear hcv hgv l7 hal La PR hx3;go_wp2_with fail;rw[<-aqJ.o,<-aqI.o];have auN:x3<vk.heap.size:=aD afp.o;have xk:vk.drew.heap[g]?=some (.cells #[.slice va P.length vc,.slice none 0 0,.slice none 0 0,.slice none 0 0,.slice none 0 0,.int .i64 0,.int .i64 (vn:Int),.int .i64 0,.int .i64 (fn:Int),.slice none 0 0] 63 (0,0)):=nO.o;have ve:vk.drew.heap[x3]?=some (.cells #[.slice kE (bL Q (vn:Int)).cells.length kF,.int .i64 (bL Q (vn:Int)).vars,.int .i64 (bL Q (vn:Int)).head,.slice kG (bL Q (vn:Int)).goals.length kH] 67 (0,0)):=afp.o;have GQ:=zh (show Below vk.heap.size vk vk.drew from (zB _ _).drew);have HF:∀{k:Nat},(k=5->vk.drew.heap[g]?=some (.cells #[.slice va P.length vc,.slice none 0 0,.slice none 0 0,.slice none 0 0,.slice none 0 0,.int .i64 0,.int .i64 (vn:Int),.int .i64 0,.int .i64 (fn:Int),.slice none 0 0] 63 (0,0)))/\(k=7->vk.drew.heap[x3]?=some (.cells #[.slice kE (bL Q (vn:Int)).cells.length kF,.int .i64 (bL Q (vn:Int)).vars,.int .i64 (bL Q (vn:Int)).head,.slice kG (bL Q (vn:Int)).goals.length kH] 67 (0,0))):=fun {k}=>⟨fun _=>xk,fun _=>ve⟩;refine iY (F:=fun k w'=>(k=5->w'.heap[g]?=some (.cells #[.slice va P.length vc,.slice none 0 0,.slice none 0 0,.slice none 0 0,.slice none 0 0,.int .i64 0,.int .i64 (vn:Int),.int .i64 0,.int .i64 (fn:Int),.slice none 0 0] 63 (0,0)))/\(k=7->w'.heap[x3]?=some (.cells #[.slice kE (bL Q (vn:Int)).cells.length kF,.int .i64 (bL Q (vn:Int)).vars,.int .i64 (bL Q (vn:Int)).head,.slice kG (bL Q (vn:Int)).goals.length kH] 67 (0,0)))) (by kernel_rfl) ?_;refine zT 0 HF ?_;try simp only[zP]
   refine zT 1 HF ?_;try simp only[zP]
   refine zT 2 HF ?_;try simp only[zP]
   refine zT 3 HF ?_;try simp only[zP]
   refine zT 4 HF ?_;try simp only[zP]
   refine aC (i:=5) (v:= .agg #[.slice none 0 0,.slice none 0 0]) rfl (Or.inl ⟨by rfl,?_⟩) HF ?_;·(intro w' hw;obtain ⟨q0,q1,q2,q3,q4,q5,q6,q7,q8,q9,qf⟩:=bP (hw.1 rfl);clear hw;go_simp)
   try simp only[zP]
   refine zT 6 HF ?_;try simp only[zP]
   refine aC (i:=7) (v:=?_) rfl (Or.inl ⟨by rfl,?_⟩) HF ?_;rotate_left;·(intro w' hw;obtain ⟨q0,q1,q2,q3,qf⟩:=aW (hw.2 rfl);clear hw;go_simp<;>with_reducible rfl)
   try simp only[zP]
   refine aM (i:=8) (by kernel_rfl) (aF rfl (by rfl) ?_);go_simp;refine (Ri ⟨[],[]⟩ (bL Q (vn:Int)).cells (fun b=>W5.heap.size<=b) vk.drew [.slice none 0 0,.slice none 0 0] _ ⟨_,_,rfl,aj.nil ..,aj.nil ..⟩ (aj.keeps Ce.aA aqG.o (ag.ob GQ.o))).mono ?_;rintro e Df ⟨r,rfl,Lb,us,rfl,nY⟩;obtain ⟨lS,hcc,nM,htc,rfl, -⟩:=Hp.kY nY;have zO:=zh (aL xk Lb);have WU:=zh (aL ve Lb);have WV:=zh (GQ.o.trans Lb);have afq:=zh (nY.mono (A':=fun b=>W5.heap.size<=b) (fun b _ h=>h.elim id (fun h=>by unfold New at h;simp only[ig] at h;omega)));have aqK:=Lb.size;simp only[ig] at aqK;clear Lb nY;refine ⟨fun _ _ _=>⟨fun e=>zO.o,fun e=>WU.o⟩,?_⟩;try simp only[zP]
   clear HF xk ve;have HF:∀{k:Nat},(k=5->Df.heap[g]?=some (.cells #[.slice va P.length vc,.slice none 0 0,.slice none 0 0,.slice none 0 0,.slice none 0 0,.int .i64 0,.int .i64 (vn:Int),.int .i64 0,.int .i64 (fn:Int),.slice none 0 0] 63 (0,0)))/\(k=7->Df.heap[x3]?=some (.cells #[.slice kE (bL Q (vn:Int)).cells.length kF,.int .i64 (bL Q (vn:Int)).vars,.int .i64 (bL Q (vn:Int)).head,.slice kG (bL Q (vn:Int)).goals.length kH] 67 (0,0))):=fun {k}=>⟨fun _=>zO.o,fun _=>WU.o⟩;rw[tL.o];refine zT 9 HF ?_;try simp only[zP]
   refine zT 10 HF ?_;try simp only[zP]
   refine zT 11 HF ?_;try simp only[zP]
   refine zT 12 HF ?_;try simp only[zP]
   refine zT 13 HF ?_;try simp only[zP]
   refine zT 14 HF ?_;try simp only[zP]
   obtain ⟨b0,b1,b2,b3,b4,b5,b6,b7,b8,b9,bf⟩:=bP zO.o;have auO:=aD zO.o;have hcs:=dz;refine aM (i:=15) (by kernel_rfl) (aF rfl (by rfl) ?_);go_simp;refine ⟨fun k' hk' _=>⟨fun h=>?_,fun h=>?_⟩,?_⟩;·subst h;exact absurd (hk'.symm.trans (by kernel_rfl):false=true) jV
   ·subst h;exact absurd (hk'.symm.trans (by kernel_rfl):false=true) jV
   try simp only[zP]
   refine aC (i:=16) (v:=?_) rfl (Or.inl ⟨by rfl,?_⟩) ⟨fun h=>by omega,fun h=>by omega⟩ ?_;rotate_left;·(intro w' hw;clear hw;go_simp<;>with_reducible rfl)
   try simp only[zP]
   refine aC (i:=17) (v:=?_) rfl (Or.inl ⟨by rfl,?_⟩) ⟨fun h=>by omega,fun h=>by omega⟩ ?_;rotate_left;·(intro w' hw;clear hw;go_simp<;>with_reducible rfl)
   try simp only[zP]
   refine aM (i:=18) (by kernel_rfl) (aF rfl (by rfl) ?_);go_simp;refine ⟨fun k' hk' _=>⟨fun h=>?_,fun h=>?_⟩,fU (by kernel_rfl) ?_ _⟩;·subst h;exact absurd (hk'.symm.trans (by kernel_rfl):false=true) jV
   ·subst h;exact absurd (hk'.symm.trans (by kernel_rfl):false=true) jV
   try simp only[zP]
   go_wp2_with fail;obtain ⟨L,hL⟩:∃L,L=fZ ⟨[],[]⟩ (bL Q (vn:Int)).cells:=⟨_,rfl⟩;have HL:=zh hL;rw[<-hL] at afq;rw[<-hL];clear hL hcs b0 b1 b2 b3 b4 b5 b6 b7 b8 b9 bf HF;obtain ⟨mD,GR⟩:∃W,W=(((Df.setCell ⟨g,1,none⟩ (.slice lS L.1.cells.length hcc)).setCell ⟨g,2,none⟩ (.slice nM L.1.trail.length htc)).setCell ⟨g,7,none⟩ (.int .i64 0)):=⟨_,rfl⟩;rw[<-GR];have afr:mD.heap[g]?=some (.cells #[.slice va P.length vc,.slice lS L.1.cells.length hcc,.slice nM L.1.trail.length htc,.slice none 0 0,.slice none 0 0,.int .i64 0,.int .i64 (vn:Int),.int .i64 0,.int .i64 (fn:Int),.slice none 0 0] 63 (0,0)):=by rw[GR];exact (bI ((bI ((bI zO.o 1 _).trans rfl) 2 _).trans rfl) 7 _).trans rfl
   have Lc:ag (fun b=>b≠g) Df mD:=by rw[GR];exact ((ag.setCell _ Df ⟨g,1,none⟩ _ (fun h=>h rfl)).trans (ag.setCell _ _ ⟨g,2,none⟩ _ (fun h=>h rfl))).trans (ag.setCell _ _ ⟨g,7,none⟩ _ (fun h=>h rfl))
   have Ld:=zh (show Below w.heap.size w mD by rw[GR];exact (((BX.o.trans (WV.o.mono BX.o.size)).setCell hgw _).setCell hgw _).setCell hgw _);have auP:mD.heap.size=Df.heap.size:=by rw[GR];simp
   have afs:=zh (show mD.heap[x3]?=some _ from dE WU.o Lc aqH);have WW:=UN.o.below qd WV.o;have aft:=zh (WW.keeps qd Lc (fun b hb=>by omega) (fun b hb=>by have :=(WW.lt b hb).1;omega));have afu:=zh (afq.o.keeps (Lc.mono (fun b _ hb=>by omega)));have afv:=zh (aj.keeps aQ (aj.keeps aQ UO.o (ag.ob WV.o)) (Lc.mono (fun b _ hb=>by omega)));have yX:=zh afr;clear afr Lc GR WW;have aqL:g<mD.heap.size:=by omega
   have tT:=zh (show bT mD.heap.size P vn g (.slice va P.length vc) (.slice lS L.1.cells.length hcc) (.slice nM L.1.trail.length htc) ⟨.slice none 0 0,.slice none 0 0,.slice none 0 0⟩ ⟨L.1,[],[],0,0,fn,[]⟩ mD from { box:=yX.o,prog:=aj.mono qd (by omega) (aI.sl qd aft.o (by omega) (fun b hb=>hb)) (fun b hb h=>⟨hb,by omega⟩),heap:=afu.o.mono (fun b _ hb hm=>by rcases hm with hm|hm|hm|hm<;>first|omega|simp[ownB] at hm),goals:=af.nil,cu:=af.nil,out:=aI.nil ..,bg:=⟨aqL,zL _⟩,sM:=by unfold au;simp only;omega,qb:=by unfold au;simp only;omega,fu:=by show fn<=150;omega,qq:=by omega,gl:=by simp,cl:=by simp,ol:=by simp });have DV:=zh (fun (W:World) (hb:Below mD.heap.size mD W)=>Uh (base:=mD.heap.size) (P:=P) (q:=vn) (g:=g) (.slice kE (bL Q (vn:Int)).cells.length kF) (.slice kG (bL Q (vn:Int)).goals.length kH) (bL Q (vn:Int)).vars (bL Q (vn:Int)).head (bL Q (vn:Int)).goals 0 0 (-1) (aj.keeps aQ (aj.mono (A':=fun b=>b<mD.heap.size/\b≠g) aQ (by omega) afv.o (fun b hb h=>⟨hb,by omega⟩)) (ag.ob hb|>.mono (fun b _ h=>h.1))) Ak.o (by omega) (by omega) (by omega) (by unfold au;omega) (by have :=lU.o;simp only[fC];omega) (tT.o.below hb));have xk:mD.drew.heap[g]?=some (.cells #[.slice va P.length vc,.slice lS L.1.cells.length hcc,.slice nM L.1.trail.length htc,.slice none 0 0,.slice none 0 0,.int .i64 0,.int .i64 (vn:Int),.int .i64 0,.int .i64 (fn:Int),.slice none 0 0] 63 (0,0)):=yX.o;have ve:mD.drew.heap[x3]?=some (.cells #[.slice kE (bL Q (vn:Int)).cells.length kF,.int .i64 (bL Q (vn:Int)).vars,.int .i64 (bL Q (vn:Int)).head,.slice kG (bL Q (vn:Int)).goals.length kH] 67 (0,0)):=afs.o;have auQ:x3<mD.drew.heap.size:=aD ve;have HF:∀{k:Nat},(k=6->mD.drew.heap[g]?=some (.cells #[.slice va P.length vc,.slice lS L.1.cells.length hcc,.slice nM L.1.trail.length htc,.slice none 0 0,.slice none 0 0,.int .i64 0,.int .i64 (vn:Int),.int .i64 0,.int .i64 (fn:Int),.slice none 0 0] 63 (0,0)))/\(k=2->mD.drew.heap[x3]?=some (.cells #[.slice kE (bL Q (vn:Int)).cells.length kF,.int .i64 (bL Q (vn:Int)).vars,.int .i64 (bL Q (vn:Int)).head,.slice kG (bL Q (vn:Int)).goals.length kH] 67 (0,0))):=fun {k}=>⟨fun _=>xk,fun _=>ve⟩;refine iY (F:=fun k w'=>(k=6->w'.heap[g]?=some (.cells #[.slice va P.length vc,.slice lS L.1.cells.length hcc,.slice nM L.1.trail.length htc,.slice none 0 0,.slice none 0 0,.int .i64 0,.int .i64 (vn:Int),.int .i64 0,.int .i64 (fn:Int),.slice none 0 0] 63 (0,0)))/\(k=2->w'.heap[x3]?=some (.cells #[.slice kE (bL Q (vn:Int)).cells.length kF,.int .i64 (bL Q (vn:Int)).vars,.int .i64 (bL Q (vn:Int)).head,.slice kG (bL Q (vn:Int)).goals.length kH] 67 (0,0)))) (by kernel_rfl) ?_;refine zT 0 HF ?_;try simp only[zP]
   refine zT 1 HF ?_;try simp only[zP]
   refine aC (i:=2) (v:= .agg #[.slice kE (bL Q (vn:Int)).cells.length kF,.int .i64 (bL Q (vn:Int)).vars,.int .i64 (bL Q (vn:Int)).head,.slice kG (bL Q (vn:Int)).goals.length kH]) rfl (Or.inl ⟨by rfl,?_⟩) HF ?_;·(intro w' hw;obtain ⟨q0,q1,q2,q3,qf⟩:=aW (hw.2 rfl);clear hw;go_simp)
   try simp only[zP]
   refine zT 3 HF ?_;try simp only[zP]
   refine zT 4 HF ?_;try simp only[zP]
   refine zT 5 HF ?_;try simp only[zP]
   refine aC (i:=6) (v:=?_) rfl (Or.inl ⟨by rfl,?_⟩) HF ?_;rotate_left;·(intro w' hw;obtain ⟨q0,q1,q2,q3,q4,q5,q6,q7,q8,q9,qf⟩:=bP (hw.1 rfl);clear hw;go_simp<;>with_reducible rfl)
   try simp only[zP]
   refine aM (i:=7) (by kernel_rfl) (aF rfl (by rfl) ?_);go_simp;refine (DV.o mD.drew ((zB _ _).drew)).mono ?_;rintro e w15 ⟨rfl,auR,auS,o15,afw,afx,afy⟩;have Ck:=zh afw;have afz:=zh afx;have aqN:=zh afy;clear afw afx afy;refine ⟨fun k' hk' _=>⟨fun h=>?_,fun h=>?_⟩,?_⟩;·subst h;exact absurd (hk'.symm.trans (by kernel_rfl):false=true) jV
   ·subst h;exact absurd (hk'.symm.trans (by kernel_rfl):false=true) jV
   try simp only[zP]
   clear HF xk ve;obtain ⟨b0,b1,b2,b3,b4,b5,b6,b7,b8,b9,bf⟩:=bP Ck.o.box;have auU:=Ck.o.lt.1;refine aC (i:=8) (v:=?_) rfl (Or.inl ⟨by rfl,?_⟩) ⟨fun h=>by omega,fun h=>by omega⟩ ?_;rotate_left;·(intro w' hw;clear hw;go_simp<;>with_reducible rfl)
   try simp only[zP]
   refine aC (i:=9) (v:=?_) rfl (Or.inl ⟨by rfl,?_⟩) ⟨fun h=>by omega,fun h=>by omega⟩ ?_;rotate_left;·(intro w' hw;clear hw;go_simp<;>with_reducible rfl)
   try simp only[zP]
   refine aM (i:=10) (by kernel_rfl) (aF rfl (by rfl) ?_);go_simp;refine ⟨fun k' hk' _=>⟨fun h=>?_,fun h=>?_⟩,fU (by kernel_rfl) ?_ _⟩;·subst h;exact absurd (hk'.symm.trans (by kernel_rfl):false=true) jV
   ·subst h;exact absurd (hk'.symm.trans (by kernel_rfl):false=true) jV
   try simp only[zP]
   clear b0 b1 b2 b3 b4 b5 b6 b7 b8 b9 bf;have Gt:wG Q (vn:Int) fn=⟨L.1,(eH 0 0 (bL Q (vn:Int)).goals [] (-1)).1,[],(eH 0 0 (bL Q (vn:Int)).goals [] (-1)).2,0,fn,[]⟩:=by have :=tL.o;rw[<-HL.o] at this;unfold wG;simp only[<-HL.o,this]
   have sK:au (eH 0 0 (bL Q (vn:Int)).goals [] (-1)).2:=by have h1:=Oh.o.mi.kD;obtain ⟨φ, -, -,h2⟩:=Oh.o.mi.cur;have h3:=h2.ge;rw[Gt] at h1 h3;simp only at h1 h3;unfold au;omega
   obtain ⟨hc16,auV,o16,WX,afA,aqO⟩:=Ck.o.F3 (m':=⟨L.1,(eH 0 0 (bL Q (vn:Int)).goals [] (-1)).1,[],(eH 0 0 (bL Q (vn:Int)).goals [] (-1)).2,0,fn,[]⟩) 5 (.int .i64 (eH 0 0 (bL Q (vn:Int)).goals [] (-1)).2) ⟨rfl,rfl,rfl,rfl⟩ ((bI Ck.o.box 5 _).trans rfl) sK Ck.o.qb Ck.o.fu;rw[<-Gt] at WX;have afB:=zh WX;have afC:=zh (GN (tT.o.below ((zB _ _).drew)) Ld.o.drew afz.o hgw (by have :=Ld.o.size;omega));have aqP:=zh (GN Ck.o afC.o afA hgw (by have :=Ld.o.size;omega));clear WX afA aqO sK Gt;generalize w15.setCell ⟨g,5,none⟩ (.int .i64 (eH 0 0 (bL Q (vn:Int)).goals [] (-1)).2)=W16 at*;obtain ⟨base,hbase⟩:∃base,base=mD.heap.size:=⟨_,rfl⟩;have hbw:w.heap.size<=base:=by rw[hbase];exact Ld.o.size
   rw[<-hbase] at afB;obtain ⟨R,hR⟩:∃R,R=runM P vn (fn:Int) every (fn+14) (wG Q (vn:Int) fn):=⟨_,rfl⟩;have HR:=zh (show jB P Q (vn:Int) (fn:Int) every=(R.out,0) by rw[hR];exact HS.o);have VR:=zh (show yu P vn (fn:Int) every R (wG Q (vn:Int) fn) from ⟨fn+14,_,_,Oh.o,qA _,by simp,by simp,hR.symm⟩);generalize wG Q (vn:Int) fn=m0 at*;clear hR hbase tT Ck afz aqN afC DV afv afs yX aft afu Ld;go_wp2_with fail;go_loopw[19] (fun on wr=>∃(m:Mv) (hc ht:Value) (o:Mo),bT base P vn g (.slice va P.length vc) hc ht o m wr/\Below w.heap.size w wr/\((on= .bool false/\m=R)\/(on= .bool true/\yu P vn (fn:Int) every R m))) (fun on wr=>tQ on g wr);case atStart=>exact ⟨m0,_,_,_,afB.o,aqP.o,.inr ⟨rfl,VR.o⟩⟩
   case round=>
    obtain ⟨m,hc,ht,o,hmv,hbl,hst⟩:=hrel;have HV:=zh hmv;have Fv:=zh hbl;have hmu:=zh (K9 hmv);have HMB:=zh (fun (w':World) (hch:Ch (MM g o) wr w')=>GN hmv hbl hch hgw hbw);obtain ⟨gv,cv,ov⟩:=o;obtain ⟨-, -,ga,gc,ca,cc,oa,oc,ha,hac,hb,hbc, -,rfl,rfl,rfl,rfl,rfl, -, -, -, -, -, -,o1,o2⟩:=hmv.vals;obtain ⟨b0,b1,b2,b3,b4,b5,b6,b7,b8,b9,bf⟩:=bP hmv.box;simp only at b9;have auX:=hmv.lt.1;have hfu:=hmv.fu;unfold maxLen at o2;clear hmv hbl;rcases hst with ⟨rfl,hmR⟩|⟨rfl,hra⟩;·subst hmR;go_wp2_with fail;go_ret2;rw[HR.o];exact ⟨_,rfl,Fv.o,(HV.o.out.mono (A':=fun _=>True) uy fun _ _ _=>trivial).sl uy (show m.out.length<=1048576 by have :=HV.o.ol;omega) (fun _ _=>trivial)⟩
    ·have HRN:=zh hra;obtain ⟨k1,k2,k3,k4,k5,k6⟩:=hra.few;clear hra;by_cases sK:m.now<0
     ·have HAN:=zh (aoh HV.o Ci.o k5 k6 k1 k2 k3);obtain ⟨r1,r2⟩:=HRN.o.answer Ci.o sK;have HR1:=zh r1;have HR2:=zh r2;clear k1 k2 k3 k4 k5 k6 r1 r2;go_wp2_with fail;refine HAN.o.mono ?_;rintro e w9 ⟨rfl,GJ,GK,o9,qm,nT,tN⟩;have iW:=zh qm;have iC:=zh (HMB.o w9 nT);clear qm nT tN HAN;generalize qV P vn m=r9 at*;obtain ⟨rr,m9⟩:=r9;have Ei:Eh g w9=uZ m9:=K9 iW.o;cases rr with
       |next=>
        obtain ⟨q1,q2⟩:=HR1.o m9 rfl;have uX:=zh q1;have Ej:=zh q2;clear q1 q2;simp only[sV];go_wp2_with fail;go_roundw;case rel=>exact ⟨m9,_,_,_,iW.o,iC.o,.inr ⟨rfl,uX.o⟩⟩
        case measure=>have h1:=Ej.o;have h2:=hmu.out;simp only[tQ];rw[h2,Ei];omega
       |no=>
        have qp:=HR2.o _ m9 rfl (by simp);simp only[sV];go_wp2_with fail;go_roundw;case rel=>exact ⟨m9,_,_,_,iW.o,iC.o,.inl ⟨rfl,qp⟩⟩
        case measure=>simp[tQ]
       |off=>
        have qp:=HR2.o _ m9 rfl (by simp);simp only[sV];go_wp2_with fail;go_roundw;case rel=>exact ⟨m9,_,_,_,iW.o,iC.o,.inl ⟨rfl,qp⟩⟩
        case measure=>simp[tQ]
     ·have auY:0<=m.now:=by omega
      have auZ:(0:Int)<=(m.fuel:Int):=zN _;have hwr:IntKind.i64.wrap ((fn:Int) - (m.fuel:Int))=(fn:Int) - (m.fuel:Int):=Cw _ (by omega);have hst:=zh (HRN.o.step Ci.o sK);have PS:=zh (apq HV.o k4);clear k1 k2 k3 k4 k5 k6;have HCM:=zh (show u6 vn (fn:Int) every m=if every>0/\((fn:Int) - m.fuel)%every=0 then wE vn m else m from rfl);by_cases hev:0<every
      ·by_cases htm:Int.tmod ((fn:Int) - (m.fuel:Int)) every=0
       ·have Ac:=zh (HCM.o.trans (ah ⟨hev,Int.emod_eq_zero_of_dvd (Int.dvd_of_tmod_eq_zero htm)⟩));go_wp2_with fail;refine PS.o.mono ?_;rintro e w8 ⟨⟨r8,rfl⟩,hc8,Vl,o8,BN,BO,Ea⟩;have tT:=zh BN;have Le:=zh (HMB.o w8 BO);clear BN BO Ea PS b0 b1 b2 b3 b4 b5 b6 b7 b8 b9 bf;have au0:=tT.o.lt.1;have eU:=hst.out;rw[Ac.o] at eU;obtain ⟨s1,s2,s3,s4,s5,s6⟩:=eU;have dV:=zh (Vn tT.o Ci.o s1 s2 s3 s4);have HR1:=zh s5;have HR2:=zh s6;clear s1 s2 s3 s4 s5 s6 hst;go_wp2_with fail;refine dV.o.mono ?_;rintro e w9 ⟨rfl,GJ,GK,o9,qm,nT,tN⟩;have iW:=zh qm;have iC:=zh (GN tT.o Le.o nT hgw hbw);clear qm nT tN dV;generalize jP P (wE vn m)=r9 at*;obtain ⟨rr,m9⟩:=r9;have Ei:Eh g w9=uZ m9:=K9 iW.o;cases rr with
         |next=>
          obtain ⟨q1,q2⟩:=HR1.o m9 rfl;have uX:=zh q1;have Ej:=zh q2;clear q1 q2;simp only[sV];go_wp2_with fail;go_roundw;case rel=>exact ⟨m9,_,_,_,iW.o,iC.o,.inr ⟨rfl,uX.o⟩⟩
          case measure=>have h1:=Ej.o;have h2:=hmu.out;simp only[tQ];rw[h2,Ei];omega
         |no=>
          have qp:=HR2.o _ m9 rfl (by simp);simp only[sV];go_wp2_with fail;go_roundw;case rel=>exact ⟨m9,_,_,_,iW.o,iC.o,.inl ⟨rfl,qp⟩⟩
          case measure=>simp[tQ]
         |off=>
          have qp:=HR2.o _ m9 rfl (by simp);simp only[sV];go_wp2_with fail;go_roundw;case rel=>exact ⟨m9,_,_,_,iW.o,iC.o,.inl ⟨rfl,qp⟩⟩
          case measure=>simp[tQ]
       ·have Ac:=zh (HCM.o.trans (ae (fun h=>htm (Int.tmod_eq_zero_of_dvd (Int.dvd_of_emod_eq_zero h.2)))));have tT:=zh HV.o;have Le:=zh Fv.o;have eU:=hst.out;rw[Ac.o] at eU;obtain ⟨s1,s2,s3,s4,s5,s6⟩:=eU;have dV:=zh (Vn tT.o Ci.o s1 s2 s3 s4);have HR1:=zh s5;have HR2:=zh s6;clear s1 s2 s3 s4 s5 s6 hst PS;go_wp2_with fail;refine dV.o.mono ?_;rintro e w9 ⟨rfl,GJ,GK,o9,qm,nT,tN⟩;have iW:=zh qm;have iC:=zh (GN tT.o Le.o nT hgw hbw);clear qm nT tN dV;generalize jP P m=r9 at*;obtain ⟨rr,m9⟩:=r9;have Ei:Eh g w9=uZ m9:=K9 iW.o;cases rr with
         |next=>
          obtain ⟨q1,q2⟩:=HR1.o m9 rfl;have uX:=zh q1;have Ej:=zh q2;clear q1 q2;simp only[sV];go_wp2_with fail;go_roundw;case rel=>exact ⟨m9,_,_,_,iW.o,iC.o,.inr ⟨rfl,uX.o⟩⟩
          case measure=>have h1:=Ej.o;have h2:=hmu.out;simp only[tQ];rw[h2,Ei];omega
         |no=>
          have qp:=HR2.o _ m9 rfl (by simp);simp only[sV];go_wp2_with fail;go_roundw;case rel=>exact ⟨m9,_,_,_,iW.o,iC.o,.inl ⟨rfl,qp⟩⟩
          case measure=>simp[tQ]
         |off=>
          have qp:=HR2.o _ m9 rfl (by simp);simp only[sV];go_wp2_with fail;go_roundw;case rel=>exact ⟨m9,_,_,_,iW.o,iC.o,.inl ⟨rfl,qp⟩⟩
          case measure=>simp[tQ]
      ·have Ac:=zh (HCM.o.trans (ae (fun h=>hev h.1)));have tT:=zh HV.o;have Le:=zh Fv.o;have eU:=hst.out;rw[Ac.o] at eU;obtain ⟨s1,s2,s3,s4,s5,s6⟩:=eU;have dV:=zh (Vn tT.o Ci.o s1 s2 s3 s4);have HR1:=zh s5;have HR2:=zh s6;clear s1 s2 s3 s4 s5 s6 hst PS;go_wp2_with fail;refine dV.o.mono ?_;rintro e w9 ⟨rfl,GJ,GK,o9,qm,nT,tN⟩;have iW:=zh qm;have iC:=zh (GN tT.o Le.o nT hgw hbw);clear qm nT tN dV;generalize jP P m=r9 at*;obtain ⟨rr,m9⟩:=r9;have Ei:Eh g w9=uZ m9:=K9 iW.o;cases rr with
        |next=>
         obtain ⟨q1,q2⟩:=HR1.o m9 rfl;have uX:=zh q1;have Ej:=zh q2;clear q1 q2;simp only[sV];go_wp2_with fail;go_roundw;case rel=>exact ⟨m9,_,_,_,iW.o,iC.o,.inr ⟨rfl,uX.o⟩⟩
         case measure=>have h1:=Ej.o;have h2:=hmu.out;simp only[tQ];rw[h2,Ei];omega
        |no=>
         have qp:=HR2.o _ m9 rfl (by simp);simp only[sV];go_wp2_with fail;go_roundw;case rel=>exact ⟨m9,_,_,_,iW.o,iC.o,.inl ⟨rfl,qp⟩⟩
         case measure=>simp[tQ]
        |off=>
         have qp:=HR2.o _ m9 rfl (by simp);simp only[sV];go_wp2_with fail;go_roundw;case rel=>exact ⟨m9,_,_,_,iW.o,iC.o,.inl ⟨rfl,qp⟩⟩
         case measure=>simp[tQ]
theorem aqR(Ab:lX P<=1099511627776)(hnq:Tm.aH Q<=1099511627776)(hv:au vars)(hf:au fuel)(hei:au every)(w:World)(pv qv:Value)(hpv:EP (fun b=>b<w.heap.size) w P pv)(fT:iP (fun b=>b<w.heap.size) w Q qv):Calls Tryz.prog 8 #[pv,qv,.int .i64 vars,.int .i64 fuel,.int .i64 every] w (WO w (jB P Q vars fuel every)):=by
 rcases WQ P Q vars fuel every with⟨h,_⟩|⟨_,h,_⟩|⟨⟨h1,h2⟩,h3,h4,h5,_⟩;·exact afi (.inl h) Ab hnq hv hf w pv qv hpv fT
 ·exact afi (.inr h) Ab hnq hv hf w pv qv hpv fT
 ·exact aqp h1 h2 h3 h4 h5 hei Ab hnq w pv qv hpv fT
end
